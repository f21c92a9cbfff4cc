/- What the claim leans on, part 3: own readings of the program's functions, what they come to, laws of them. No condition. -/
import Derived.Test.YtbmcbcoaeclfbaaZActStamps2
namespace Go.Fl
open Go Go.Proofs
set_option linter.unusedVariables false
set_option maxRecDepth 10000000
def w_ax (a0 a1 : Value) (K : Value → Mem → Prop) (σ : Mem) : Prop :=xC (gBox 4 [a0] []) fun c2 =>xC (gBox 2 [a1] []) fun c3 =>xF fMove [.bool false] fun v4 =>xF (fFld 0) [(locP 2)] fun v5 =>xO (gLoad 1 false [v5] c2) fun v6 =>xF (fBin .eql .no) [v6, .int .i64 1] fun v7 =>xF fMove [v7] fun v8 =>xIf v8
 (xF fPick [.bool true, .bool true, undef] fun v12 =>xF fMove [v12] fun v13 =>xIf v13
 (xF fPick [.bool true, .bool true, undef] fun v17 =>xF fMove [v17] fun v18 =>xIf v18
 (xF (fFld 2) [(locP 2)] fun v19 =>xO (gLoad 1 false [v19] c2) fun v20 =>xF (fFld 1) [(locP 3)] fun v21 =>xO (gLoad 1 false [v21] c3) fun v22 =>xF (fBin .eql .no) [v20, v22] fun v23 =>xF fPick [.bool true, v23, .bool false] fun v24 =>xF fMove [v24] fun v4 =>K v4 σ)
 (xF fPick [.bool false, undef, .bool false] fun v24 =>xF fMove [v24] fun v4 =>K v4 σ))
 (xF (fFld 0) [(locP 2)] fun v14 =>xO (gLoad 1 false [v14] c2) fun v15 =>xF (fBin .eql .no) [v15, .int .i64 4] fun v16 =>xF fPick [.bool false, .bool true, v16] fun v17 =>xF fMove [v17] fun v18 =>xIf v18
 (xF (fFld 2) [(locP 2)] fun v19 =>xO (gLoad 1 false [v19] c2) fun v20 =>xF (fFld 1) [(locP 3)] fun v21 =>xO (gLoad 1 false [v21] c3) fun v22 =>xF (fBin .eql .no) [v20, v22] fun v23 =>xF fPick [.bool true, v23, .bool false] fun v24 =>xF fMove [v24] fun v4 =>K v4 σ)
 (xF fPick [.bool false, undef, .bool false] fun v24 =>xF fMove [v24] fun v4 =>K v4 σ)))
 (xF (fFld 0) [(locP 2)] fun v9 =>xO (gLoad 1 false [v9] c2) fun v10 =>xF (fBin .eql .no) [v10, .int .i64 2] fun v11 =>xF fPick [.bool false, .bool true, v11] fun v12 =>xF fMove [v12] fun v13 =>xIf v13
 (xF fPick [.bool true, .bool true, undef] fun v17 =>xF fMove [v17] fun v18 =>xIf v18
 (xF (fFld 2) [(locP 2)] fun v19 =>xO (gLoad 1 false [v19] c2) fun v20 =>xF (fFld 1) [(locP 3)] fun v21 =>xO (gLoad 1 false [v21] c3) fun v22 =>xF (fBin .eql .no) [v20, v22] fun v23 =>xF fPick [.bool true, v23, .bool false] fun v24 =>xF fMove [v24] fun v4 =>K v4 σ)
 (xF fPick [.bool false, undef, .bool false] fun v24 =>xF fMove [v24] fun v4 =>K v4 σ))
 (xF (fFld 0) [(locP 2)] fun v14 =>xO (gLoad 1 false [v14] c2) fun v15 =>xF (fBin .eql .no) [v15, .int .i64 4] fun v16 =>xF fPick [.bool false, .bool true, v16] fun v17 =>xF fMove [v17] fun v18 =>xIf v18
 (xF (fFld 2) [(locP 2)] fun v19 =>xO (gLoad 1 false [v19] c2) fun v20 =>xF (fFld 1) [(locP 3)] fun v21 =>xO (gLoad 1 false [v21] c3) fun v22 =>xF (fBin .eql .no) [v20, v22] fun v23 =>xF fPick [.bool true, v23, .bool false] fun v24 =>xF fMove [v24] fun v4 =>K v4 σ)
 (xF fPick [.bool false, undef, .bool false] fun v24 =>xF fMove [v24] fun v4 =>K v4 σ)))
def s_ax : Spec := fun args K σ => match args with
  | [a0, a1] => w_ax a0 a1 K σ
  | _ => False
noncomputable def cx_ax : Cx := { P := Try.prog, T := [], loc := [(2, 2), (3, 3), (5, 2), (9, 2), (14, 2), (19, 2), (21, 3)], eqt := [], n := 25, keep := [] }
theorem q_ax : FnS cx_ax Try.f99 (bodyOf Try.f99) 2 = s_ax := by
  funext args K σ
  rcases args with _ | ⟨a0, _ | ⟨a1, _ | ⟨b, r⟩⟩⟩ <;> kernel_rfl
theorem e_ax : Entry Try.prog 99 .none s_ax :=
  entry (C := cx_ax) TOk.nil mixedOk Try.func99 (by kernel_rfl) (by kernel_rfl) (by kernel_rfl) q_ax
def xl_ax : List (Nat × Nat) := [(2, 2), (3, 3), (5, 2), (9, 2), (14, 2), (19, 2), (21, 3)]
noncomputable def xc_ax : XC XN :=
(.seq none
 (.reg [zy xl_ax (.lb 2 4) 2 [.tmp 0],
  zy xl_ax (.lb 3 2) 3 [.tmp 1],
  zc 4 (.bool false)])
 (.seq none
 (.reg [zF 0 5 2,
  zr 2 6 5,
  zb .eql rEql 7 [.tmp 6, .const (.int .i64 1)],
  zM 8 7,
  ⟨(some (4, 3, false, some 8)), some 9, [.tmp 2], ⟨.f (fFld 0), rFld 0⟩⟩,
  ⟨(some (5, 3, false, some 8)), some 10, [.tmp 9], ⟨.lr 2 1 false, rLr1 2⟩⟩,
  ⟨(some (6, 3, false, some 8)), some 11, [.tmp 10, (.const (.int .i64 2))], ⟨.f (fBin .eql .no), rEql⟩⟩,
  zz (.f fPick) rPick (some 12) [.tmp 8, .const (.bool true), .tmp 11],
  zM 13 12,
  ⟨(some (9, 8, false, some 13)), some 14, [.tmp 2], ⟨.f (fFld 0), rFld 0⟩⟩,
  ⟨(some (10, 8, false, some 13)), some 15, [.tmp 14], ⟨.lr 2 1 false, rLr1 2⟩⟩,
  ⟨(some (11, 8, false, some 13)), some 16, [.tmp 15, (.const (.int .i64 4))], ⟨.f (fBin .eql .no), rEql⟩⟩,
  zz (.f fPick) rPick (some 17) [.tmp 13, .const (.bool true), .tmp 16],
  zM 18 17,
  ⟨(some (14, 13, true, some 18)), some 19, [.tmp 2], ⟨.f (fFld 2), rFld 2⟩⟩,
  ⟨(some (15, 13, true, some 18)), some 20, [.tmp 19], ⟨.lr 2 1 false, rLr1 2⟩⟩,
  ⟨(some (16, 13, true, some 18)), some 21, [.tmp 3], ⟨.f (fFld 1), rFld 1⟩⟩,
  ⟨(some (17, 13, true, some 18)), some 22, [.tmp 21], ⟨.lr 3 1 false, rLr1 3⟩⟩,
  ⟨(some (18, 13, true, some 18)), some 23, [.tmp 20, .tmp 22], ⟨.f (fBin .eql .no), rEql⟩⟩,
  zz (.f fPick) rPick (some 24) [.tmp 18, .tmp 23, .const (.bool false)],
  zM 4 24])
 .ret))
noncomputable def v_ax : EvF := evFn 2 xc_ax [.t 4]
theorem xt_ax : toC cx_ax (bodyOf Try.f99) = some (xc_ax.map XN.sm) := by kernel_rfl
theorem xr_ax : toR cx_ax Try.f99.results.toList = some [.t 4] := by kernel_rfl
theorem xo_ax : xc_ax.ok xl_ax := ⟨⟨r_a (trivial), r_a (trivial), r_m, trivial⟩, ⟨⟨r_f _, r_r _, r_e, r_m, r_f _, r_r _, r_e, r_p, r_m, r_f _, r_r _, r_e, r_p, r_m, r_f _, r_r _, r_f _, r_r _, r_e, r_p, r_m, trivial⟩, trivial⟩⟩
theorem ve_ax : EvOk s_ax v_ax := EvOk.of (evFn_sound (C := cx_ax) xt_ax xr_ax xo_ax) q_ax
attribute [irreducible] w_ax s_ax
def w_av_j1b (K : Value → Mem → Prop) (v0 v28 : Value) (c3 c5 : List Value) (σ : Mem) : Prop :=xIf v28
 (xF fMove [v0] fun v29 =>xO (gLoad 9 true [(locP 3)] c3) fun v30 =>s_au [v29, v30] (fun v31 σ =>xF fMove [v31] fun v4 =>K v4 σ) σ)
 (xF fMove [v0] fun v32 =>xO (gLoad 9 true [(locP 3)] c3) fun v33 =>xF (fFld 0) [(locP 3)] fun v34 =>xO (gLoad 7 true [v34] c3) fun v35 =>xF (fFld 0) [(locP 5)] fun v36 =>xO (gLoad 1 false [v36] c5) fun v37 =>s_bp [v35, v37] (fun v38 σ =>s_bf [v33, v38] (fun v39 σ =>xF fNil [v32] fun v40 =>xF (fFld 5) [v40] fun v41 =>hStore 1 [v41, v39] (fun _v σ =>xF fMove [v0] fun v42 =>xF fNil [v42] fun v43 =>xF (fFld 5) [v43] fun v44 =>hLoad 1 false [v44] (fun v45 σ =>s_co [v45] (fun v46 σ =>xO (gLoad 2 true [(locP 5)] c5) fun v47 =>s_ax [v46, v47] (fun v48 σ =>xF (fUn .not) [v48] fun v49 =>xIf v49
 (xF fMove [v0] fun v50 =>xO (gLoad 9 true [(locP 3)] c3) fun v51 =>s_au [v50, v51] (fun v52 σ =>xF fMove [v52] fun v4 =>K v4 σ) σ)
 (xF fMove [v0] fun v53 =>xF fNil [v53] fun v54 =>xF (fFld 4) [v54] fun v55 =>hStore 1 [v55, .int .i64 1] (fun _v σ =>xF fMove [.bool false] fun v4 =>K v4 σ) σ)) σ) σ) σ) σ) σ) σ)
def w_av_j1 (K : Value → Mem → Prop) (ts : List Value) (ls : List (List Value)) (σ : Mem) : Prop := w_av_j1b K (ts.getD 0 poison) (ts.getD 1 poison) (ls.getD 0 []) (ls.getD 1 []) σ
def w_av (a0 a1 : Value) (K : Value → Mem → Prop) (σ : Mem) : Prop :=xC (gBox 9 [a1] []) fun c3 =>xF fMove [.bool false] fun v4 =>xF fMove [a0] fun v8 =>xF fNil [v8] fun v9 =>xF (fFld 0) [v9] fun v10 =>hLoad 1 false [v10] (fun v11 σ =>s_cg [v11] (fun v12 σ =>xF fMove [v12] fun v7 =>xF (fExt 0) [v7] fun v13 =>xF (fExt 1) [v7] fun v14 =>xC (gStore 2 [(locP 5), v13] [.int .i64 0, .int .i64 0]) fun c5 =>xF fMove [v14] fun v6 =>xF fMove [a0] fun v15 =>xO (gLoad 2 true [(locP 5)] c5) fun v16 =>xF fNil [v15] fun v17 =>xF (fFld 2) [v17] fun v18 =>hStore 2 [v18, v16] (fun _v σ =>xJoin (w_av_j1 K) fun J1 =>xF fMove [v6] fun v19 =>xF (fUn .not) [v19] fun v20 =>xF fMove [v20] fun v21 =>xIf v21
 (xF fPick [.bool true, .bool true, undef] fun v28 =>J1 [a0, v28] [c3, c5] σ)
 (xF (fFld 0) [(locP 5)] fun v22 =>xO (gLoad 1 false [v22] c5) fun v23 =>xF (fFld 0) [(locP 3)] fun v24 =>xF (fFld 1) [v24] fun v25 =>xO (gLoad 1 false [v25] c3) fun v26 =>xF (fBin .geq .no) [v23, v26] fun v27 =>xF fPick [.bool false, .bool true, v27] fun v28 =>J1 [a0, v28] [c3, c5] σ)) σ) σ) σ
def s_av : Spec := fun args K σ => match args with
  | [a0, a1] => w_av a0 a1 K σ
  | _ => False
noncomputable def cx_av : Cx := { P := Try.prog, T := [(98, .none, s_cg), (92, .write, s_au), (30, .none, s_bp), (37, .write, s_bf), (67, .none, s_co), (99, .none, s_ax)], loc := [(3, 3), (5, 5), (22, 5), (24, 3), (25, 3), (34, 3), (36, 5)], eqt := [], n := 56, keep := [(1000005, [0, 28], [3, 5])] }
theorem q_av : FnS cx_av Try.f90 (bodyOf Try.f90) 2 = s_av := by
  funext args K σ
  rcases args with _ | ⟨a0, _ | ⟨a1, _ | ⟨b, r⟩⟩⟩ <;> kernel_rfl
theorem e_av : Entry Try.prog 90 .write s_av :=
  entry (C := cx_av) (TOk.cons e_cg (TOk.cons e_au (TOk.cons e_bp (TOk.cons e_bf (TOk.cons e_co (TOk.cons e_ax TOk.nil)))))) mixedOk Try.func90 (by kernel_rfl) (by kernel_rfl) (by kernel_rfl) q_av
def xl_av : List (Nat × Nat) := [(3, 3), (5, 5), (22, 5), (24, 3), (25, 3), (34, 3), (36, 5)]
noncomputable def xc_av : XC XN :=
(.seq none
 (.reg [zy xl_av (.lb 3 9) 3 [.tmp 1],
  zc 4 (.bool false)])
 (.seq none
 (.reg [zM 8 0,
  zN 9 8,
  zF 0 10 9,
  zL 11 10,
  zk .none s_cg v_cg 12 [.tmp 11],
  zM 7 12,
  zy xl_av (.f (fExt 0)) 13 [.tmp 7],
  zy xl_av (.f (fExt 1)) 14 [.tmp 7],
  zy xl_av (.la 5 [.int .i64 0, .int .i64 0]) 5 [],
  zY xl_av (.ls 5 2) [.tmp 5, .tmp 13],
  zM 6 14])
 (.seq none
 (.seq none
 (.reg [zM 15 0,
  zy xl_av (.lr 5 2 true) 16 [.tmp 5],
  zN 17 15,
  zF 2 18 17,
  zY xl_av (.store 2) [.tmp 18, .tmp 16]])
 (.seq (some ([0, 28], [3, 5]))
 (.reg [zM 19 6,
  zz (.f (fUn .not)) rNot (some 20) [.tmp 19],
  zM 21 20,
  ⟨(some (3, 2, false, some 21)), some 22, [.tmp 5], ⟨.f (fFld 0), rFld 0⟩⟩,
  ⟨(some (4, 2, false, some 21)), some 23, [.tmp 22], ⟨.lr 5 1 false, rLr1 5⟩⟩,
  ⟨(some (5, 2, false, some 21)), some 24, [.tmp 3], ⟨.f (fFld 0), rFld 0⟩⟩,
  ⟨(some (6, 2, false, some 21)), some 25, [.tmp 24], ⟨.f (fFld 1), rFld 1⟩⟩,
  ⟨(some (7, 2, false, some 21)), some 26, [.tmp 25], ⟨.lr 3 1 false, rLr1 3⟩⟩,
  ⟨(some (8, 2, false, some 21)), some 27, [.tmp 23, .tmp 26], ⟨.f (fBin .geq .no), rGeq⟩⟩,
  zz (.f fPick) rPick (some 28) [.tmp 21, .const (.bool true), .tmp 27]])
 (.cond (.tmp 28)
 (.seq none
 (.reg [zM 29 0,
  zy xl_av (.lr 3 9 true) 30 [.tmp 3],
  zk .write s_au v_au 31 [.tmp 29, .tmp 30],
  zM 4 31])
 .ret)
 .skip)))
 (.seq none
 (.reg [zM 32 0,
  zy xl_av (.lr 3 9 true) 33 [.tmp 3],
  zF 0 34 3,
  zy xl_av (.lr 3 7 true) 35 [.tmp 34],
  zF 0 36 5,
  zr 5 37 36,
  zk .none s_bp v_bp 38 [.tmp 35, .tmp 37],
  zk .write s_bf v_bf 39 [.tmp 33, .tmp 38],
  zN 40 32,
  zF 5 41 40,
  zS [.tmp 41, .tmp 39]])
 (.seq none
 (.seq none
 (.reg [zM 42 0,
  zN 43 42,
  zF 5 44 43,
  zL 45 44,
  zk .none s_co v_co 46 [.tmp 45],
  zy xl_av (.lr 5 2 true) 47 [.tmp 5],
  zk .none s_ax v_ax 48 [.tmp 46, .tmp 47],
  zz (.f (fUn .not)) rNot (some 49) [.tmp 48]])
 (.cond (.tmp 49)
 (.seq none
 (.reg [zM 50 0,
  zy xl_av (.lr 3 9 true) 51 [.tmp 3],
  zk .write s_au v_au 52 [.tmp 50, .tmp 51],
  zM 4 52])
 .ret)
 .skip))
 (.seq none
 (.reg [zM 53 0,
  zN 54 53,
  zF 4 55 54,
  zS [.tmp 55, .const (.int .i64 1)]])
 (.seq none
 (.reg [zc 4 (.bool false)])
 .ret)))))))
noncomputable def v_av : EvF := evFn 2 xc_av [.t 4]
theorem xt_av : toC cx_av (bodyOf Try.f90) = some (xc_av.map XN.sm) := by kernel_rfl
theorem xr_av : toR cx_av Try.f90.results.toList = some [.t 4] := by kernel_rfl
theorem xo_av : xc_av.ok xl_av := ⟨⟨r_a (trivial), r_m, trivial⟩, ⟨⟨r_m, r_n, r_f _, r_l, r_c ve_cg, r_m, r_a (eqv_ext _), r_a (eqv_ext _), r_a (trivial), r_a (trivial), r_m, trivial⟩, ⟨⟨⟨r_m, r_a (trivial), r_n, r_f _, r_a (trivial), trivial⟩, ⟨⟨r_m, r_t, r_m, r_f _, r_r _, r_f _, r_f _, r_r _, rGeq_ok, r_p, trivial⟩, ⟨⟨⟨r_m, r_a (trivial), r_c ve_au, r_m, trivial⟩, trivial⟩, trivial⟩⟩⟩, ⟨⟨r_m, r_a (trivial), r_f _, r_a (trivial), r_f _, r_r _, r_c ve_bp, r_c ve_bf, r_n, r_f _, r_s, trivial⟩, ⟨⟨⟨r_m, r_n, r_f _, r_l, r_c ve_co, r_a (trivial), r_c ve_ax, r_t, trivial⟩, ⟨⟨⟨r_m, r_a (trivial), r_c ve_au, r_m, trivial⟩, trivial⟩, trivial⟩⟩, ⟨⟨r_m, r_n, r_f _, r_s, trivial⟩, ⟨⟨r_m, trivial⟩, trivial⟩⟩⟩⟩⟩⟩⟩
theorem ve_av : EvOk s_av v_av := EvOk.of (evFn_sound (C := cx_av) xt_av xr_av xo_av) q_av
attribute [irreducible] w_av_j1b w_av_j1 w_av s_av
def w_ch (a0 : Value) (K : Value → Mem → Prop) (σ : Mem) : Prop :=if true = true then (xC (gAlloc [.int .i64 0, .int .i64 0, .int .i64 0, .int .i64 0, .bool false] [] []) fun c2 =>xF fMove [a0] fun v3 =>xF (fBin .and .no) [v3, .int .u64 3] fun v4 =>xF (fConv .i64) [v4] fun v5 =>xF fMove [a0] fun v6 =>xF (fBin .shr .no) [v6, .int .u64 2] fun v7 =>xF (fBin .and .no) [v7, .int .u64 65535] fun v8 =>xF (fConv .i64) [v8] fun v9 =>xF fMove [a0] fun v10 =>xF (fBin .shr .no) [v10, .int .u64 18] fun v11 =>xF (fBin .and .no) [v11, .int .u64 65535] fun v12 =>xF (fConv .i64) [v12] fun v13 =>xF fMove [a0] fun v14 =>xF (fBin .shr .no) [v14, .int .u64 34] fun v15 =>xF (fBin .and .no) [v15, .int .u64 65535] fun v16 =>xF (fConv .i64) [v16] fun v17 =>xF fMove [a0] fun v18 =>xF (fBin .shr .no) [v18, .int .u64 50] fun v19 =>xF (fBin .and .no) [v19, .int .u64 1] fun v20 =>xF (fBin .eql .no) [v20, .int .u64 1] fun v21 =>xF (fBuild [(0, 1), (1, 1), (2, 1), (3, 1), (4, 1)] [.int .i64 0, .int .i64 0, .int .i64 0, .int .i64 0, .bool false] [0, 1, 2, 3, 4]) [v5, v9, v13, v17, v21] fun v22 =>xC (gStore 5 [(locP 2), v22] c2) fun c2 =>xO (gLoad 5 true [(locP 2)] c2) fun r2 =>K r2 σ) else False
def s_ch : Spec := fun args K σ => match args with
  | [a0] => w_ch a0 K σ
  | _ => False
noncomputable def cx_ch : Cx := { P := Try.prog, T := [], loc := [(2, 2)], eqt := [], n := 23, keep := [] }
theorem q_ch : FnS cx_ch Try.f91 (bodyOf Try.f91) 1 = s_ch := by
  funext args K σ
  rcases args with _ | ⟨a0, _ | ⟨b, r⟩⟩ <;> kernel_rfl
theorem e_ch : Entry Try.prog 91 .none s_ch :=
  entry (C := cx_ch) TOk.nil mixedOk Try.func91 (by kernel_rfl) (by kernel_rfl) (by kernel_rfl) q_ch
def xl_ch : List (Nat × Nat) := [(2, 2)]
noncomputable def xc_ch : XC XN :=
(.seq none
 (.reg [zy xl_ch (.la 2 [.int .i64 0, .int .i64 0, .int .i64 0, .int .i64 0, .bool false]) 2 []])
 (.seq none
 (.reg [zM 3 0,
  zy xl_ch (.band .no) 4 [.tmp 3, .const (.int .u64 3)],
  zz (.f (fConv .i64)) (rConv .i64) (some 5) [.tmp 4],
  zM 6 0,
  zy xl_ch (.f (fBin .shr .no)) 7 [.tmp 6, .const (.int .u64 2)],
  zy xl_ch (.band .no) 8 [.tmp 7, .const (.int .u64 65535)],
  zz (.f (fConv .i64)) (rConv .i64) (some 9) [.tmp 8],
  zM 10 0,
  zy xl_ch (.f (fBin .shr .no)) 11 [.tmp 10, .const (.int .u64 18)],
  zy xl_ch (.band .no) 12 [.tmp 11, .const (.int .u64 65535)],
  zz (.f (fConv .i64)) (rConv .i64) (some 13) [.tmp 12],
  zM 14 0,
  zy xl_ch (.f (fBin .shr .no)) 15 [.tmp 14, .const (.int .u64 34)],
  zy xl_ch (.band .no) 16 [.tmp 15, .const (.int .u64 65535)],
  zz (.f (fConv .i64)) (rConv .i64) (some 17) [.tmp 16],
  zM 18 0,
  zy xl_ch (.f (fBin .shr .no)) 19 [.tmp 18, .const (.int .u64 50)],
  zy xl_ch (.band .no) 20 [.tmp 19, .const (.int .u64 1)],
  zb .eql rEql 21 [.tmp 20, .const (.int .u64 1)],
  zy xl_ch (.f (fBuild [(0, 1), (1, 1), (2, 1), (3, 1), (4, 1)] [.int .i64 0, .int .i64 0, .int .i64 0, .int .i64 0, .bool false] [0, 1, 2, 3, 4])) 22 [.tmp 5, .tmp 9, .tmp 13, .tmp 17, .tmp 21],
  zY xl_ch (.ls 2 5) [.tmp 2, .tmp 22]])
 .ret))
noncomputable def v_ch : EvF := evFn 1 xc_ch [.c 2 2 5 true]
theorem xt_ch : toC cx_ch (bodyOf Try.f91) = some (xc_ch.map XN.sm) := by kernel_rfl
theorem xr_ch : toR cx_ch Try.f91.results.toList = some [.c 2 2 5 true] := by kernel_rfl
theorem xo_ch : xc_ch.ok xl_ch := ⟨⟨r_a (trivial), trivial⟩, ⟨⟨r_m, r_a (trivial), r_v _, r_m, r_a (eqv_bin _ _), r_a (trivial), r_v _, r_m, r_a (eqv_bin _ _), r_a (trivial), r_v _, r_m, r_a (eqv_bin _ _), r_a (trivial), r_v _, r_m, r_a (eqv_bin _ _), r_a (trivial), r_e, r_a (eqv_build _ rfl _), r_a (trivial), trivial⟩, trivial⟩⟩
theorem ve_ch : EvOk s_ch v_ch := EvOk.of (evFn_sound (C := cx_ch) xt_ch xr_ch xo_ch) q_ch
attribute [irreducible] w_ch s_ch
def w_az (a0 a1 a2 : Value) (K : Value → Mem → Prop) (σ : Mem) : Prop :=xF fMove [.pointer none] fun v6 =>xF fMove [a0] fun v7 =>xF fMove [a1] fun v8 =>xF fMove [a2] fun v9 =>xF (fBuild [(0, 1), (1, 1), (2, 1), (3, 1), (4, 1), (5, 1), (6, 1)] [.int .i64 0, .int .u64 0, .int .i64 0, .int .i64 0, .int .u64 0, .bool false, .bool false] [0, 1, 2]) [v7, v8, v9] fun v10 =>hBox 7 [v10] (fun v11 σ =>xF fMove [v11] fun v6 =>K v6 σ) σ
def s_az : Spec := fun args K σ => match args with
  | [a0, a1, a2] => w_az a0 a1 a2 K σ
  | _ => False
noncomputable def cx_az : Cx := { P := Try.prog, T := [], loc := [], eqt := [], n := 12, keep := [] }
theorem q_az : FnS cx_az Try.f93 (bodyOf Try.f93) 3 = s_az := by
  funext args K σ
  rcases args with _ | ⟨a0, _ | ⟨a1, _ | ⟨a2, _ | ⟨b, r⟩⟩⟩⟩ <;> kernel_rfl
theorem e_az : Entry Try.prog 93 .write s_az :=
  entry (C := cx_az) TOk.nil mixedOk Try.func93 (by kernel_rfl) (by kernel_rfl) (by kernel_rfl) q_az
def xl_az : List (Nat × Nat) := []
noncomputable def xc_az : XC XN :=
(.seq none
 (.reg [zc 6 (.pointer none)])
 (.seq none
 (.reg [zM 7 0,
  zM 8 1,
  zM 9 2,
  zy xl_az (.f (fBuild [(0, 1), (1, 1), (2, 1), (3, 1), (4, 1), (5, 1), (6, 1)] [.int .i64 0, .int .u64 0, .int .i64 0, .int .i64 0, .int .u64 0, .bool false, .bool false] [0, 1, 2])) 10 [.tmp 7, .tmp 8, .tmp 9],
  zy xl_az (.box 7) 11 [.tmp 10],
  zM 6 11])
 .ret))
noncomputable def v_az : EvF := evFn 3 xc_az [.t 6]
theorem xt_az : toC cx_az (bodyOf Try.f93) = some (xc_az.map XN.sm) := by kernel_rfl
theorem xr_az : toR cx_az Try.f93.results.toList = some [.t 6] := by kernel_rfl
theorem xo_az : xc_az.ok xl_az := ⟨⟨r_m, trivial⟩, ⟨⟨r_m, r_m, r_m, r_a (eqv_build _ rfl _), r_a (trivial), r_m, trivial⟩, trivial⟩⟩
theorem ve_az : EvOk s_az v_az := EvOk.of (evFn_sound (C := cx_az) xt_az xr_az xo_az) q_az
attribute [irreducible] w_az s_az
def w_at (a0 a1 : Value) (K : Value → Mem → Prop) (σ : Mem) : Prop :=xC (gBox 9 [a1] []) fun c3 =>xF fMove [a0] fun v6 =>xF fNil [v6] fun v7 =>xF (fFld 5) [v7] fun v8 =>hLoad 1 false [v8] (fun v9 σ =>s_co [v9] (fun v10 σ =>xC (gStore 4 [(locP 4), v10] [.int .i64 0, .int .i64 0, .int .i64 0, .int .i64 0]) fun c4 =>xF (fFld 3) [(locP 4)] fun v11 =>xO (gLoad 1 false [v11] c4) fun v12 =>xF (fBin .add .no) [v12, .int .i64 1] fun v13 =>xF (fFld 0) [(locP 4)] fun v14 =>xC (gStore 1 [v14, .int .i64 4] c4) fun c4 =>xF (fFld 3) [(locP 4)] fun v15 =>xC (gStore 1 [v15, v13] c4) fun c4 =>xF fMove [a0] fun v16 =>xF fNil [v16] fun v17 =>xF (fFld 4) [v17] fun v18 =>hStore 1 [v18, .int .i64 0] (fun _v σ =>xO (gLoad 4 true [(locP 4)] c4) fun v19 =>s_cm [v19] (fun v20 σ =>xF fMove [v20] fun v5 =>xO (gLoad 9 true [(locP 3)] c3) fun v21 =>xF (fFld 0) [(locP 3)] fun v22 =>xO (gLoad 7 true [v22] c3) fun v23 =>xF fMove [a0] fun v24 =>xF fNil [v24] fun v25 =>xF (fFld 2) [v25] fun v26 =>xF (fFld 0) [v26] fun v27 =>hLoad 1 false [v27] (fun v28 σ =>s_bp [v23, v28] (fun v29 σ =>xF fMove [a0] fun v30 =>xF fNil [v30] fun v31 =>xF (fFld 5) [v31] fun v32 =>hLoad 1 false [v32] (fun v33 σ =>xF fMove [v5] fun v34 =>s_be [v21, v29, v33, v34] (fun v35 σ =>xIf v35
 (xF fMove [a0] fun v36 =>xF fMove [a0] fun v37 =>xF fMove [a0] fun v38 =>xF fNil [v38] fun v39 =>xF (fFld 2) [v39] fun v40 =>xF (fFld 0) [v40] fun v41 =>hLoad 1 false [v41] (fun v42 σ =>xF fMove [v5] fun v43 =>xF fMove [a0] fun v44 =>xF fNil [v44] fun v45 =>xF (fFld 6) [v45] fun v46 =>hLoad 1 false [v46] (fun v47 σ =>s_az [v42, v43, v47] (fun v48 σ =>xF fNil [v36] fun v49 =>xF (fFld 7) [v49] fun v50 =>hStore 1 [v50, v48] (fun _v σ =>xF fNil [v37] fun v51 =>xF (fFld 4) [v51] fun v52 =>hStore 1 [v52, .int .i64 3] (fun _v σ =>K (.tuple #[]) σ) σ) σ) σ) σ) σ)
 (K (.tuple #[]) σ)) σ) σ) σ) σ) σ) σ) σ) σ
def s_at : Spec := fun args K σ => match args with
  | [a0, a1] => w_at a0 a1 K σ
  | _ => False
noncomputable def cx_at : Cx := { P := Try.prog, T := [(67, .none, s_co), (31, .none, s_cm), (30, .none, s_bp), (79, .write, s_be), (93, .write, s_az)], loc := [(3, 3), (4, 4), (11, 4), (14, 4), (15, 4), (22, 3)], eqt := [], n := 53, keep := [] }
theorem q_at : FnS cx_at Try.f94 (bodyOf Try.f94) 2 = s_at := by
  funext args K σ
  rcases args with _ | ⟨a0, _ | ⟨a1, _ | ⟨b, r⟩⟩⟩ <;> kernel_rfl
theorem e_at : Entry Try.prog 94 .write s_at :=
  entry (C := cx_at) (TOk.cons e_co (TOk.cons e_cm (TOk.cons e_bp (TOk.cons e_be (TOk.cons e_az TOk.nil))))) mixedOk Try.func94 (by kernel_rfl) (by kernel_rfl) (by kernel_rfl) q_at
def xl_at : List (Nat × Nat) := [(3, 3), (4, 4), (11, 4), (14, 4), (15, 4), (22, 3)]
noncomputable def xc_at : XC XN :=
(.seq none
 (.reg [zy xl_at (.lb 3 9) 3 [.tmp 1]])
 (.seq none
 (.reg [zM 6 0,
  zN 7 6,
  zF 5 8 7,
  zL 9 8,
  zk .none s_co v_co 10 [.tmp 9],
  zy xl_at (.la 4 [.int .i64 0, .int .i64 0, .int .i64 0, .int .i64 0]) 4 [],
  zY xl_at (.ls 4 4) [.tmp 4, .tmp 10]])
 (.seq none
 (.reg [zF 3 11 4,
  zr 4 12 11,
  zb .add rAdd 13 [.tmp 12, .const (.int .i64 1)],
  zF 0 14 4,
  zz (.ls 4 1) (rLs1 4) none [.tmp 14, .const (.int .i64 4)],
  zF 3 15 4,
  zz (.ls 4 1) (rLs1 4) none [.tmp 15, .tmp 13]])
 (.seq none
 (.reg [zM 16 0,
  zN 17 16,
  zF 4 18 17,
  zS [.tmp 18, .const (.int .i64 0)]])
 (.seq none
 (.reg [zy xl_at (.lr 4 4 true) 19 [.tmp 4],
  zk .none s_cm v_cm 20 [.tmp 19],
  zM 5 20])
 (.seq none
 (.reg [zy xl_at (.lr 3 9 true) 21 [.tmp 3],
  zF 0 22 3,
  zy xl_at (.lr 3 7 true) 23 [.tmp 22],
  zM 24 0,
  zN 25 24,
  zF 2 26 25,
  zF 0 27 26,
  zL 28 27,
  zk .none s_bp v_bp 29 [.tmp 23, .tmp 28],
  zM 30 0,
  zN 31 30,
  zF 5 32 31,
  zL 33 32,
  zM 34 5,
  zk .write s_be v_be 35 [.tmp 21, .tmp 29, .tmp 33, .tmp 34]])
 (.cond (.tmp 35)
 (.reg [zM 36 0,
  zM 37 0,
  zM 38 0,
  zN 39 38,
  zF 2 40 39,
  zF 0 41 40,
  zL 42 41,
  zM 43 5,
  zM 44 0,
  zN 45 44,
  zF 6 46 45,
  zL 47 46,
  zk .write s_az v_az 48 [.tmp 42, .tmp 43, .tmp 47],
  zN 49 36,
  zF 7 50 49,
  zS [.tmp 50, .tmp 48],
  zN 51 37,
  zF 4 52 51,
  zS [.tmp 52, .const (.int .i64 3)]])
 .skip)))))))
noncomputable def v_at : EvF := evFn 2 xc_at []
theorem xt_at : toC cx_at (bodyOf Try.f94) = some (xc_at.map XN.sm) := by kernel_rfl
theorem xr_at : toR cx_at Try.f94.results.toList = some [] := by kernel_rfl
theorem xo_at : xc_at.ok xl_at := ⟨⟨r_a (trivial), trivial⟩, ⟨⟨r_m, r_n, r_f _, r_l, r_c ve_co, r_a (trivial), r_a (trivial), trivial⟩, ⟨⟨r_f _, r_r _, r_d, r_f _, rLs1_ok _, r_f _, rLs1_ok _, trivial⟩, ⟨⟨r_m, r_n, r_f _, r_s, trivial⟩, ⟨⟨r_a (trivial), r_c ve_cm, r_m, trivial⟩, ⟨⟨r_a (trivial), r_f _, r_a (trivial), r_m, r_n, r_f _, r_f _, r_l, r_c ve_bp, r_m, r_n, r_f _, r_l, r_m, r_c ve_be, trivial⟩, ⟨⟨r_m, r_m, r_m, r_n, r_f _, r_f _, r_l, r_m, r_m, r_n, r_f _, r_l, r_c ve_az, r_n, r_f _, r_s, r_n, r_f _, r_s, trivial⟩, trivial⟩⟩⟩⟩⟩⟩⟩
theorem ve_at : EvOk s_at v_at := EvOk.of (evFn_sound (C := cx_at) xt_at xr_at xo_at) q_at
attribute [irreducible] w_at s_at
def w_ce_j1b (K : Value → Mem → Prop) (c2 c3 : List Value) (σ : Mem) : Prop :=xO (gLoad 3 true [(locP 3)] c3) fun v18 =>xC (gStore 3 [(locP 2), v18] c2) fun c2 =>xO (gLoad 3 true [(locP 2)] c2) fun r2 =>K r2 σ
def w_ce_j1 (K : Value → Mem → Prop) (ts : List Value) (ls : List (List Value)) (σ : Mem) : Prop := w_ce_j1b K (ls.getD 0 []) (ls.getD 1 []) σ
def w_ce (a0 : Value) (K : Value → Mem → Prop) (σ : Mem) : Prop :=if true = true then (xC (gAlloc [.int .i64 0, .bool false, .int .i64 0] [] []) fun c2 =>xF fMove [a0] fun v4 =>xF (fBin .and .no) [v4, .int .u64 1099511627775] fun v5 =>xF (fConv .i64) [v5] fun v6 =>xF fMove [a0] fun v7 =>xF (fBin .shr .no) [v7, .int .u64 63] fun v8 =>xF (fBin .eql .no) [v8, .int .u64 1] fun v9 =>xF (fBuild [(0, 1), (1, 1), (2, 1)] [.int .i64 0, .bool false, .int .i64 0] [0, 1]) [v6, v9] fun v10 =>if true = true then (xC (gAlloc [.int .i64 0, .bool false, .int .i64 0] [] []) fun c3 =>xC (gStore 3 [(locP 3), v10] c3) fun c3 =>xJoin (w_ce_j1 K) fun J1 =>xF (fFld 1) [(locP 3)] fun v11 =>xO (gLoad 1 false [v11] c3) fun v12 =>xIf v12
 (xF fMove [a0] fun v13 =>xF (fBin .shr .no) [v13, .int .u64 40] fun v14 =>xF (fBin .and .no) [v14, .int .u64 4194303] fun v15 =>xF (fConv .i64) [v15] fun v16 =>xF (fFld 2) [(locP 3)] fun v17 =>xC (gStore 1 [v17, v16] c3) fun c3 =>J1 [] [c2, c3] σ)
 (J1 [] [c2, c3] σ)) else False) else False
def s_ce : Spec := fun args K σ => match args with
  | [a0] => w_ce a0 K σ
  | _ => False
noncomputable def cx_ce : Cx := { P := Try.prog, T := [], loc := [(2, 2), (3, 3), (11, 3), (17, 3)], eqt := [], n := 19, keep := [(1000005, [], [2, 3])] }
theorem q_ce : FnS cx_ce Try.f100 (bodyOf Try.f100) 1 = s_ce := by
  funext args K σ
  rcases args with _ | ⟨a0, _ | ⟨b, r⟩⟩ <;> kernel_rfl
theorem e_ce : Entry Try.prog 100 .none s_ce :=
  entry (C := cx_ce) TOk.nil mixedOk Try.func100 (by kernel_rfl) (by kernel_rfl) (by kernel_rfl) q_ce
def xl_ce : List (Nat × Nat) := [(2, 2), (3, 3), (11, 3), (17, 3)]
noncomputable def xc_ce : XC XN :=
(.seq none
 (.reg [zy xl_ce (.la 2 [.int .i64 0, .bool false, .int .i64 0]) 2 []])
 (.seq none
 (.reg [zM 4 0,
  zy xl_ce (.band .no) 5 [.tmp 4, .const (.int .u64 1099511627775)],
  zz (.f (fConv .i64)) (rConv .i64) (some 6) [.tmp 5],
  zM 7 0,
  zy xl_ce (.f (fBin .shr .no)) 8 [.tmp 7, .const (.int .u64 63)],
  zb .eql rEql 9 [.tmp 8, .const (.int .u64 1)],
  zy xl_ce (.f (fBuild [(0, 1), (1, 1), (2, 1)] [.int .i64 0, .bool false, .int .i64 0] [0, 1])) 10 [.tmp 6, .tmp 9],
  zy xl_ce (.la 3 [.int .i64 0, .bool false, .int .i64 0]) 3 [],
  zY xl_ce (.ls 3 3) [.tmp 3, .tmp 10]])
 (.seq (some ([], [2, 3]))
 (.seq none
 (.reg [zF 1 11 3,
  zr 3 12 11])
 (.cond (.tmp 12)
 (.reg [zM 13 0,
  zy xl_ce (.f (fBin .shr .no)) 14 [.tmp 13, .const (.int .u64 40)],
  zy xl_ce (.band .no) 15 [.tmp 14, .const (.int .u64 4194303)],
  zz (.f (fConv .i64)) (rConv .i64) (some 16) [.tmp 15],
  zF 2 17 3,
  zz (.ls 3 1) (rLs1 3) none [.tmp 17, .tmp 16]])
 .skip))
 (.seq none
 (.reg [zy xl_ce (.lr 3 3 true) 18 [.tmp 3],
  zY xl_ce (.ls 2 3) [.tmp 2, .tmp 18]])
 .ret))))
noncomputable def v_ce : EvF := evFn 1 xc_ce [.c 2 2 3 true]
theorem xt_ce : toC cx_ce (bodyOf Try.f100) = some (xc_ce.map XN.sm) := by kernel_rfl
theorem xr_ce : toR cx_ce Try.f100.results.toList = some [.c 2 2 3 true] := by kernel_rfl
theorem xo_ce : xc_ce.ok xl_ce := ⟨⟨r_a (trivial), trivial⟩, ⟨⟨r_m, r_a (trivial), r_v _, r_m, r_a (eqv_bin _ _), r_e, r_a (eqv_build _ rfl _), r_a (trivial), r_a (trivial), trivial⟩, ⟨⟨⟨r_f _, r_r _, trivial⟩, ⟨⟨r_m, r_a (eqv_bin _ _), r_a (trivial), r_v _, r_f _, rLs1_ok _, trivial⟩, trivial⟩⟩, ⟨⟨r_a (trivial), r_a (trivial), trivial⟩, trivial⟩⟩⟩⟩
theorem ve_ce : EvOk s_ce v_ce := EvOk.of (evFn_sound (C := cx_ce) xt_ce xr_ce xo_ce) q_ce
attribute [irreducible] w_ce_j1b w_ce_j1 w_ce s_ce
def w_ci_j1b (K : Value → Mem → Prop) (v3 : Value) (σ : Mem) : Prop :=xF fMove [v3] fun v16 =>xF fMove [v16] fun v2 =>K v2 σ
def w_ci_j1 (K : Value → Mem → Prop) (ts : List Value) (ls : List (List Value)) (σ : Mem) : Prop := w_ci_j1b K (ts.getD 0 poison) σ
def w_ci (a0 : Value) (K : Value → Mem → Prop) (σ : Mem) : Prop :=xC (gBox 3 [a0] []) fun c1 =>xF fMove [.int .u64 0] fun v2 =>xF (fFld 0) [(locP 1)] fun v4 =>xO (gLoad 1 false [v4] c1) fun v5 =>s_cq [v5, .int .i64 1099511627775] (fun v6 σ =>xF fMove [v6] fun v3 =>xJoin (w_ci_j1 K) fun J1 =>xF (fFld 1) [(locP 1)] fun v7 =>xO (gLoad 1 false [v7] c1) fun v8 =>xIf v8
 (xF fMove [v3] fun v9 =>xF (fFld 2) [(locP 1)] fun v10 =>xO (gLoad 1 false [v10] c1) fun v11 =>s_cq [v11, .int .i64 4194303] (fun v12 σ =>xF (fBin .shl .no) [v12, .int .u64 40] fun v13 =>xF (fBin .or .no) [.int .u64 9223372036854775808, v13] fun v14 =>xF (fBin .or .no) [v9, v14] fun v15 =>xF fMove [v15] fun v3 =>J1 [v3] [] σ) σ)
 (J1 [v3] [] σ)) σ
def s_ci : Spec := fun args K σ => match args with
  | [a0] => w_ci a0 K σ
  | _ => False
noncomputable def cx_ci : Cx := { P := Try.prog, T := [(43, .none, s_cq)], loc := [(1, 1), (4, 1), (7, 1), (10, 1)], eqt := [], n := 17, keep := [(1000005, [3], [])] }
theorem q_ci : FnS cx_ci Try.f101 (bodyOf Try.f101) 1 = s_ci := by
  funext args K σ
  rcases args with _ | ⟨a0, _ | ⟨b, r⟩⟩ <;> kernel_rfl
theorem e_ci : Entry Try.prog 101 .none s_ci :=
  entry (C := cx_ci) (TOk.cons e_cq TOk.nil) mixedOk Try.func101 (by kernel_rfl) (by kernel_rfl) (by kernel_rfl) q_ci
def xl_ci : List (Nat × Nat) := [(1, 1), (4, 1), (7, 1), (10, 1)]
noncomputable def xc_ci : XC XN :=
(.seq none
 (.reg [zy xl_ci (.lb 1 3) 1 [.tmp 0],
  zc 2 (.int .u64 0)])
 (.seq none
 (.reg [zF 0 4 1,
  zr 1 5 4,
  zk .none s_cq v_cq 6 [.tmp 5, .const (.int .i64 1099511627775)],
  zM 3 6])
 (.seq (some ([3], []))
 (.seq none
 (.reg [zF 1 7 1,
  zr 1 8 7])
 (.cond (.tmp 8)
 (.reg [zM 9 3,
  zF 2 10 1,
  zr 1 11 10,
  zk .none s_cq v_cq 12 [.tmp 11, .const (.int .i64 4194303)],
  zy xl_ci (.f (fBin .shl .no)) 13 [.tmp 12, .const (.int .u64 40)],
  zy xl_ci (.f (fBin .or .no)) 14 [.const (.int .u64 9223372036854775808), .tmp 13],
  zy xl_ci (.f (fBin .or .no)) 15 [.tmp 9, .tmp 14],
  zM 3 15])
 .skip))
 (.seq none
 (.reg [zM 16 3,
  zM 2 16])
 .ret))))
noncomputable def v_ci : EvF := evFn 1 xc_ci [.t 2]
theorem xt_ci : toC cx_ci (bodyOf Try.f101) = some (xc_ci.map XN.sm) := by kernel_rfl
theorem xr_ci : toR cx_ci Try.f101.results.toList = some [.t 2] := by kernel_rfl
theorem xo_ci : xc_ci.ok xl_ci := ⟨⟨r_a (trivial), r_m, trivial⟩, ⟨⟨r_f _, r_r _, r_c ve_cq, r_m, trivial⟩, ⟨⟨⟨r_f _, r_r _, trivial⟩, ⟨⟨r_m, r_f _, r_r _, r_c ve_cq, r_a (eqv_bin _ _), r_a (eqv_bin _ _), r_a (eqv_bin _ _), r_m, trivial⟩, trivial⟩⟩, ⟨⟨r_m, r_m, trivial⟩, trivial⟩⟩⟩⟩
theorem ve_ci : EvOk s_ci v_ci := EvOk.of (evFn_sound (C := cx_ci) xt_ci xr_ci xo_ci) q_ci
attribute [irreducible] w_ci_j1b w_ci_j1 w_ci s_ci
def w_aw_j1b (K : Value → Mem → Prop) (σ : Mem) : Prop :=xF fMove [.bool false] fun v4 =>K v4 σ
def w_aw_j1 (K : Value → Mem → Prop) (ts : List Value) (ls : List (List Value)) (σ : Mem) : Prop := w_aw_j1b K σ
def w_aw_j2b (K : Value → Mem → Prop) (J1 : List Value → List (List Value) → Mem → Prop) (v0 : Value) (c3 c8 : List Value) (σ : Mem) : Prop :=xF fMove [v0] fun v73 =>xO (gLoad 9 true [(locP 3)] c3) fun v74 =>xF (fFld 0) [(locP 3)] fun v75 =>xO (gLoad 7 true [v75] c3) fun v76 =>xF fMove [v0] fun v77 =>xF fNil [v77] fun v78 =>xF (fFld 0) [v78] fun v79 =>hLoad 1 false [v79] (fun v80 σ =>s_bp [v76, v80] (fun v81 σ =>xF fMove [v0] fun v82 =>xF fNil [v82] fun v83 =>xF (fFld 1) [v83] fun v84 =>hLoad 1 false [v84] (fun v85 σ =>xO (gLoad 4 true [(locP 8)] c8) fun v86 =>s_cm [v86] (fun v87 σ =>s_be [v74, v81, v85, v87] (fun v88 σ =>xF fNil [v73] fun v89 =>xF (fFld 6) [v89] fun v90 =>hStore 1 [v90, v88] (fun _v σ =>xF fMove [.bool true] fun v4 =>K v4 σ) σ) σ) σ) σ) σ) σ
def w_aw_j2 (K : Value → Mem → Prop) (J1 : List Value → List (List Value) → Mem → Prop) (ts : List Value) (ls : List (List Value)) (σ : Mem) : Prop := w_aw_j2b K J1 (ts.getD 0 poison) (ls.getD 0 []) (ls.getD 1 []) σ
def w_aw_j3b (K : Value → Mem → Prop) (J1 : List Value → List (List Value) → Mem → Prop) (v0 : Value) (σ : Mem) : Prop :=xF fMove [v0] fun v121 =>xF fNil [v121] fun v122 =>xF (fFld 5) [v122] fun v123 =>hLoad 1 false [v123] (fun v124 σ =>xF (fUn .not) [v124] fun v125 =>xIf v125
 (xF fMove [v0] fun v126 =>xF fNil [v126] fun v127 =>xF (fFld 3) [v127] fun v128 =>hLoad 1 false [v128] (fun v129 σ =>xF (fBin .add .no) [v129, .int .i64 1] fun v130 =>xF fNil [v126] fun v131 =>xF (fFld 3) [v131] fun v132 =>hStore 1 [v132, v130] (fun _v σ =>J1 [] [] σ) σ) σ)
 (J1 [] [] σ)) σ
def w_aw_j3 (K : Value → Mem → Prop) (J1 : List Value → List (List Value) → Mem → Prop) (ts : List Value) (ls : List (List Value)) (σ : Mem) : Prop := w_aw_j3b K J1 (ts.getD 0 poison) σ
def w_aw (a0 a1 : Value) (K : Value → Mem → Prop) (σ : Mem) : Prop :=xC (gBox 9 [a1] []) fun c3 =>xF fMove [.bool false] fun v4 =>xF fMove [a0] fun v9 =>xF fNil [v9] fun v10 =>xF (fFld 1) [v10] fun v11 =>hLoad 1 false [v11] (fun v12 σ =>s_co [v12] (fun v13 σ =>xC (gStore 4 [(locP 5), v13] [.int .i64 0, .int .i64 0, .int .i64 0, .int .i64 0]) fun c5 =>xF (fFld 1) [(locP 5)] fun v14 =>xO (gLoad 1 false [v14] c5) fun v15 =>xF (fBin .add .no) [v15, .int .i64 1] fun v16 =>xF fMove [a0] fun v17 =>xF fNil [v17] fun v18 =>xF (fFld 3) [v18] fun v19 =>hLoad 1 false [v19] (fun v20 σ =>xF (fBin .add .no) [v16, v20] fun v21 =>xF fMove [v21] fun v6 =>xF fMove [a0] fun v22 =>xF fNil [v22] fun v23 =>xF (fFld 4) [v23] fun v24 =>hLoad 1 false [v24] (fun v25 σ =>s_ce [v25] (fun v26 σ =>xC (gStore 3 [(locP 7), v26] [.int .i64 0, .bool false, .int .i64 0]) fun c7 =>xJoin (w_aw_j1 K) fun J1 =>xF fMove [a0] fun v51 =>xF fNil [v51] fun v52 =>xF (fFld 3) [v52] fun v53 =>hLoad 1 false [v53] (fun v54 σ =>xF fMove [a0] fun v55 =>xF fNil [v55] fun v56 =>xF (fFld 2) [v56] fun v57 =>hLoad 1 false [v57] (fun v58 σ =>xF (fBin .geq .no) [v54, v58] fun v59 =>xF fMove [v59] fun v50 =>xIf v50
 (xF (fFld 2) [(locP 5)] fun v60 =>xO (gLoad 1 false [v60] c5) fun v61 =>xF (fBin .add .no) [v61, .int .i64 1] fun v62 =>xF (fBuild [(0, 1), (1, 1), (2, 1), (3, 1)] [.int .i64 0, .int .i64 0, .int .i64 0, .int .i64 0] [0, 2]) [.int .i64 0, v62] fun v63 =>xC (gStore 4 [(locP 8), v63] [.int .i64 0, .int .i64 0, .int .i64 0, .int .i64 0]) fun c8 =>xJoin (w_aw_j2 K J1) fun J2 =>xF (fFld 2) [(locP 5)] fun v64 =>xO (gLoad 1 false [v64] c5) fun v65 =>xF (fFld 0) [(locP 3)] fun v66 =>xF (fFld 4) [v66] fun v67 =>xO (gLoad 1 false [v67] c3) fun v68 =>xF (fBin .geq .no) [v65, v68] fun v69 =>xIf v69
 (xF (fFld 2) [(locP 5)] fun v70 =>xO (gLoad 1 false [v70] c5) fun v71 =>xF (fBuild [(0, 1), (1, 1), (2, 1), (3, 1)] [.int .i64 0, .int .i64 0, .int .i64 0, .int .i64 0] [0, 2]) [.int .i64 3, v71] fun v72 =>xC (gStore 4 [(locP 8), v72] c8) fun c8 =>J2 [a0] [c3, c8] σ)
 (J2 [a0] [c3, c8] σ))
 (xF fMove [a0] fun v92 =>xF fNil [v92] fun v93 =>xF (fFld 5) [v93] fun v94 =>hLoad 1 false [v94] (fun v95 σ =>xF (fUn .not) [v95] fun v96 =>xF fMove [v96] fun v91 =>xIf v91
 (xF fMove [a0] fun v97 =>xO (gLoad 9 true [(locP 3)] c3) fun v98 =>xF fMove [v6] fun v99 =>s_bf [v98, v99] (fun v100 σ =>xF fNil [v97] fun v101 =>xF (fFld 4) [v101] fun v102 =>hStore 1 [v102, v100] (fun _v σ =>xF fMove [a0] fun v103 =>xF fNil [v103] fun v104 =>xF (fFld 4) [v104] fun v105 =>hLoad 1 false [v105] (fun v106 σ =>s_ce [v106] (fun v107 σ =>xC (gStore 3 [(locP 7), v107] c7) fun c7 =>xJoin (w_aw_j3 K J1) fun J3 =>xF fMove [a0] fun v108 =>xF (fFld 1) [(locP 7)] fun v109 =>xO (gLoad 1 false [v109] c7) fun v110 =>xF (fUn .not) [v110] fun v111 =>xF fMove [v111] fun v112 =>xIf v112
 (xF fPick [.bool true, .bool true, undef] fun v118 =>xF fNil [v108] fun v119 =>xF (fFld 5) [v119] fun v120 =>hStore 1 [v120, v118] (fun _v σ =>J3 [a0] [] σ) σ)
 (xF (fFld 2) [(locP 7)] fun v113 =>xO (gLoad 1 false [v113] c7) fun v114 =>xF (fFld 3) [(locP 5)] fun v115 =>xO (gLoad 1 false [v115] c5) fun v116 =>xF (fBin .neq .no) [v114, v116] fun v117 =>xF fPick [.bool false, .bool true, v117] fun v118 =>xF fNil [v108] fun v119 =>xF (fFld 5) [v119] fun v120 =>hStore 1 [v120, v118] (fun _v σ =>J3 [a0] [] σ) σ)) σ) σ) σ) σ)
 (xF fMove [a0] fun v27 =>xF fNil [v27] fun v28 =>xF (fFld 5) [v28] fun v29 =>hStore 1 [v29, .bool false] (fun _v σ =>xO (gLoad 9 true [(locP 3)] c3) fun v30 =>xF fMove [v6] fun v31 =>xF fMove [a0] fun v32 =>xF fNil [v32] fun v33 =>xF (fFld 4) [v33] fun v34 =>hLoad 1 false [v34] (fun v35 σ =>xF (fFld 0) [(locP 7)] fun v36 =>xO (gLoad 1 false [v36] c7) fun v37 =>xF (fFld 3) [(locP 5)] fun v38 =>xO (gLoad 1 false [v38] c5) fun v39 =>xF (fBuild [(0, 1), (1, 1), (2, 1)] [.int .i64 0, .bool false, .int .i64 0] [0, 1, 2]) [v37, .bool true, v39] fun v40 =>s_ci [v40] (fun v41 σ =>s_be [v30, v31, v35, v41] (fun v42 σ =>xIf v42
 (xF fMove [a0] fun v43 =>xF fNil [v43] fun v44 =>xF (fFld 3) [v44] fun v45 =>hLoad 1 false [v45] (fun v46 σ =>xF (fBin .add .no) [v46, .int .i64 1] fun v47 =>xF fNil [v43] fun v48 =>xF (fFld 3) [v48] fun v49 =>hStore 1 [v49, v47] (fun _v σ =>J1 [] [] σ) σ) σ)
 (J1 [] [] σ)) σ) σ) σ) σ)) σ)) σ) σ) σ) σ) σ) σ) σ
def s_aw : Spec := fun args K σ => match args with
  | [a0, a1] => w_aw a0 a1 K σ
  | _ => False
noncomputable def cx_aw : Cx := { P := Try.prog, T := [(67, .none, s_co), (100, .none, s_ce), (30, .none, s_bp), (31, .none, s_cm), (79, .write, s_be), (37, .write, s_bf), (101, .none, s_ci)], loc := [(3, 3), (5, 5), (7, 7), (8, 8), (14, 5), (36, 7), (38, 5), (60, 5), (64, 5), (66, 3), (67, 3), (70, 5), (75, 3), (109, 7), (113, 7), (115, 5)], eqt := [], n := 133, keep := [(1000012, [0], [3, 8]), (1000018, [0], []), (1000020, [], [])] }
theorem q_aw : FnS cx_aw Try.f95 (bodyOf Try.f95) 2 = s_aw := by
  funext args K σ
  rcases args with _ | ⟨a0, _ | ⟨a1, _ | ⟨b, r⟩⟩⟩ <;> kernel_rfl
theorem e_aw : Entry Try.prog 95 .write s_aw :=
  entry (C := cx_aw) (TOk.cons e_co (TOk.cons e_ce (TOk.cons e_bp (TOk.cons e_cm (TOk.cons e_be (TOk.cons e_bf (TOk.cons e_ci TOk.nil))))))) mixedOk Try.func95 (by kernel_rfl) (by kernel_rfl) (by kernel_rfl) q_aw
def xl_aw : List (Nat × Nat) := [(3, 3), (5, 5), (7, 7), (8, 8), (14, 5), (36, 7), (38, 5), (60, 5), (64, 5), (66, 3), (67, 3), (70, 5), (75, 3), (109, 7), (113, 7), (115, 5)]
noncomputable def xc_aw : XC XN :=
(.seq none
 (.reg [zy xl_aw (.lb 3 9) 3 [.tmp 1],
  zc 4 (.bool false)])
 (.seq none
 (.reg [zM 9 0,
  zN 10 9,
  zF 1 11 10,
  zL 12 11,
  zk .none s_co v_co 13 [.tmp 12],
  zy xl_aw (.la 5 [.int .i64 0, .int .i64 0, .int .i64 0, .int .i64 0]) 5 [],
  zY xl_aw (.ls 5 4) [.tmp 5, .tmp 13]])
 (.seq none
 (.reg [zF 1 14 5,
  zr 5 15 14,
  zb .add rAdd 16 [.tmp 15, .const (.int .i64 1)],
  zM 17 0,
  zN 18 17,
  zF 3 19 18,
  zL 20 19,
  zb .add rAdd 21 [.tmp 16, .tmp 20],
  zM 6 21])
 (.seq none
 (.reg [zM 22 0,
  zN 23 22,
  zF 4 24 23,
  zL 25 24,
  zk .none s_ce v_ce 26 [.tmp 25],
  zy xl_aw (.la 7 [.int .i64 0, .bool false, .int .i64 0]) 7 [],
  zY xl_aw (.ls 7 3) [.tmp 7, .tmp 26]])
 (.seq (some ([], []))
 (.block 0
 (.seq none
 (.reg [zM 51 0,
  zN 52 51,
  zF 3 53 52,
  zL 54 53,
  zM 55 0,
  zN 56 55,
  zF 2 57 56,
  zL 58 57,
  zb .geq rGeq 59 [.tmp 54, .tmp 58],
  zM 50 59])
 (.cond (.tmp 50)
 (.seq none
 (.reg [zF 2 60 5,
  zr 5 61 60,
  zb .add rAdd 62 [.tmp 61, .const (.int .i64 1)],
  zy xl_aw (.f (fBuild [(0, 1), (1, 1), (2, 1), (3, 1)] [.int .i64 0, .int .i64 0, .int .i64 0, .int .i64 0] [0, 2])) 63 [.const (.int .i64 0), .tmp 62],
  zy xl_aw (.la 8 [.int .i64 0, .int .i64 0, .int .i64 0, .int .i64 0]) 8 [],
  zY xl_aw (.ls 8 4) [.tmp 8, .tmp 63]])
 (.seq (some ([0], [3, 8]))
 (.seq none
 (.reg [zF 2 64 5,
  zr 5 65 64,
  zF 0 66 3,
  zF 4 67 66,
  zr 3 68 67,
  zb .geq rGeq 69 [.tmp 65, .tmp 68]])
 (.cond (.tmp 69)
 (.reg [zF 2 70 5,
  zr 5 71 70,
  zy xl_aw (.f (fBuild [(0, 1), (1, 1), (2, 1), (3, 1)] [.int .i64 0, .int .i64 0, .int .i64 0, .int .i64 0] [0, 2])) 72 [.const (.int .i64 3), .tmp 71],
  zY xl_aw (.ls 8 4) [.tmp 8, .tmp 72]])
 .skip))
 (.seq none
 (.reg [zM 73 0,
  zy xl_aw (.lr 3 9 true) 74 [.tmp 3],
  zF 0 75 3,
  zy xl_aw (.lr 3 7 true) 76 [.tmp 75],
  zM 77 0,
  zN 78 77,
  zF 0 79 78,
  zL 80 79,
  zk .none s_bp v_bp 81 [.tmp 76, .tmp 80],
  zM 82 0,
  zN 83 82,
  zF 1 84 83,
  zL 85 84,
  zy xl_aw (.lr 8 4 true) 86 [.tmp 8],
  zk .none s_cm v_cm 87 [.tmp 86],
  zk .write s_be v_be 88 [.tmp 74, .tmp 81, .tmp 85, .tmp 87],
  zN 89 73,
  zF 6 90 89,
  zS [.tmp 90, .tmp 88]])
 (.seq none
 (.reg [zc 4 (.bool true)])
 .ret))))
 (.seq none
 (.reg [zM 92 0,
  zN 93 92,
  zF 5 94 93,
  zL 95 94,
  zz (.f (fUn .not)) rNot (some 96) [.tmp 95],
  zM 91 96])
 (.cond (.tmp 91)
 (.seq none
 (.reg [zM 97 0,
  zy xl_aw (.lr 3 9 true) 98 [.tmp 3],
  zM 99 6,
  zk .write s_bf v_bf 100 [.tmp 98, .tmp 99],
  zN 101 97,
  zF 4 102 101,
  zS [.tmp 102, .tmp 100]])
 (.seq none
 (.reg [zM 103 0,
  zN 104 103,
  zF 4 105 104,
  zL 106 105,
  zk .none s_ce v_ce 107 [.tmp 106],
  zY xl_aw (.ls 7 3) [.tmp 7, .tmp 107]])
 (.seq (some ([0], []))
 (.reg [zM 108 0,
  zF 1 109 7,
  zr 7 110 109,
  zz (.f (fUn .not)) rNot (some 111) [.tmp 110],
  zM 112 111,
  ⟨(some (5, 4, false, some 112)), some 113, [.tmp 7], ⟨.f (fFld 2), rFld 2⟩⟩,
  ⟨(some (6, 4, false, some 112)), some 114, [.tmp 113], ⟨.lr 7 1 false, rLr1 7⟩⟩,
  ⟨(some (7, 4, false, some 112)), some 115, [.tmp 5], ⟨.f (fFld 3), rFld 3⟩⟩,
  ⟨(some (8, 4, false, some 112)), some 116, [.tmp 115], ⟨.lr 5 1 false, rLr1 5⟩⟩,
  ⟨(some (9, 4, false, some 112)), some 117, [.tmp 114, .tmp 116], ⟨.f (fBin .neq .no), rNeq⟩⟩,
  zz (.f fPick) rPick (some 118) [.tmp 112, .const (.bool true), .tmp 117],
  zN 119 108,
  zF 5 120 119,
  zS [.tmp 120, .tmp 118]])
 (.seq none
 (.reg [zM 121 0,
  zN 122 121,
  zF 5 123 122,
  zL 124 123,
  zz (.f (fUn .not)) rNot (some 125) [.tmp 124]])
 (.cond (.tmp 125)
 (.reg [zM 126 0,
  zN 127 126,
  zF 3 128 127,
  zL 129 128,
  zb .add rAdd 130 [.tmp 129, .const (.int .i64 1)],
  zN 131 126,
  zF 3 132 131,
  zS [.tmp 132, .tmp 130]])
 .skip)))))
 (.seq none
 (.reg [zM 27 0,
  zN 28 27,
  zF 5 29 28,
  zS [.tmp 29, .const (.bool false)]])
 (.seq none
 (.reg [zy xl_aw (.lr 3 9 true) 30 [.tmp 3],
  zM 31 6,
  zM 32 0,
  zN 33 32,
  zF 4 34 33,
  zL 35 34,
  zF 0 36 7,
  zr 7 37 36,
  zF 3 38 5,
  zr 5 39 38,
  zy xl_aw (.f (fBuild [(0, 1), (1, 1), (2, 1)] [.int .i64 0, .bool false, .int .i64 0] [0, 1, 2])) 40 [.tmp 37, .const (.bool true), .tmp 39],
  zk .none s_ci v_ci 41 [.tmp 40],
  zk .write s_be v_be 42 [.tmp 30, .tmp 31, .tmp 35, .tmp 41]])
 (.cond (.tmp 42)
 (.reg [zM 43 0,
  zN 44 43,
  zF 3 45 44,
  zL 46 45,
  zb .add rAdd 47 [.tmp 46, .const (.int .i64 1)],
  zN 48 43,
  zF 3 49 48,
  zS [.tmp 49, .tmp 47]])
 .skip))))))))
 (.seq none
 (.reg [zc 4 (.bool false)])
 .ret))))))
noncomputable def v_aw : EvF := evFn 2 xc_aw [.t 4]
theorem xt_aw : toC cx_aw (bodyOf Try.f95) = some (xc_aw.map XN.sm) := by kernel_rfl
theorem xr_aw : toR cx_aw Try.f95.results.toList = some [.t 4] := by kernel_rfl
theorem xo_aw : xc_aw.ok xl_aw := ⟨⟨r_a (trivial), r_m, trivial⟩, ⟨⟨r_m, r_n, r_f _, r_l, r_c ve_co, r_a (trivial), r_a (trivial), trivial⟩, ⟨⟨r_f _, r_r _, r_d, r_m, r_n, r_f _, r_l, r_d, r_m, trivial⟩, ⟨⟨r_m, r_n, r_f _, r_l, r_c ve_ce, r_a (trivial), r_a (trivial), trivial⟩, ⟨⟨⟨r_m, r_n, r_f _, r_l, r_m, r_n, r_f _, r_l, rGeq_ok, r_m, trivial⟩, ⟨⟨⟨r_f _, r_r _, r_d, r_a (eqv_build _ rfl _), r_a (trivial), r_a (trivial), trivial⟩, ⟨⟨⟨r_f _, r_r _, r_f _, r_f _, r_r _, rGeq_ok, trivial⟩, ⟨⟨r_f _, r_r _, r_a (eqv_build _ rfl _), r_a (trivial), trivial⟩, trivial⟩⟩, ⟨⟨r_m, r_a (trivial), r_f _, r_a (trivial), r_m, r_n, r_f _, r_l, r_c ve_bp, r_m, r_n, r_f _, r_l, r_a (trivial), r_c ve_cm, r_c ve_be, r_n, r_f _, r_s, trivial⟩, ⟨⟨r_m, trivial⟩, trivial⟩⟩⟩⟩, ⟨⟨r_m, r_n, r_f _, r_l, r_t, r_m, trivial⟩, ⟨⟨⟨r_m, r_a (trivial), r_m, r_c ve_bf, r_n, r_f _, r_s, trivial⟩, ⟨⟨r_m, r_n, r_f _, r_l, r_c ve_ce, r_a (trivial), trivial⟩, ⟨⟨r_m, r_f _, r_r _, r_t, r_m, r_f _, r_r _, r_f _, r_r _, rNeq_ok, r_p, r_n, r_f _, r_s, trivial⟩, ⟨⟨r_m, r_n, r_f _, r_l, r_t, trivial⟩, ⟨⟨r_m, r_n, r_f _, r_l, r_d, r_n, r_f _, r_s, trivial⟩, trivial⟩⟩⟩⟩⟩, ⟨⟨r_m, r_n, r_f _, r_s, trivial⟩, ⟨⟨r_a (trivial), r_m, r_m, r_n, r_f _, r_l, r_f _, r_r _, r_f _, r_r _, r_a (eqv_build _ rfl _), r_c ve_ci, r_c ve_be, trivial⟩, ⟨⟨r_m, r_n, r_f _, r_l, r_d, r_n, r_f _, r_s, trivial⟩, trivial⟩⟩⟩⟩⟩⟩⟩, ⟨⟨r_m, trivial⟩, trivial⟩⟩⟩⟩⟩⟩
theorem ve_aw : EvOk s_aw v_aw := EvOk.of (evFn_sound (C := cx_aw) xt_aw xr_aw xo_aw) q_aw
attribute [irreducible] w_aw_j1b w_aw_j1 w_aw_j2b w_aw_j2 w_aw_j3b w_aw_j3 w_aw s_aw
def w_by_j1b (K : Value → Mem → Prop) (v0 v1 v19 : Value) (σ : Mem) : Prop :=xIf v19
 (xF fMove [.int .i64 0] fun v4 =>K v4 σ)
 (xF fMove [v0] fun v20 =>xF fNil [v20] fun v21 =>xF (fFld 1) [v21] fun v22 =>hLoad 1 false [v22] (fun v23 σ =>xF fMove [v1] fun v24 =>xF (fIxS 1) [v23, v24] fun v25 =>hLoad 1 false [v25] (fun v26 σ =>xF fMove [v26] fun v4 =>K v4 σ) σ) σ)
def w_by_j1 (K : Value → Mem → Prop) (ts : List Value) (ls : List (List Value)) (σ : Mem) : Prop := w_by_j1b K (ts.getD 0 poison) (ts.getD 1 poison) (ts.getD 2 poison) σ
def w_by (a0 a1 : Value) (K : Value → Mem → Prop) (σ : Mem) : Prop :=xF fMove [.int .i64 0] fun v4 =>xJoin (w_by_j1 K) fun J1 =>xF fMove [a0] fun v5 =>xF (fBin .eql .ptr) [v5, .pointer none] fun v6 =>xF fMove [v6] fun v7 =>xIf v7
 (xF fPick [.bool true, .bool true, undef] fun v10 =>xF fMove [v10] fun v11 =>xIf v11
 (xF fPick [.bool true, .bool true, undef] fun v19 =>J1 [a0, a1, v19] [] σ)
 (xF fMove [a1] fun v12 =>xF fMove [a0] fun v13 =>xF fNil [v13] fun v14 =>xF (fFld 0) [v14] fun v15 =>hLoad 1 false [v15] (fun v16 σ =>xF fLen [v16] fun v17 =>xF (fBin .geq .no) [v12, v17] fun v18 =>xF fPick [.bool false, .bool true, v18] fun v19 =>J1 [a0, a1, v19] [] σ) σ))
 (xF fMove [a1] fun v8 =>xF (fBin .lss .no) [v8, .int .i64 0] fun v9 =>xF fPick [.bool false, .bool true, v9] fun v10 =>xF fMove [v10] fun v11 =>xIf v11
 (xF fPick [.bool true, .bool true, undef] fun v19 =>J1 [a0, a1, v19] [] σ)
 (xF fMove [a1] fun v12 =>xF fMove [a0] fun v13 =>xF fNil [v13] fun v14 =>xF (fFld 0) [v14] fun v15 =>hLoad 1 false [v15] (fun v16 σ =>xF fLen [v16] fun v17 =>xF (fBin .geq .no) [v12, v17] fun v18 =>xF fPick [.bool false, .bool true, v18] fun v19 =>J1 [a0, a1, v19] [] σ) σ))
def s_by : Spec := fun args K σ => match args with
  | [a0, a1] => w_by a0 a1 K σ
  | _ => False
noncomputable def cx_by : Cx := { P := Try.prog, T := [], loc := [], eqt := [(25, .ptr)], n := 27, keep := [(1000003, [0, 1, 19], [])] }
theorem q_by : FnS cx_by Try.f96 (bodyOf Try.f96) 2 = s_by := by
  funext args K σ
  rcases args with _ | ⟨a0, _ | ⟨a1, _ | ⟨b, r⟩⟩⟩ <;> kernel_rfl
theorem e_by : Entry Try.prog 96 .read s_by :=
  entry (C := cx_by) TOk.nil mixedOk Try.func96 (by kernel_rfl) (by kernel_rfl) (by kernel_rfl) q_by
def xl_by : List (Nat × Nat) := []
noncomputable def xc_by : XC XN :=
(.seq none
 (.reg [zc 4 (.int .i64 0)])
 (.seq none
 (.seq (some ([0, 1, 19], []))
 (.reg [zM 5 0,
  zy xl_by (.f (fBin .eql .ptr)) 6 [.tmp 5, .const (.pointer none)],
  zM 7 6,
  ⟨(some (3, 2, false, some 7)), some 8, [.tmp 1], ⟨.f fMove, rMove⟩⟩,
  ⟨(some (4, 2, false, some 7)), some 9, [.tmp 8, (.const (.int .i64 0))], ⟨.f (fBin .lss .no), rLss⟩⟩,
  zz (.f fPick) rPick (some 10) [.tmp 7, .const (.bool true), .tmp 9],
  zM 11 10,
  ⟨(some (7, 6, false, some 11)), some 12, [.tmp 1], ⟨.f fMove, rMove⟩⟩,
  ⟨(some (8, 6, false, some 11)), some 13, [.tmp 0], ⟨.f fMove, rMove⟩⟩,
  ⟨(some (9, 6, false, some 11)), some 14, [.tmp 13], ⟨.f fNil, rNil⟩⟩,
  ⟨(some (10, 6, false, some 11)), some 15, [.tmp 14], ⟨.f (fFld 0), rFld 0⟩⟩,
  ⟨(some (11, 6, false, some 11)), some 16, [.tmp 15], ⟨.load 1 false, rLoad1⟩⟩,
  ⟨(some (12, 6, false, some 11)), some 17, [.tmp 16], ⟨.f fLen, rAny xl_by (.f fLen)⟩⟩,
  ⟨(some (13, 6, false, some 11)), some 18, [.tmp 12, .tmp 17], ⟨.f (fBin .geq .no), rGeq⟩⟩,
  zz (.f fPick) rPick (some 19) [.tmp 11, .const (.bool true), .tmp 18]])
 (.cond (.tmp 19)
 (.seq none
 (.reg [zc 4 (.int .i64 0)])
 .ret)
 .skip))
 (.seq none
 (.reg [zM 20 0,
  zN 21 20,
  zF 1 22 21,
  zL 23 22,
  zM 24 1,
  zz (.f (fIxS 1)) (rIxS 1) (some 25) [.tmp 23, .tmp 24],
  zL 26 25,
  zM 4 26])
 .ret)))
noncomputable def v_by : EvF := evFn 2 xc_by [.t 4]
theorem xt_by : toC cx_by (bodyOf Try.f96) = some (xc_by.map XN.sm) := by kernel_rfl
theorem xr_by : toR cx_by Try.f96.results.toList = some [.t 4] := by kernel_rfl
theorem xo_by : xc_by.ok xl_by := ⟨⟨r_m, trivial⟩, ⟨⟨⟨r_m, r_a (eqv_bin _ _), r_m, r_m, rLss_ok, r_p, r_m, r_m, r_m, r_n, r_f _, r_l, r_a (eqv_len), rGeq_ok, r_p, trivial⟩, ⟨⟨⟨r_m, trivial⟩, trivial⟩, trivial⟩⟩, ⟨⟨r_m, r_n, r_f _, r_l, r_m, rIxS_ok _, r_l, r_m, trivial⟩, trivial⟩⟩⟩
theorem ve_by : EvOk s_by v_by := EvOk.of (evFn_sound (C := cx_by) xt_by xr_by xo_by) q_by
attribute [irreducible] w_by_j1b w_by_j1 w_by s_by
def w_bl_j1b (K : Value → Mem → Prop) (v1 v5 v16 : Value) (c2 : List Value) (σ : Mem) : Prop :=xIf v16
 (xF fMove [(.int .i64 (-1))] fun v4 =>K v4 σ)
 (xF fMove [v1] fun v17 =>xF fMove [v5] fun v18 =>xF (fBin .sub .no) [v17, v18] fun v19 =>xF (fFld 3) [(locP 2)] fun v20 =>xO (gLoad 1 false [v20] c2) fun v21 =>xF (fBin .quo .no) [v19, v21] fun v22 =>xF fMove [v22] fun v4 =>K v4 σ)
def w_bl_j1 (K : Value → Mem → Prop) (ts : List Value) (ls : List (List Value)) (σ : Mem) : Prop := w_bl_j1b K (ts.getD 0 poison) (ts.getD 1 poison) (ts.getD 2 poison) (ls.getD 0 []) σ
def w_bl (a0 a1 : Value) (K : Value → Mem → Prop) (σ : Mem) : Prop :=xC (gBox 7 [a0] []) fun c2 =>xF fMove [.int .i64 0] fun v4 =>xO (gLoad 7 true [(locP 2)] c2) fun v6 =>s_a9 [v6, .int .i64 0] (fun v7 σ =>xF fMove [v7] fun v5 =>xJoin (w_bl_j1 K) fun J1 =>xF fMove [a1] fun v8 =>xF fMove [v5] fun v9 =>xF (fBin .lss .no) [v8, v9] fun v10 =>xF fMove [v10] fun v11 =>xIf v11
 (xF fPick [.bool true, .bool true, undef] fun v16 =>J1 [a1, v5, v16] [c2] σ)
 (xF fMove [a1] fun v12 =>xO (gLoad 7 true [(locP 2)] c2) fun v13 =>s_bk [v13] (fun v14 σ =>xF (fBin .geq .no) [v12, v14] fun v15 =>xF fPick [.bool false, .bool true, v15] fun v16 =>J1 [a1, v5, v16] [c2] σ) σ)) σ
def s_bl : Spec := fun args K σ => match args with
  | [a0, a1] => w_bl a0 a1 K σ
  | _ => False
noncomputable def cx_bl : Cx := { P := Try.prog, T := [(40, .none, s_a9), (28, .none, s_bk)], loc := [(2, 2), (20, 2)], eqt := [], n := 23, keep := [(1000004, [1, 5, 16], [2])] }
theorem q_bl : FnS cx_bl Try.f97 (bodyOf Try.f97) 2 = s_bl := by
  funext args K σ
  rcases args with _ | ⟨a0, _ | ⟨a1, _ | ⟨b, r⟩⟩⟩ <;> kernel_rfl
theorem e_bl : Entry Try.prog 97 .none s_bl :=
  entry (C := cx_bl) (TOk.cons e_a9 (TOk.cons e_bk TOk.nil)) mixedOk Try.func97 (by kernel_rfl) (by kernel_rfl) (by kernel_rfl) q_bl
def xl_bl : List (Nat × Nat) := [(2, 2), (20, 2)]
noncomputable def xc_bl : XC XN :=
(.seq none
 (.reg [zy xl_bl (.lb 2 7) 2 [.tmp 0],
  zc 4 (.int .i64 0)])
 (.seq none
 (.reg [zy xl_bl (.lr 2 7 true) 6 [.tmp 2],
  zk .none s_a9 v_a9 7 [.tmp 6, .const (.int .i64 0)],
  zM 5 7])
 (.seq none
 (.seq (some ([1, 5, 16], [2]))
 (.reg [zM 8 1,
  zM 9 5,
  zb .lss rLss 10 [.tmp 8, .tmp 9],
  zM 11 10,
  ⟨(some (4, 3, false, some 11)), some 12, [.tmp 1], ⟨.f fMove, rMove⟩⟩,
  ⟨(some (5, 3, false, some 11)), some 13, [.tmp 2], ⟨.lr 2 7 true, rAny xl_bl (.lr 2 7 true)⟩⟩,
  ⟨(some (6, 3, false, some 11)), some 14, [.tmp 13], ⟨.call .none s_bk v_bk, rCall v_bk⟩⟩,
  ⟨(some (7, 3, false, some 11)), some 15, [.tmp 12, .tmp 14], ⟨.f (fBin .geq .no), rGeq⟩⟩,
  zz (.f fPick) rPick (some 16) [.tmp 11, .const (.bool true), .tmp 15]])
 (.cond (.tmp 16)
 (.seq none
 (.reg [zc 4 (.int .i64 (-1))])
 .ret)
 .skip))
 (.seq none
 (.reg [zM 17 1,
  zM 18 5,
  zb .sub rSub 19 [.tmp 17, .tmp 18],
  zF 3 20 2,
  zr 2 21 20,
  zy xl_bl (.f (fBin .quo .no)) 22 [.tmp 19, .tmp 21],
  zM 4 22])
 .ret))))
noncomputable def v_bl : EvF := evFn 2 xc_bl [.t 4]
theorem xt_bl : toC cx_bl (bodyOf Try.f97) = some (xc_bl.map XN.sm) := by kernel_rfl
theorem xr_bl : toR cx_bl Try.f97.results.toList = some [.t 4] := by kernel_rfl
theorem xo_bl : xc_bl.ok xl_bl := ⟨⟨r_a (trivial), r_m, trivial⟩, ⟨⟨r_a (trivial), r_c ve_a9, r_m, trivial⟩, ⟨⟨⟨r_m, r_m, rLss_ok, r_m, r_m, r_a (trivial), r_c ve_bk, rGeq_ok, r_p, trivial⟩, ⟨⟨⟨r_m, trivial⟩, trivial⟩, trivial⟩⟩, ⟨⟨r_m, r_m, rSub_ok, r_f _, r_r _, r_a (eqv_bin _ _), r_m, trivial⟩, trivial⟩⟩⟩⟩
theorem ve_bl : EvOk s_bl v_bl := EvOk.of (evFn_sound (C := cx_bl) xt_bl xr_bl xo_bl) q_bl
attribute [irreducible] w_bl_j1b w_bl_j1 w_bl s_bl
def w_as_j1b (K : Value → Mem → Prop) (σ : Mem) : Prop :=xF fMove [.bool false] fun v4 =>K v4 σ
def w_as_j1 (K : Value → Mem → Prop) (ts : List Value) (ls : List (List Value)) (σ : Mem) : Prop := w_as_j1b K σ
def w_as (a0 a1 : Value) (K : Value → Mem → Prop) (σ : Mem) : Prop :=xC (gBox 9 [a1] []) fun c3 =>xF fMove [.bool false] fun v4 =>xF (fFld 0) [(locP 3)] fun v8 =>xO (gLoad 7 true [v8] c3) fun v9 =>xF fMove [a0] fun v10 =>xF fNil [v10] fun v11 =>xF (fFld 2) [v11] fun v12 =>xF (fFld 0) [v12] fun v13 =>hLoad 1 false [v13] (fun v14 σ =>s_bp [v9, v14] (fun v15 σ =>xF fMove [v15] fun v5 =>xJoin (w_as_j1 K) fun J1 =>xF fMove [a0] fun v16 =>xF fNil [v16] fun v17 =>xF (fFld 4) [v17] fun v18 =>hLoad 1 false [v18] (fun v19 σ =>xF (fBin .eql .no) [v19, .int .i64 0] fun v27 =>xF fMove [v27] fun v26 =>xIf v26
 (xF fMove [a0] fun v28 =>xO (gLoad 9 true [(locP 3)] c3) fun v29 =>s_av [v28, v29] (fun v30 σ =>xF fMove [v30] fun v4 =>K v4 σ) σ)
 (xF (fBin .eql .no) [v19, .int .i64 1] fun v32 =>xF fMove [v32] fun v31 =>xIf v31
 (xO (gLoad 9 true [(locP 3)] c3) fun v33 =>xF fMove [a0] fun v34 =>xF fNil [v34] fun v35 =>xF (fFld 5) [v35] fun v36 =>hLoad 1 false [v36] (fun v37 σ =>s_co [v37] (fun v38 σ =>xF (fFldV 1 1 false) [v38] fun v39 =>s_bf [v33, v39] (fun v40 σ =>s_ch [v40] (fun v41 σ =>xC (gStore 5 [(locP 6), v41] [.int .i64 0, .int .i64 0, .int .i64 0, .int .i64 0, .bool false]) fun c6 =>xF (fFld 4) [(locP 6)] fun v42 =>xO (gLoad 1 false [v42] c6) fun v43 =>xF fMove [a0] fun v44 =>xF fNil [v44] fun v45 =>xF (fFld 1) [v45] fun v46 =>hLoad 1 false [v46] (fun v47 σ =>xF (fBin .neq .bool) [v43, v47] fun v48 =>xIf v48
 (xF fMove [a0] fun v49 =>xO (gLoad 9 true [(locP 3)] c3) fun v50 =>s_au [v49, v50] (fun v51 σ =>xF fMove [v51] fun v4 =>K v4 σ) σ)
 (xF fMove [a0] fun v52 =>xF fMove [a0] fun v53 =>xF (fFld 1) [(locP 6)] fun v54 =>xO (gLoad 1 false [v54] c6) fun v55 =>xF fNil [v52] fun v56 =>xF (fFld 6) [v56] fun v57 =>hStore 1 [v57, v55] (fun _v σ =>xF fNil [v53] fun v58 =>xF (fFld 4) [v58] fun v59 =>hStore 1 [v59, .int .i64 2] (fun _v σ =>xF fMove [a0] fun v60 =>xF fNil [v60] fun v61 =>xF (fFld 5) [v61] fun v62 =>hLoad 1 false [v62] (fun v63 σ =>s_co [v63] (fun v64 σ =>xF (fFldV 0 1 false) [v64] fun v65 =>xF (fBin .eql .no) [v65, .int .i64 4] fun v66 =>xIf v66
 (xF fMove [a0] fun v67 =>xF fMove [a0] fun v68 =>xF fMove [a0] fun v69 =>xF fNil [v69] fun v70 =>xF (fFld 2) [v70] fun v71 =>xF (fFld 0) [v71] fun v72 =>hLoad 1 false [v72] (fun v73 σ =>xF fMove [a0] fun v74 =>xF fNil [v74] fun v75 =>xF (fFld 5) [v75] fun v76 =>hLoad 1 false [v76] (fun v77 σ =>xF fMove [a0] fun v78 =>xF fNil [v78] fun v79 =>xF (fFld 6) [v79] fun v80 =>hLoad 1 false [v80] (fun v81 σ =>s_az [v73, v77, v81] (fun v82 σ =>xF fNil [v67] fun v83 =>xF (fFld 7) [v83] fun v84 =>hStore 1 [v84, v82] (fun _v σ =>xF fNil [v68] fun v85 =>xF (fFld 4) [v85] fun v86 =>hStore 1 [v86, .int .i64 4] (fun _v σ =>J1 [] [] σ) σ) σ) σ) σ) σ) σ)
 (J1 [] [] σ)) σ) σ) σ) σ)) σ) σ) σ) σ) σ)
 (xF (fBin .eql .no) [v19, .int .i64 2] fun v88 =>xF fMove [v88] fun v87 =>xIf v87
 (xF fMove [a0] fun v89 =>xO (gLoad 9 true [(locP 3)] c3) fun v90 =>s_at [v89, v90] (fun v91 σ =>J1 [] [] σ) σ)
 (xF (fBin .eql .no) [v19, .int .i64 3] fun v93 =>xF fMove [v93] fun v92 =>xIf v92
 (xF fMove [a0] fun v94 =>xF fNil [v94] fun v95 =>xF (fFld 7) [v95] fun v96 =>hLoad 1 false [v96] (fun v97 σ =>xO (gLoad 9 true [(locP 3)] c3) fun v98 =>s_aw [v97, v98] (fun v99 σ =>xIf v99
 (xF fMove [a0] fun v100 =>xF fMove [a0] fun v101 =>xF (fFld 7) [(locP 3)] fun v102 =>xO (gLoad 1 false [v102] c3) fun v103 =>xF fMove [v5] fun v104 =>s_by [v103, v104] (fun v105 σ =>xF (fBuild [(0, 1), (1, 1), (2, 1), (3, 1)] [.int .i64 0, .int .u64 0, .int .i64 0, .int .i64 0] [3]) [v105] fun v106 =>xF fNil [v100] fun v107 =>xF (fFld 9) [v107] fun v108 =>hStore 4 [v108, v106] (fun _v σ =>xF fNil [v101] fun v109 =>xF (fFld 4) [v109] fun v110 =>hStore 1 [v110, .int .i64 5] (fun _v σ =>J1 [] [] σ) σ) σ) σ)
 (J1 [] [] σ)) σ) σ)
 (xF (fBin .eql .no) [v19, .int .i64 4] fun v112 =>xF fMove [v112] fun v111 =>xIf v111
 (xF fMove [a0] fun v113 =>xF fNil [v113] fun v114 =>xF (fFld 7) [v114] fun v115 =>hLoad 1 false [v115] (fun v116 σ =>xO (gLoad 9 true [(locP 3)] c3) fun v117 =>s_aw [v116, v117] (fun v118 σ =>xIf v118
 (xF fMove [a0] fun v119 =>xF fNil [v119] fun v120 =>xF (fFld 4) [v120] fun v121 =>hStore 1 [v121, .int .i64 0] (fun _v σ =>J1 [] [] σ) σ)
 (J1 [] [] σ)) σ) σ)
 (xF (fBin .eql .no) [v19, .int .i64 5] fun v123 =>xF fMove [v123] fun v122 =>xIf v122
 (xF (fFld 0) [(locP 3)] fun v124 =>xO (gLoad 7 true [v124] c3) fun v125 =>xF fMove [a0] fun v126 =>xF fNil [v126] fun v127 =>xF (fFld 5) [v127] fun v128 =>hLoad 1 false [v128] (fun v129 σ =>s_co [v129] (fun v130 σ =>xF (fFldV 1 1 false) [v130] fun v131 =>s_bl [v125, v131] (fun v132 σ =>xF fMove [v132] fun v7 =>xO (gLoad 9 true [(locP 3)] c3) fun v133 =>xF (fFld 0) [(locP 3)] fun v134 =>xO (gLoad 7 true [v134] c3) fun v135 =>xF fMove [v7] fun v136 =>s_bb [v135, v136] (fun v137 σ =>xF (fBin .add .no) [v137, .int .i64 1] fun v138 =>xF fMove [a0] fun v139 =>xF fNil [v139] fun v140 =>xF (fFld 6) [v140] fun v141 =>hLoad 1 false [v141] (fun v142 σ =>s_bc [v142] (fun v143 σ =>s_bo [v143] (fun v144 σ =>xF (fUn .neg) [v144] fun v145 =>s_bd [v133, v138, v145] (fun v146 σ =>xF fMove [a0] fun v147 =>xF fMove [a0] fun v148 =>xF fMove [a0] fun v149 =>xF fNil [v149] fun v150 =>xF (fFld 2) [v150] fun v151 =>xF (fFld 0) [v151] fun v152 =>hLoad 1 false [v152] (fun v153 σ =>s_cb [v153] (fun v154 σ =>xF fNil [v147] fun v155 =>xF (fFld 8) [v155] fun v156 =>hStore 1 [v156, v154] (fun _v σ =>xF fNil [v148] fun v157 =>xF (fFld 4) [v157] fun v158 =>hStore 1 [v158, .int .i64 6] (fun _v σ =>xF fMove [a0] fun v159 =>xF fNil [v159] fun v160 =>xF (fFld 2) [v160] fun v161 =>xF (fFld 1) [v161] fun v162 =>hLoad 1 false [v162] (fun v163 σ =>xF (fFld 0) [(locP 3)] fun v164 =>xF (fFld 4) [v164] fun v165 =>xO (gLoad 1 false [v165] c3) fun v166 =>xF (fBin .geq .no) [v163, v166] fun v167 =>xF fMove [v167] fun v4 =>K v4 σ) σ) σ) σ) σ) σ) σ) σ) σ) σ) σ) σ) σ) σ)
 (xF fMove [a0] fun v20 =>xF fNil [v20] fun v21 =>xF (fFld 8) [v21] fun v22 =>hLoad 1 false [v22] (fun v23 σ =>xO (gLoad 9 true [(locP 3)] c3) fun v24 =>s_ca [v23, v24] (fun v25 σ =>xF fMove [v25] fun v4 =>K v4 σ) σ) σ))))))) σ) σ) σ
def s_as : Spec := fun args K σ => match args with
  | [a0, a1] => w_as a0 a1 K σ
  | _ => False
noncomputable def cx_as : Cx := { P := Try.prog, T := [(30, .none, s_bp), (90, .write, s_av), (67, .none, s_co), (37, .write, s_bf), (91, .none, s_ch), (92, .write, s_au), (93, .write, s_az), (94, .write, s_at), (95, .write, s_aw), (96, .read, s_by), (97, .none, s_bl), (73, .none, s_bb), (13, .write, s_bc), (74, .none, s_bo), (72, .write, s_bd), (71, .write, s_cb), (76, .write, s_ca)], loc := [(3, 3), (6, 6), (8, 3), (42, 6), (54, 6), (102, 3), (124, 3), (134, 3), (164, 3), (165, 3)], eqt := [(4, .bool)], n := 168, keep := [(1000027, [], [])] }
theorem q_as : FnS cx_as Try.f89 (bodyOf Try.f89) 2 = s_as := by
  funext args K σ
  rcases args with _ | ⟨a0, _ | ⟨a1, _ | ⟨b, r⟩⟩⟩ <;> kernel_rfl
theorem e_as : Entry Try.prog 89 .write s_as :=
  entry (C := cx_as) (TOk.cons e_bp (TOk.cons e_av (TOk.cons e_co (TOk.cons e_bf (TOk.cons e_ch (TOk.cons e_au (TOk.cons e_az (TOk.cons e_at (TOk.cons e_aw (TOk.cons e_by (TOk.cons e_bl (TOk.cons e_bb (TOk.cons e_bc (TOk.cons e_bo (TOk.cons e_bd (TOk.cons e_cb (TOk.cons e_ca TOk.nil))))))))))))))))) mixedOk Try.func89 (by kernel_rfl) (by kernel_rfl) (by kernel_rfl) q_as
def xl_as : List (Nat × Nat) := [(3, 3), (6, 6), (8, 3), (42, 6), (54, 6), (102, 3), (124, 3), (134, 3), (164, 3), (165, 3)]
noncomputable def xc_as : XC XN :=
(.seq none
 (.reg [zy xl_as (.lb 3 9) 3 [.tmp 1],
  zc 4 (.bool false)])
 (.seq none
 (.reg [zF 0 8 3,
  zy xl_as (.lr 3 7 true) 9 [.tmp 8],
  zM 10 0,
  zN 11 10,
  zF 2 12 11,
  zF 0 13 12,
  zL 14 13,
  zk .none s_bp v_bp 15 [.tmp 9, .tmp 14],
  zM 5 15])
 (.seq (some ([], []))
 (.seq none
 (.reg [zM 16 0,
  zN 17 16,
  zF 4 18 17,
  zL 19 18])
 (.block 0
 (.seq none
 (.reg [zb .eql rEql 27 [.tmp 19, .const (.int .i64 0)],
  zM 26 27])
 (.cond (.tmp 26)
 (.seq none
 (.reg [zM 28 0,
  zy xl_as (.lr 3 9 true) 29 [.tmp 3],
  zk .write s_av v_av 30 [.tmp 28, .tmp 29],
  zM 4 30])
 .ret)
 (.seq none
 (.reg [zb .eql rEql 32 [.tmp 19, .const (.int .i64 1)],
  zM 31 32])
 (.cond (.tmp 31)
 (.seq none
 (.reg [zy xl_as (.lr 3 9 true) 33 [.tmp 3],
  zM 34 0,
  zN 35 34,
  zF 5 36 35,
  zL 37 36,
  zk .none s_co v_co 38 [.tmp 37],
  zy xl_as (.f (fFldV 1 1 false)) 39 [.tmp 38],
  zk .write s_bf v_bf 40 [.tmp 33, .tmp 39],
  zk .none s_ch v_ch 41 [.tmp 40],
  zy xl_as (.la 6 [.int .i64 0, .int .i64 0, .int .i64 0, .int .i64 0, .bool false]) 6 [],
  zY xl_as (.ls 6 5) [.tmp 6, .tmp 41]])
 (.seq none
 (.seq none
 (.reg [zF 4 42 6,
  zr 6 43 42,
  zM 44 0,
  zN 45 44,
  zF 1 46 45,
  zL 47 46,
  zy xl_as (.f (fBin .neq .bool)) 48 [.tmp 43, .tmp 47]])
 (.cond (.tmp 48)
 (.seq none
 (.reg [zM 49 0,
  zy xl_as (.lr 3 9 true) 50 [.tmp 3],
  zk .write s_au v_au 51 [.tmp 49, .tmp 50],
  zM 4 51])
 .ret)
 .skip))
 (.seq none
 (.reg [zM 52 0,
  zM 53 0,
  zF 1 54 6,
  zr 6 55 54,
  zN 56 52,
  zF 6 57 56,
  zS [.tmp 57, .tmp 55],
  zN 58 53,
  zF 4 59 58,
  zS [.tmp 59, .const (.int .i64 2)]])
 (.seq none
 (.reg [zM 60 0,
  zN 61 60,
  zF 5 62 61,
  zL 63 62,
  zk .none s_co v_co 64 [.tmp 63],
  zy xl_as (.f (fFldV 0 1 false)) 65 [.tmp 64],
  zb .eql rEql 66 [.tmp 65, .const (.int .i64 4)]])
 (.cond (.tmp 66)
 (.reg [zM 67 0,
  zM 68 0,
  zM 69 0,
  zN 70 69,
  zF 2 71 70,
  zF 0 72 71,
  zL 73 72,
  zM 74 0,
  zN 75 74,
  zF 5 76 75,
  zL 77 76,
  zM 78 0,
  zN 79 78,
  zF 6 80 79,
  zL 81 80,
  zk .write s_az v_az 82 [.tmp 73, .tmp 77, .tmp 81],
  zN 83 67,
  zF 7 84 83,
  zS [.tmp 84, .tmp 82],
  zN 85 68,
  zF 4 86 85,
  zS [.tmp 86, .const (.int .i64 4)]])
 .skip)))))
 (.seq none
 (.reg [zb .eql rEql 88 [.tmp 19, .const (.int .i64 2)],
  zM 87 88])
 (.cond (.tmp 87)
 (.reg [zM 89 0,
  zy xl_as (.lr 3 9 true) 90 [.tmp 3],
  zk .write s_at v_at 91 [.tmp 89, .tmp 90]])
 (.seq none
 (.reg [zb .eql rEql 93 [.tmp 19, .const (.int .i64 3)],
  zM 92 93])
 (.cond (.tmp 92)
 (.seq none
 (.reg [zM 94 0,
  zN 95 94,
  zF 7 96 95,
  zL 97 96,
  zy xl_as (.lr 3 9 true) 98 [.tmp 3],
  zk .write s_aw v_aw 99 [.tmp 97, .tmp 98]])
 (.cond (.tmp 99)
 (.reg [zM 100 0,
  zM 101 0,
  zF 7 102 3,
  zr 3 103 102,
  zM 104 5,
  zk .read s_by v_by 105 [.tmp 103, .tmp 104],
  zy xl_as (.f (fBuild [(0, 1), (1, 1), (2, 1), (3, 1)] [.int .i64 0, .int .u64 0, .int .i64 0, .int .i64 0] [3])) 106 [.tmp 105],
  zN 107 100,
  zF 9 108 107,
  zY xl_as (.store 4) [.tmp 108, .tmp 106],
  zN 109 101,
  zF 4 110 109,
  zS [.tmp 110, .const (.int .i64 5)]])
 .skip))
 (.seq none
 (.reg [zb .eql rEql 112 [.tmp 19, .const (.int .i64 4)],
  zM 111 112])
 (.cond (.tmp 111)
 (.seq none
 (.reg [zM 113 0,
  zN 114 113,
  zF 7 115 114,
  zL 116 115,
  zy xl_as (.lr 3 9 true) 117 [.tmp 3],
  zk .write s_aw v_aw 118 [.tmp 116, .tmp 117]])
 (.cond (.tmp 118)
 (.reg [zM 119 0,
  zN 120 119,
  zF 4 121 120,
  zS [.tmp 121, .const (.int .i64 0)]])
 .skip))
 (.seq none
 (.reg [zb .eql rEql 123 [.tmp 19, .const (.int .i64 5)],
  zM 122 123])
 (.cond (.tmp 122)
 (.seq none
 (.reg [zF 0 124 3,
  zy xl_as (.lr 3 7 true) 125 [.tmp 124],
  zM 126 0,
  zN 127 126,
  zF 5 128 127,
  zL 129 128,
  zk .none s_co v_co 130 [.tmp 129],
  zy xl_as (.f (fFldV 1 1 false)) 131 [.tmp 130],
  zk .none s_bl v_bl 132 [.tmp 125, .tmp 131],
  zM 7 132])
 (.seq none
 (.reg [zy xl_as (.lr 3 9 true) 133 [.tmp 3],
  zF 0 134 3,
  zy xl_as (.lr 3 7 true) 135 [.tmp 134],
  zM 136 7,
  zk .none s_bb v_bb 137 [.tmp 135, .tmp 136],
  zb .add rAdd 138 [.tmp 137, .const (.int .i64 1)],
  zM 139 0,
  zN 140 139,
  zF 6 141 140,
  zL 142 141,
  zk .write s_bc v_bc 143 [.tmp 142],
  zk .none s_bo v_bo 144 [.tmp 143],
  zy xl_as (.f (fUn .neg)) 145 [.tmp 144],
  zk .write s_bd v_bd 146 [.tmp 133, .tmp 138, .tmp 145]])
 (.seq none
 (.reg [zM 147 0,
  zM 148 0,
  zM 149 0,
  zN 150 149,
  zF 2 151 150,
  zF 0 152 151,
  zL 153 152,
  zk .write s_cb v_cb 154 [.tmp 153],
  zN 155 147,
  zF 8 156 155,
  zS [.tmp 156, .tmp 154],
  zN 157 148,
  zF 4 158 157,
  zS [.tmp 158, .const (.int .i64 6)]])
 (.seq none
 (.reg [zM 159 0,
  zN 160 159,
  zF 2 161 160,
  zF 1 162 161,
  zL 163 162,
  zF 0 164 3,
  zF 4 165 164,
  zr 3 166 165,
  zb .geq rGeq 167 [.tmp 163, .tmp 166],
  zM 4 167])
 .ret))))
 (.seq none
 (.reg [zM 20 0,
  zN 21 20,
  zF 8 22 21,
  zL 23 22,
  zy xl_as (.lr 3 9 true) 24 [.tmp 3],
  zk .write s_ca v_ca 25 [.tmp 23, .tmp 24],
  zM 4 25])
 .ret)))))))))))))))
 (.seq none
 (.reg [zc 4 (.bool false)])
 .ret))))
noncomputable def v_as : EvF := evFn 2 xc_as [.t 4]
theorem xt_as : toC cx_as (bodyOf Try.f89) = some (xc_as.map XN.sm) := by kernel_rfl
theorem xr_as : toR cx_as Try.f89.results.toList = some [.t 4] := by kernel_rfl
theorem xo_as : xc_as.ok xl_as := ⟨⟨r_a (trivial), r_m, trivial⟩, ⟨⟨r_f _, r_a (trivial), r_m, r_n, r_f _, r_f _, r_l, r_c ve_bp, r_m, trivial⟩, ⟨⟨⟨r_m, r_n, r_f _, r_l, trivial⟩, ⟨⟨r_e, r_m, trivial⟩, ⟨⟨⟨r_m, r_a (trivial), r_c ve_av, r_m, trivial⟩, trivial⟩, ⟨⟨r_e, r_m, trivial⟩, ⟨⟨⟨r_a (trivial), r_m, r_n, r_f _, r_l, r_c ve_co, r_a (eqv_fldV _ _ _), r_c ve_bf, r_c ve_ch, r_a (trivial), r_a (trivial), trivial⟩, ⟨⟨⟨r_f _, r_r _, r_m, r_n, r_f _, r_l, r_a (eqv_bin _ _), trivial⟩, ⟨⟨⟨r_m, r_a (trivial), r_c ve_au, r_m, trivial⟩, trivial⟩, trivial⟩⟩, ⟨⟨r_m, r_m, r_f _, r_r _, r_n, r_f _, r_s, r_n, r_f _, r_s, trivial⟩, ⟨⟨r_m, r_n, r_f _, r_l, r_c ve_co, r_a (eqv_fldV _ _ _), r_e, trivial⟩, ⟨⟨r_m, r_m, r_m, r_n, r_f _, r_f _, r_l, r_m, r_n, r_f _, r_l, r_m, r_n, r_f _, r_l, r_c ve_az, r_n, r_f _, r_s, r_n, r_f _, r_s, trivial⟩, trivial⟩⟩⟩⟩⟩, ⟨⟨r_e, r_m, trivial⟩, ⟨⟨r_m, r_a (trivial), r_c ve_at, trivial⟩, ⟨⟨r_e, r_m, trivial⟩, ⟨⟨⟨r_m, r_n, r_f _, r_l, r_a (trivial), r_c ve_aw, trivial⟩, ⟨⟨r_m, r_m, r_f _, r_r _, r_m, r_c ve_by, r_a (eqv_build _ rfl _), r_n, r_f _, r_a (trivial), r_n, r_f _, r_s, trivial⟩, trivial⟩⟩, ⟨⟨r_e, r_m, trivial⟩, ⟨⟨⟨r_m, r_n, r_f _, r_l, r_a (trivial), r_c ve_aw, trivial⟩, ⟨⟨r_m, r_n, r_f _, r_s, trivial⟩, trivial⟩⟩, ⟨⟨r_e, r_m, trivial⟩, ⟨⟨⟨r_f _, r_a (trivial), r_m, r_n, r_f _, r_l, r_c ve_co, r_a (eqv_fldV _ _ _), r_c ve_bl, r_m, trivial⟩, ⟨⟨r_a (trivial), r_f _, r_a (trivial), r_m, r_c ve_bb, r_d, r_m, r_n, r_f _, r_l, r_c ve_bc, r_c ve_bo, r_a (eqv_un _), r_c ve_bd, trivial⟩, ⟨⟨r_m, r_m, r_m, r_n, r_f _, r_f _, r_l, r_c ve_cb, r_n, r_f _, r_s, r_n, r_f _, r_s, trivial⟩, ⟨⟨r_m, r_n, r_f _, r_f _, r_l, r_f _, r_f _, r_r _, rGeq_ok, r_m, trivial⟩, trivial⟩⟩⟩⟩, ⟨⟨r_m, r_n, r_f _, r_l, r_a (trivial), r_c ve_ca, r_m, trivial⟩, trivial⟩⟩⟩⟩⟩⟩⟩⟩⟩⟩⟩⟩⟩⟩, ⟨⟨r_m, trivial⟩, trivial⟩⟩⟩⟩
theorem ve_as : EvOk s_as v_as := EvOk.of (evFn_sound (C := cx_as) xt_as xr_as xo_as) q_as
attribute [irreducible] w_as_j1b w_as_j1 w_as s_as
def w_ae (a0 a1 a2 a3 : Value) (K : Value → Mem → Prop) (σ : Mem) : Prop :=xF fMove [.bool false] fun v8 =>xF fMove [a0] fun v9 =>xF fMove [a1] fun v10 =>xF fMove [a2] fun v11 =>xF fMove [a3] fun v12 =>xF (fBuild [(0, 1), (1, 1), (2, 1), (3, 1)] [.int .i64 0, .int .u64 0, .int .i64 0, .int .i64 0] [0, 2, 3]) [v10, v11, v12] fun v13 =>xF fNil [v9] fun v14 =>xF (fFld 15) [v14] fun v15 =>hStore 4 [v15, v13] (fun _v σ =>xF fMove [.bool true] fun v8 =>K v8 σ) σ
def s_ae : Spec := fun args K σ => match args with
  | [a0, a1, a2, a3] => w_ae a0 a1 a2 a3 K σ
  | _ => False
noncomputable def cx_ae : Cx := { P := Try.prog, T := [], loc := [], eqt := [], n := 16, keep := [] }
theorem q_ae : FnS cx_ae Try.f105 (bodyOf Try.f105) 4 = s_ae := by
  funext args K σ
  rcases args with _ | ⟨a0, _ | ⟨a1, _ | ⟨a2, _ | ⟨a3, _ | ⟨b, r⟩⟩⟩⟩⟩ <;> kernel_rfl
theorem e_ae : Entry Try.prog 105 .write s_ae :=
  entry (C := cx_ae) TOk.nil mixedOk Try.func105 (by kernel_rfl) (by kernel_rfl) (by kernel_rfl) q_ae
def xl_ae : List (Nat × Nat) := []
noncomputable def xc_ae : XC XN :=
(.seq none
 (.reg [zc 8 (.bool false)])
 (.seq none
 (.reg [zM 9 0,
  zM 10 1,
  zM 11 2,
  zM 12 3,
  zy xl_ae (.f (fBuild [(0, 1), (1, 1), (2, 1), (3, 1)] [.int .i64 0, .int .u64 0, .int .i64 0, .int .i64 0] [0, 2, 3])) 13 [.tmp 10, .tmp 11, .tmp 12],
  zN 14 9,
  zF 15 15 14,
  zY xl_ae (.store 4) [.tmp 15, .tmp 13]])
 (.seq none
 (.reg [zc 8 (.bool true)])
 .ret)))
noncomputable def v_ae : EvF := evFn 4 xc_ae [.t 8]
theorem xt_ae : toC cx_ae (bodyOf Try.f105) = some (xc_ae.map XN.sm) := by kernel_rfl
theorem xr_ae : toR cx_ae Try.f105.results.toList = some [.t 8] := by kernel_rfl
theorem xo_ae : xc_ae.ok xl_ae := ⟨⟨r_m, trivial⟩, ⟨⟨r_m, r_m, r_m, r_m, r_a (eqv_build _ rfl _), r_n, r_f _, r_a (trivial), trivial⟩, ⟨⟨r_m, trivial⟩, trivial⟩⟩⟩
theorem ve_ae : EvOk s_ae v_ae := EvOk.of (evFn_sound (C := cx_ae) xt_ae xr_ae xo_ae) q_ae
attribute [irreducible] w_ae s_ae
def w_ac (a0 : Value) (K : Value → Mem → Prop) (σ : Mem) : Prop :=xF fMove [.int .i64 0] fun v2 =>xF fMove [a0] fun v3 =>xF fNil [v3] fun v4 =>xF (fFld 9) [v4] fun v5 =>hLoad 1 false [v5] (fun v6 σ =>s_co [v6] (fun v7 σ =>xF (fFldV 1 1 false) [v7] fun v8 =>xF (fBin .add .no) [v8, .int .i64 1] fun v9 =>xF fMove [a0] fun v10 =>xF fNil [v10] fun v11 =>xF (fFld 0) [v11] fun v12 =>xF (fFld 2) [v12] fun v13 =>hLoad 1 false [v13] (fun v14 σ =>xF (fBin .add .no) [v9, v14] fun v15 =>xF fMove [v15] fun v2 =>K v2 σ) σ) σ) σ
def s_ac : Spec := fun args K σ => match args with
  | [a0] => w_ac a0 K σ
  | _ => False
noncomputable def cx_ac : Cx := { P := Try.prog, T := [(67, .none, s_co)], loc := [], eqt := [], n := 16, keep := [] }
theorem q_ac : FnS cx_ac Try.f104 (bodyOf Try.f104) 1 = s_ac := by
  funext args K σ
  rcases args with _ | ⟨a0, _ | ⟨b, r⟩⟩ <;> kernel_rfl
theorem e_ac : Entry Try.prog 104 .read s_ac :=
  entry (C := cx_ac) (TOk.cons e_co TOk.nil) mixedOk Try.func104 (by kernel_rfl) (by kernel_rfl) (by kernel_rfl) q_ac
def xl_ac : List (Nat × Nat) := []
noncomputable def xc_ac : XC XN :=
(.seq none
 (.reg [zc 2 (.int .i64 0)])
 (.seq none
 (.reg [zM 3 0,
  zN 4 3,
  zF 9 5 4,
  zL 6 5,
  zk .none s_co v_co 7 [.tmp 6],
  zy xl_ac (.f (fFldV 1 1 false)) 8 [.tmp 7],
  zb .add rAdd 9 [.tmp 8, .const (.int .i64 1)],
  zM 10 0,
  zN 11 10,
  zF 0 12 11,
  zF 2 13 12,
  zL 14 13,
  zb .add rAdd 15 [.tmp 9, .tmp 14],
  zM 2 15])
 .ret))
noncomputable def v_ac : EvF := evFn 1 xc_ac [.t 2]
theorem xt_ac : toC cx_ac (bodyOf Try.f104) = some (xc_ac.map XN.sm) := by kernel_rfl
theorem xr_ac : toR cx_ac Try.f104.results.toList = some [.t 2] := by kernel_rfl
theorem xo_ac : xc_ac.ok xl_ac := ⟨⟨r_m, trivial⟩, ⟨⟨r_m, r_n, r_f _, r_l, r_c ve_co, r_a (eqv_fldV _ _ _), r_d, r_m, r_n, r_f _, r_f _, r_l, r_d, r_m, trivial⟩, trivial⟩⟩
theorem ve_ac : EvOk s_ac v_ac := EvOk.of (evFn_sound (C := cx_ac) xt_ac xr_ac xo_ac) q_ac
attribute [irreducible] w_ac s_ac
def w_af_j3b (K : Value → Mem → Prop) (v53 : Value) (σ : Mem) : Prop :=xIf v53
 (xF fMove [.int .i64 3] fun v2 =>K v2 σ)
 (xF fMove [.int .i64 0] fun v2 =>K v2 σ)
def w_af_j3 (K : Value → Mem → Prop) (ts : List Value) (ls : List (List Value)) (σ : Mem) : Prop := w_af_j3b K (ts.getD 0 poison) σ
def w_af_j2b (K : Value → Mem → Prop) (v42 : Value) (c3 c4 : List Value) (σ : Mem) : Prop :=xIf v42
 (xF fMove [.int .i64 5] fun v2 =>K v2 σ)
 (xJoin (w_af_j3 K) fun J3 =>xF (fFld 2) [(locP 3)] fun v54 =>xO (gLoad 1 false [v54] c3) fun v55 =>xF (fFld 3) [(locP 4)] fun v56 =>xO (gLoad 1 false [v56] c4) fun v57 =>xF (fBin .eql .no) [v55, v57] fun v58 =>xF fMove [v58] fun v59 =>xIf v59
 (xF (fFld 0) [(locP 4)] fun v60 =>xO (gLoad 1 false [v60] c4) fun v61 =>xF (fBin .eql .no) [v61, .int .i64 2] fun v62 =>xF fPick [.bool true, v62, .bool false] fun v63 =>xF fMove [v63] fun v53 =>J3 [v53] [] σ)
 (xF fPick [.bool false, undef, .bool false] fun v63 =>xF fMove [v63] fun v53 =>J3 [v53] [] σ))
def w_af_j2 (K : Value → Mem → Prop) (ts : List Value) (ls : List (List Value)) (σ : Mem) : Prop := w_af_j2b K (ts.getD 0 poison) (ls.getD 0 []) (ls.getD 1 []) σ
def w_af_j1b (K : Value → Mem → Prop) (v15 : Value) (c3 c4 : List Value) (σ : Mem) : Prop :=xIf v15
 (xF fMove [.int .i64 6] fun v2 =>K v2 σ)
 (xF (fFld 0) [(locP 4)] fun v39 =>xO (gLoad 1 false [v39] c4) fun v40 =>xF (fBin .eql .no) [v40, .int .i64 4] fun v41 =>xF fMove [v41] fun v38 =>xIf v38
 (xF fMove [.int .i64 4] fun v2 =>K v2 σ)
 (xJoin (w_af_j2 K) fun J2 =>xF (fFld 1) [(locP 3)] fun v43 =>xO (gLoad 1 false [v43] c3) fun v44 =>xF (fUn .not) [v44] fun v45 =>xF fMove [v45] fun v46 =>xIf v46
 (xF fPick [.bool true, .bool true, undef] fun v52 =>xF fMove [v52] fun v42 =>J2 [v42] [c3, c4] σ)
 (xF (fFld 2) [(locP 3)] fun v47 =>xO (gLoad 1 false [v47] c3) fun v48 =>xF (fFld 3) [(locP 4)] fun v49 =>xO (gLoad 1 false [v49] c4) fun v50 =>xF (fBin .lss .no) [v48, v50] fun v51 =>xF fPick [.bool false, .bool true, v51] fun v52 =>xF fMove [v52] fun v42 =>J2 [v42] [c3, c4] σ)))
def w_af_j1 (K : Value → Mem → Prop) (ts : List Value) (ls : List (List Value)) (σ : Mem) : Prop := w_af_j1b K (ts.getD 0 poison) (ls.getD 0 []) (ls.getD 1 []) σ
def w_af (a0 : Value) (K : Value → Mem → Prop) (σ : Mem) : Prop :=xF fMove [.int .i64 0] fun v2 =>xF fMove [a0] fun v5 =>xF fNil [v5] fun v6 =>xF (fFld 10) [v6] fun v7 =>hLoad 1 false [v7] (fun v8 σ =>s_ce [v8] (fun v9 σ =>xF fMove [a0] fun v10 =>xF fNil [v10] fun v11 =>xF (fFld 9) [v11] fun v12 =>hLoad 1 false [v12] (fun v13 σ =>s_co [v13] (fun v14 σ =>xC (gStore 3 [(locP 3), v9] [.int .i64 0, .bool false, .int .i64 0]) fun c3 =>xC (gStore 4 [(locP 4), v14] [.int .i64 0, .int .i64 0, .int .i64 0, .int .i64 0]) fun c4 =>xJoin (w_af_j1 K) fun J1 =>xF fMove [a0] fun v16 =>xF fNil [v16] fun v17 =>xF (fFld 0) [v17] fun v18 =>xF (fFld 0) [v18] fun v19 =>hLoad 1 false [v19] (fun v20 σ =>xF (fBin .eql .no) [v20, .int .i64 1] fun v21 =>xF fMove [v21] fun v15 =>xIf v15
 (J1 [v15] [c3, c4] σ)
 (xF fMove [a0] fun v22 =>xF fNil [v22] fun v23 =>xF (fFld 0) [v23] fun v24 =>xF (fFld 0) [v24] fun v25 =>hLoad 1 false [v25] (fun v26 σ =>xF (fBin .eql .no) [v26, .int .i64 3] fun v27 =>xF fMove [v27] fun v28 =>xIf v28
 (xF (fFld 0) [(locP 3)] fun v29 =>xO (gLoad 1 false [v29] c3) fun v30 =>xF fMove [a0] fun v31 =>xF fNil [v31] fun v32 =>xF (fFld 0) [v32] fun v33 =>xF (fFld 4) [v33] fun v34 =>hLoad 1 false [v34] (fun v35 σ =>xF (fBin .neq .no) [v30, v35] fun v36 =>xF fPick [.bool true, v36, .bool false] fun v37 =>xF fMove [v37] fun v15 =>J1 [v15] [c3, c4] σ) σ)
 (xF fPick [.bool false, undef, .bool false] fun v37 =>xF fMove [v37] fun v15 =>J1 [v15] [c3, c4] σ)) σ)) σ) σ) σ) σ) σ
def s_af : Spec := fun args K σ => match args with
  | [a0] => w_af a0 K σ
  | _ => False
noncomputable def cx_af : Cx := { P := Try.prog, T := [(100, .none, s_ce), (67, .none, s_co)], loc := [(3, 3), (4, 4), (29, 3), (39, 4), (43, 3), (47, 3), (49, 4), (54, 3), (56, 4), (60, 4)], eqt := [], n := 64, keep := [(1000005, [15], [3, 4]), (1000009, [42], [3, 4]), (1000011, [53], [])] }
theorem q_af : FnS cx_af Try.f106 (bodyOf Try.f106) 1 = s_af := by
  funext args K σ
  rcases args with _ | ⟨a0, _ | ⟨b, r⟩⟩ <;> kernel_rfl
theorem e_af : Entry Try.prog 106 .read s_af :=
  entry (C := cx_af) (TOk.cons e_ce (TOk.cons e_co TOk.nil)) mixedOk Try.func106 (by kernel_rfl) (by kernel_rfl) (by kernel_rfl) q_af
def xl_af : List (Nat × Nat) := [(3, 3), (4, 4), (29, 3), (39, 4), (43, 3), (47, 3), (49, 4), (54, 3), (56, 4), (60, 4)]
noncomputable def xc_af : XC XN :=
(.seq none
 (.reg [zc 2 (.int .i64 0)])
 (.seq none
 (.reg [zM 5 0,
  zN 6 5,
  zF 10 7 6,
  zL 8 7,
  zk .none s_ce v_ce 9 [.tmp 8],
  zM 10 0,
  zN 11 10,
  zF 9 12 11,
  zL 13 12,
  zk .none s_co v_co 14 [.tmp 13],
  zy xl_af (.la 3 [.int .i64 0, .bool false, .int .i64 0]) 3 [],
  zy xl_af (.la 4 [.int .i64 0, .int .i64 0, .int .i64 0, .int .i64 0]) 4 [],
  zY xl_af (.ls 3 3) [.tmp 3, .tmp 9],
  zY xl_af (.ls 4 4) [.tmp 4, .tmp 14]])
 (.seq none
 (.block 0
 (.seq (some ([15], [3, 4]))
 (.seq none
 (.reg [zM 16 0,
  zN 17 16,
  zF 0 18 17,
  zF 0 19 18,
  zL 20 19,
  zb .eql rEql 21 [.tmp 20, .const (.int .i64 1)],
  zM 15 21])
 (.cond (.tmp 15)
 .skip
 (.reg [zM 22 0,
  zN 23 22,
  zF 0 24 23,
  zF 0 25 24,
  zL 26 25,
  zb .eql rEql 27 [.tmp 26, .const (.int .i64 3)],
  zM 28 27,
  ⟨(some (7, 6, true, some 28)), some 29, [.tmp 3], ⟨.f (fFld 0), rFld 0⟩⟩,
  ⟨(some (8, 6, true, some 28)), some 30, [.tmp 29], ⟨.lr 3 1 false, rLr1 3⟩⟩,
  ⟨(some (9, 6, true, some 28)), some 31, [.tmp 0], ⟨.f fMove, rMove⟩⟩,
  ⟨(some (10, 6, true, some 28)), some 32, [.tmp 31], ⟨.f fNil, rNil⟩⟩,
  ⟨(some (11, 6, true, some 28)), some 33, [.tmp 32], ⟨.f (fFld 0), rFld 0⟩⟩,
  ⟨(some (12, 6, true, some 28)), some 34, [.tmp 33], ⟨.f (fFld 4), rFld 4⟩⟩,
  ⟨(some (13, 6, true, some 28)), some 35, [.tmp 34], ⟨.load 1 false, rLoad1⟩⟩,
  ⟨(some (14, 6, true, some 28)), some 36, [.tmp 30, .tmp 35], ⟨.f (fBin .neq .no), rNeq⟩⟩,
  zz (.f fPick) rPick (some 37) [.tmp 28, .tmp 36, .const (.bool false)],
  zM 15 37])))
 (.cond (.tmp 15)
 (.seq none
 (.reg [zc 2 (.int .i64 6)])
 .ret)
 (.seq none
 (.reg [zF 0 39 4,
  zr 4 40 39,
  zb .eql rEql 41 [.tmp 40, .const (.int .i64 4)],
  zM 38 41])
 (.cond (.tmp 38)
 (.seq none
 (.reg [zc 2 (.int .i64 4)])
 .ret)
 (.seq (some ([42], [3, 4]))
 (.reg [zF 1 43 3,
  zr 3 44 43,
  zz (.f (fUn .not)) rNot (some 45) [.tmp 44],
  zM 46 45,
  ⟨(some (4, 3, false, some 46)), some 47, [.tmp 3], ⟨.f (fFld 2), rFld 2⟩⟩,
  ⟨(some (5, 3, false, some 46)), some 48, [.tmp 47], ⟨.lr 3 1 false, rLr1 3⟩⟩,
  ⟨(some (6, 3, false, some 46)), some 49, [.tmp 4], ⟨.f (fFld 3), rFld 3⟩⟩,
  ⟨(some (7, 3, false, some 46)), some 50, [.tmp 49], ⟨.lr 4 1 false, rLr1 4⟩⟩,
  ⟨(some (8, 3, false, some 46)), some 51, [.tmp 48, .tmp 50], ⟨.f (fBin .lss .no), rLss⟩⟩,
  zz (.f fPick) rPick (some 52) [.tmp 46, .const (.bool true), .tmp 51],
  zM 42 52])
 (.cond (.tmp 42)
 (.seq none
 (.reg [zc 2 (.int .i64 5)])
 .ret)
 (.seq (some ([53], []))
 (.reg [zF 2 54 3,
  zr 3 55 54,
  zF 3 56 4,
  zr 4 57 56,
  zb .eql rEql 58 [.tmp 55, .tmp 57],
  zM 59 58,
  ⟨(some (6, 5, true, some 59)), some 60, [.tmp 4], ⟨.f (fFld 0), rFld 0⟩⟩,
  ⟨(some (7, 5, true, some 59)), some 61, [.tmp 60], ⟨.lr 4 1 false, rLr1 4⟩⟩,
  ⟨(some (8, 5, true, some 59)), some 62, [.tmp 61, (.const (.int .i64 2))], ⟨.f (fBin .eql .no), rEql⟩⟩,
  zz (.f fPick) rPick (some 63) [.tmp 59, .tmp 62, .const (.bool false)],
  zM 53 63])
 (.cond (.tmp 53)
 (.seq none
 (.reg [zc 2 (.int .i64 3)])
 .ret)
 .skip)))))))))
 (.seq none
 (.reg [zc 2 (.int .i64 0)])
 .ret))))
noncomputable def v_af : EvF := evFn 1 xc_af [.t 2]
theorem xt_af : toC cx_af (bodyOf Try.f106) = some (xc_af.map XN.sm) := by kernel_rfl
theorem xr_af : toR cx_af Try.f106.results.toList = some [.t 2] := by kernel_rfl
theorem xo_af : xc_af.ok xl_af := ⟨⟨r_m, trivial⟩, ⟨⟨r_m, r_n, r_f _, r_l, r_c ve_ce, r_m, r_n, r_f _, r_l, r_c ve_co, r_a (trivial), r_a (trivial), r_a (trivial), r_a (trivial), trivial⟩, ⟨⟨⟨⟨r_m, r_n, r_f _, r_f _, r_l, r_e, r_m, trivial⟩, ⟨trivial, ⟨r_m, r_n, r_f _, r_f _, r_l, r_e, r_m, r_f _, r_r _, r_m, r_n, r_f _, r_f _, r_l, rNeq_ok, r_p, r_m, trivial⟩⟩⟩, ⟨⟨⟨r_m, trivial⟩, trivial⟩, ⟨⟨r_f _, r_r _, r_e, r_m, trivial⟩, ⟨⟨⟨r_m, trivial⟩, trivial⟩, ⟨⟨r_f _, r_r _, r_t, r_m, r_f _, r_r _, r_f _, r_r _, rLss_ok, r_p, r_m, trivial⟩, ⟨⟨⟨r_m, trivial⟩, trivial⟩, ⟨⟨r_f _, r_r _, r_f _, r_r _, r_e, r_m, r_f _, r_r _, r_e, r_p, r_m, trivial⟩, ⟨⟨⟨r_m, trivial⟩, trivial⟩, trivial⟩⟩⟩⟩⟩⟩⟩⟩, ⟨⟨r_m, trivial⟩, trivial⟩⟩⟩⟩
theorem ve_af : EvOk s_af v_af := EvOk.of (evFn_sound (C := cx_af) xt_af xr_af xo_af) q_af
attribute [irreducible] w_af_j3b w_af_j3 w_af_j2b w_af_j2 w_af_j1b w_af_j1 w_af s_af
def w_ad (a0 a1 : Value) (K : Value → Mem → Prop) (σ : Mem) : Prop :=xC (gBox 9 [a1] []) fun c3 =>xF fMove [.bool false] fun v4 =>xO (gLoad 9 true [(locP 3)] c3) fun v7 =>xF (fFld 0) [(locP 3)] fun v8 =>xO (gLoad 7 true [v8] c3) fun v9 =>xF fMove [a0] fun v10 =>xF fNil [v10] fun v11 =>xF (fFld 6) [v11] fun v12 =>xF (fFld 0) [v12] fun v13 =>hLoad 1 false [v13] (fun v14 σ =>s_bp [v9, v14] (fun v15 σ =>s_bf [v7, v15] (fun v16 σ =>s_co [v16] (fun v17 σ =>xC (gStore 4 [(locP 5), v17] [.int .i64 0, .int .i64 0, .int .i64 0, .int .i64 0]) fun c5 =>xF fMove [a0] fun v18 =>xF fNil [v18] fun v19 =>xF (fFld 10) [v19] fun v20 =>hLoad 1 false [v20] (fun v21 σ =>s_ce [v21] (fun v22 σ =>xF (fFldV 0 1 false) [v22] fun v23 =>xF fMove [v23] fun v6 =>xO (gLoad 4 true [(locP 5)] c5) fun v25 =>xF fMove [a0] fun v26 =>xF fNil [v26] fun v27 =>xF (fFld 6) [v27] fun v28 =>hLoad 2 true [v28] (fun v29 σ =>s_ax [v25, v29] (fun v30 σ =>xF (fUn .not) [v30] fun v31 =>xF fMove [v31] fun v24 =>xIf v24
 (xF fMove [a0] fun v32 =>xO (gLoad 9 true [(locP 3)] c3) fun v33 =>s_bg [v33] (fun v34 σ =>s_ae [v32, .int .i64 3, .int .i64 0, v34] (fun v35 σ =>xF fMove [v35] fun v4 =>K v4 σ) σ) σ)
 (xF (fFld 1) [(locP 5)] fun v37 =>xO (gLoad 1 false [v37] c5) fun v38 =>xF fMove [a0] fun v39 =>xF fNil [v39] fun v40 =>xF (fFld 9) [v40] fun v41 =>hLoad 1 false [v41] (fun v42 σ =>s_co [v42] (fun v43 σ =>xF (fFldV 1 1 false) [v43] fun v44 =>xF (fBin .neq .no) [v38, v44] fun v45 =>xF fMove [v45] fun v36 =>xIf v36
 (xF fMove [a0] fun v46 =>xF fNil [v46] fun v47 =>xF (fFld 8) [v47] fun v48 =>hStore 1 [v48, .int .i64 0] (fun _v σ =>xF fMove [.bool false] fun v4 =>K v4 σ) σ)
 (xF fMove [a0] fun v50 =>xF fNil [v50] fun v51 =>xF (fFld 0) [v51] fun v52 =>xF (fFld 0) [v52] fun v53 =>hLoad 1 false [v53] (fun v54 σ =>xF (fBin .eql .no) [v54, .int .i64 3] fun v55 =>xF fMove [v55] fun v49 =>xIf v49
 (xF fMove [a0] fun v56 =>xF fMove [v6] fun v57 =>xF fMove [a0] fun v58 =>xF fNil [v58] fun v59 =>xF (fFld 12) [v59] fun v60 =>hLoad 1 false [v60] (fun v61 σ =>s_ae [v56, .int .i64 8, v57, v61] (fun v62 σ =>xF fMove [v62] fun v4 =>K v4 σ) σ) σ)
 (xF fMove [a0] fun v63 =>xF fMove [v6] fun v64 =>xF fMove [a0] fun v65 =>xF fNil [v65] fun v66 =>xF (fFld 12) [v66] fun v67 =>hLoad 1 false [v67] (fun v68 σ =>s_ae [v63, .int .i64 0, v64, v68] (fun v69 σ =>xF fMove [v69] fun v4 =>K v4 σ) σ) σ)) σ)) σ) σ)) σ) σ) σ) σ) σ) σ) σ) σ
def s_ad : Spec := fun args K σ => match args with
  | [a0, a1] => w_ad a0 a1 K σ
  | _ => False
noncomputable def cx_ad : Cx := { P := Try.prog, T := [(30, .none, s_bp), (37, .write, s_bf), (67, .none, s_co), (100, .none, s_ce), (99, .none, s_ax), (17, .read, s_bg), (105, .write, s_ae)], loc := [(3, 3), (5, 5), (8, 3), (37, 5)], eqt := [], n := 70, keep := [] }
theorem q_ad : FnS cx_ad Try.f107 (bodyOf Try.f107) 2 = s_ad := by
  funext args K σ
  rcases args with _ | ⟨a0, _ | ⟨a1, _ | ⟨b, r⟩⟩⟩ <;> kernel_rfl
theorem e_ad : Entry Try.prog 107 .write s_ad :=
  entry (C := cx_ad) (TOk.cons e_bp (TOk.cons e_bf (TOk.cons e_co (TOk.cons e_ce (TOk.cons e_ax (TOk.cons e_bg (TOk.cons e_ae TOk.nil))))))) mixedOk Try.func107 (by kernel_rfl) (by kernel_rfl) (by kernel_rfl) q_ad
def xl_ad : List (Nat × Nat) := [(3, 3), (5, 5), (8, 3), (37, 5)]
noncomputable def xc_ad : XC XN :=
(.seq none
 (.reg [zy xl_ad (.lb 3 9) 3 [.tmp 1],
  zc 4 (.bool false)])
 (.seq none
 (.reg [zy xl_ad (.lr 3 9 true) 7 [.tmp 3],
  zF 0 8 3,
  zy xl_ad (.lr 3 7 true) 9 [.tmp 8],
  zM 10 0,
  zN 11 10,
  zF 6 12 11,
  zF 0 13 12,
  zL 14 13,
  zk .none s_bp v_bp 15 [.tmp 9, .tmp 14],
  zk .write s_bf v_bf 16 [.tmp 7, .tmp 15],
  zk .none s_co v_co 17 [.tmp 16],
  zy xl_ad (.la 5 [.int .i64 0, .int .i64 0, .int .i64 0, .int .i64 0]) 5 [],
  zY xl_ad (.ls 5 4) [.tmp 5, .tmp 17]])
 (.seq none
 (.reg [zM 18 0,
  zN 19 18,
  zF 10 20 19,
  zL 21 20,
  zk .none s_ce v_ce 22 [.tmp 21],
  zy xl_ad (.f (fFldV 0 1 false)) 23 [.tmp 22],
  zM 6 23])
 (.seq none
 (.block 0
 (.seq none
 (.reg [zy xl_ad (.lr 5 4 true) 25 [.tmp 5],
  zM 26 0,
  zN 27 26,
  zF 6 28 27,
  zy xl_ad (.load 2 true) 29 [.tmp 28],
  zk .none s_ax v_ax 30 [.tmp 25, .tmp 29],
  zz (.f (fUn .not)) rNot (some 31) [.tmp 30],
  zM 24 31])
 (.cond (.tmp 24)
 (.seq none
 (.reg [zM 32 0,
  zy xl_ad (.lr 3 9 true) 33 [.tmp 3],
  zk .read s_bg v_bg 34 [.tmp 33],
  zk .write s_ae v_ae 35 [.tmp 32, .const (.int .i64 3), .const (.int .i64 0), .tmp 34],
  zM 4 35])
 .ret)
 (.seq none
 (.reg [zF 1 37 5,
  zr 5 38 37,
  zM 39 0,
  zN 40 39,
  zF 9 41 40,
  zL 42 41,
  zk .none s_co v_co 43 [.tmp 42],
  zy xl_ad (.f (fFldV 1 1 false)) 44 [.tmp 43],
  zb .neq rNeq 45 [.tmp 38, .tmp 44],
  zM 36 45])
 (.cond (.tmp 36)
 (.seq none
 (.reg [zM 46 0,
  zN 47 46,
  zF 8 48 47,
  zS [.tmp 48, .const (.int .i64 0)]])
 (.seq none
 (.reg [zc 4 (.bool false)])
 .ret))
 (.seq none
 (.reg [zM 50 0,
  zN 51 50,
  zF 0 52 51,
  zF 0 53 52,
  zL 54 53,
  zb .eql rEql 55 [.tmp 54, .const (.int .i64 3)],
  zM 49 55])
 (.cond (.tmp 49)
 (.seq none
 (.reg [zM 56 0,
  zM 57 6,
  zM 58 0,
  zN 59 58,
  zF 12 60 59,
  zL 61 60,
  zk .write s_ae v_ae 62 [.tmp 56, .const (.int .i64 8), .tmp 57, .tmp 61],
  zM 4 62])
 .ret)
 .skip)))))))
 (.seq none
 (.reg [zM 63 0,
  zM 64 6,
  zM 65 0,
  zN 66 65,
  zF 12 67 66,
  zL 68 67,
  zk .write s_ae v_ae 69 [.tmp 63, .const (.int .i64 0), .tmp 64, .tmp 68],
  zM 4 69])
 .ret)))))
noncomputable def v_ad : EvF := evFn 2 xc_ad [.t 4]
theorem xt_ad : toC cx_ad (bodyOf Try.f107) = some (xc_ad.map XN.sm) := by kernel_rfl
theorem xr_ad : toR cx_ad Try.f107.results.toList = some [.t 4] := by kernel_rfl
theorem xo_ad : xc_ad.ok xl_ad := ⟨⟨r_a (trivial), r_m, trivial⟩, ⟨⟨r_a (trivial), r_f _, r_a (trivial), r_m, r_n, r_f _, r_f _, r_l, r_c ve_bp, r_c ve_bf, r_c ve_co, r_a (trivial), r_a (trivial), trivial⟩, ⟨⟨r_m, r_n, r_f _, r_l, r_c ve_ce, r_a (eqv_fldV _ _ _), r_m, trivial⟩, ⟨⟨⟨r_a (trivial), r_m, r_n, r_f _, r_a (trivial), r_c ve_ax, r_t, r_m, trivial⟩, ⟨⟨⟨r_m, r_a (trivial), r_c ve_bg, r_c ve_ae, r_m, trivial⟩, trivial⟩, ⟨⟨r_f _, r_r _, r_m, r_n, r_f _, r_l, r_c ve_co, r_a (eqv_fldV _ _ _), rNeq_ok, r_m, trivial⟩, ⟨⟨⟨r_m, r_n, r_f _, r_s, trivial⟩, ⟨⟨r_m, trivial⟩, trivial⟩⟩, ⟨⟨r_m, r_n, r_f _, r_f _, r_l, r_e, r_m, trivial⟩, ⟨⟨⟨r_m, r_m, r_m, r_n, r_f _, r_l, r_c ve_ae, r_m, trivial⟩, trivial⟩, trivial⟩⟩⟩⟩⟩⟩, ⟨⟨r_m, r_m, r_m, r_n, r_f _, r_l, r_c ve_ae, r_m, trivial⟩, trivial⟩⟩⟩⟩⟩
theorem ve_ad : EvOk s_ad v_ad := EvOk.of (evFn_sound (C := cx_ad) xt_ad xr_ad xo_ad) q_ad
attribute [irreducible] w_ad s_ad
def w_ab_j1b (K : Value → Mem → Prop) (σ : Mem) : Prop :=xF fMove [.bool false] fun v4 =>K v4 σ
def w_ab_j1 (K : Value → Mem → Prop) (ts : List Value) (ls : List (List Value)) (σ : Mem) : Prop := w_ab_j1b K σ
def w_ab_j2b (K : Value → Mem → Prop) (J1 : List Value → List (List Value) → Mem → Prop) (v0 v40 : Value) (c3 c5 : List Value) (σ : Mem) : Prop :=xIf v40
 (xF fMove [v0] fun v41 =>xO (gLoad 9 true [(locP 3)] c3) fun v42 =>s_bg [v42] (fun v43 σ =>s_ae [v41, .int .i64 3, .int .i64 0, v43] (fun v44 σ =>xF fMove [v44] fun v4 =>K v4 σ) σ) σ)
 (xF fMove [v0] fun v45 =>xO (gLoad 9 true [(locP 3)] c3) fun v46 =>xF (fFld 0) [(locP 3)] fun v47 =>xO (gLoad 7 true [v47] c3) fun v48 =>xF (fFld 0) [(locP 5)] fun v49 =>xO (gLoad 1 false [v49] c5) fun v50 =>s_bp [v48, v50] (fun v51 σ =>s_bf [v46, v51] (fun v52 σ =>xF fNil [v45] fun v53 =>xF (fFld 9) [v53] fun v54 =>hStore 1 [v54, v52] (fun _v σ =>xF fMove [v0] fun v55 =>xF fMove [v0] fun v56 =>xO (gLoad 9 true [(locP 3)] c3) fun v57 =>s_bg [v57] (fun v58 σ =>xF fNil [v55] fun v59 =>xF (fFld 11) [v59] fun v60 =>hStore 1 [v60, v58] (fun _v σ =>xF fNil [v56] fun v61 =>xF (fFld 8) [v61] fun v62 =>hStore 1 [v62, .int .i64 1] (fun _v σ =>xF fMove [v0] fun v63 =>xF fNil [v63] fun v64 =>xF (fFld 9) [v64] fun v65 =>hLoad 1 false [v65] (fun v66 σ =>s_co [v66] (fun v67 σ =>xO (gLoad 2 true [(locP 5)] c5) fun v68 =>s_ax [v67, v68] (fun v69 σ =>xF (fUn .not) [v69] fun v70 =>xIf v70
 (xF fMove [v0] fun v71 =>xO (gLoad 9 true [(locP 3)] c3) fun v72 =>s_bg [v72] (fun v73 σ =>s_ae [v71, .int .i64 3, .int .i64 0, v73] (fun v74 σ =>xF fMove [v74] fun v4 =>K v4 σ) σ) σ)
 (J1 [] [] σ)) σ) σ) σ) σ) σ) σ) σ) σ) σ)
def w_ab_j2 (K : Value → Mem → Prop) (J1 : List Value → List (List Value) → Mem → Prop) (ts : List Value) (ls : List (List Value)) (σ : Mem) : Prop := w_ab_j2b K J1 (ts.getD 0 poison) (ts.getD 1 poison) (ls.getD 0 []) (ls.getD 1 []) σ
def w_ab_j3b (K : Value → Mem → Prop) (J1 : List Value → List (List Value) → Mem → Prop) (v0 v106 : Value) (σ : Mem) : Prop :=xIf v106
 (xF fMove [v0] fun v123 =>xF fMove [v0] fun v124 =>xF fNil [v124] fun v125 =>xF (fFld 11) [v125] fun v126 =>hLoad 1 false [v126] (fun v127 σ =>s_ae [v123, .int .i64 4, .int .i64 0, v127] (fun v128 σ =>xF fMove [v128] fun v4 =>K v4 σ) σ) σ)
 (J1 [] [] σ)
def w_ab_j3 (K : Value → Mem → Prop) (J1 : List Value → List (List Value) → Mem → Prop) (ts : List Value) (ls : List (List Value)) (σ : Mem) : Prop := w_ab_j3b K J1 (ts.getD 0 poison) (ts.getD 1 poison) σ
def w_ab (a0 a1 : Value) (K : Value → Mem → Prop) (σ : Mem) : Prop :=xC (gBox 9 [a1] []) fun c3 =>xF fMove [.bool false] fun v4 =>xJoin (w_ab_j1 K) fun J1 =>xF fMove [a0] fun v9 =>xF fNil [v9] fun v10 =>xF (fFld 8) [v10] fun v11 =>hLoad 1 false [v11] (fun v12 σ =>xF (fBin .eql .no) [v12, .int .i64 0] fun v17 =>xF fMove [v17] fun v16 =>xIf v16
 (xF fMove [a0] fun v19 =>xF fNil [v19] fun v20 =>xF (fFld 0) [v20] fun v21 =>xF (fFld 1) [v21] fun v22 =>hLoad 1 false [v22] (fun v23 σ =>s_cg [v23] (fun v24 σ =>xF fMove [v24] fun v18 =>xF (fExt 0) [v18] fun v25 =>xF (fExt 1) [v18] fun v26 =>xC (gStore 2 [(locP 5), v25] [.int .i64 0, .int .i64 0]) fun c5 =>xF fMove [v26] fun v6 =>xF fMove [a0] fun v27 =>xO (gLoad 2 true [(locP 5)] c5) fun v28 =>xF fNil [v27] fun v29 =>xF (fFld 6) [v29] fun v30 =>hStore 2 [v30, v28] (fun _v σ =>xJoin (w_ab_j2 K J1) fun J2 =>xF fMove [v6] fun v31 =>xF (fUn .not) [v31] fun v32 =>xF fMove [v32] fun v33 =>xIf v33
 (xF fPick [.bool true, .bool true, undef] fun v40 =>J2 [a0, v40] [c3, c5] σ)
 (xF (fFld 0) [(locP 5)] fun v34 =>xO (gLoad 1 false [v34] c5) fun v35 =>xF (fFld 0) [(locP 3)] fun v36 =>xF (fFld 1) [v36] fun v37 =>xO (gLoad 1 false [v37] c3) fun v38 =>xF (fBin .geq .no) [v35, v38] fun v39 =>xF fPick [.bool false, .bool true, v39] fun v40 =>J2 [a0, v40] [c3, c5] σ)) σ) σ) σ)
 (xF (fBin .eql .no) [v12, .int .i64 1] fun v76 =>xF fMove [v76] fun v75 =>xIf v75
 (xO (gLoad 9 true [(locP 3)] c3) fun v77 =>xF fMove [a0] fun v78 =>xF fNil [v78] fun v79 =>xF (fFld 9) [v79] fun v80 =>hLoad 1 false [v80] (fun v81 σ =>s_co [v81] (fun v82 σ =>xF (fFldV 1 1 false) [v82] fun v83 =>s_bf [v77, v83] (fun v84 σ =>s_ch [v84] (fun v85 σ =>xC (gStore 5 [(locP 7), v85] [.int .i64 0, .int .i64 0, .int .i64 0, .int .i64 0, .bool false]) fun c7 =>xF fMove [a0] fun v86 =>xF fMove [a0] fun v87 =>xF (fFld 1) [(locP 7)] fun v88 =>xO (gLoad 1 false [v88] c7) fun v89 =>xF fNil [v86] fun v90 =>xF (fFld 13) [v90] fun v91 =>hStore 1 [v91, v89] (fun _v σ =>xF fNil [v87] fun v92 =>xF (fFld 8) [v92] fun v93 =>hStore 1 [v93, .int .i64 2] (fun _v σ =>xF (fFld 4) [(locP 7)] fun v95 =>xO (gLoad 1 false [v95] c7) fun v96 =>xF fMove [a0] fun v97 =>xF fNil [v97] fun v98 =>xF (fFld 5) [v98] fun v99 =>hLoad 1 false [v99] (fun v100 σ =>xF (fBin .neq .bool) [v96, v100] fun v101 =>xF fMove [v101] fun v94 =>xIf v94
 (xF fMove [a0] fun v102 =>xO (gLoad 9 true [(locP 3)] c3) fun v103 =>s_bg [v103] (fun v104 σ =>s_ae [v102, .int .i64 3, .int .i64 0, v104] (fun v105 σ =>xF fMove [v105] fun v4 =>K v4 σ) σ) σ)
 (xJoin (w_ab_j3 K J1) fun J3 =>xF fMove [a0] fun v107 =>xF fNil [v107] fun v108 =>xF (fFld 0) [v108] fun v109 =>xF (fFld 2) [v109] fun v110 =>hLoad 1 false [v110] (fun v111 σ =>xF (fBin .lss .no) [v111, .int .i64 0] fun v112 =>xF fMove [v112] fun v113 =>xIf v113
 (xF fPick [.bool true, .bool true, undef] fun v122 =>xF fMove [v122] fun v106 =>J3 [a0, v106] [] σ)
 (xF fMove [a0] fun v114 =>xF fNil [v114] fun v115 =>xF (fFld 0) [v115] fun v116 =>xF (fFld 2) [v116] fun v117 =>hLoad 1 false [v117] (fun v118 σ =>xF (fFld 1) [(locP 7)] fun v119 =>xO (gLoad 1 false [v119] c7) fun v120 =>xF (fBin .geq .no) [v118, v120] fun v121 =>xF fPick [.bool false, .bool true, v121] fun v122 =>xF fMove [v122] fun v106 =>J3 [a0, v106] [] σ) σ)) σ)) σ) σ) σ) σ) σ) σ) σ)
 (xF (fBin .eql .no) [v12, .int .i64 2] fun v130 =>xF fMove [v130] fun v129 =>xIf v129
 (xF fMove [a0] fun v131 =>xO (gLoad 9 true [(locP 3)] c3) fun v132 =>xF fMove [a0] fun v133 =>s_ac [v133] (fun v134 σ =>s_bf [v132, v134] (fun v135 σ =>xF fNil [v131] fun v136 =>xF (fFld 10) [v136] fun v137 =>hStore 1 [v137, v135] (fun _v σ =>xF fMove [a0] fun v138 =>xF fMove [a0] fun v139 =>xO (gLoad 9 true [(locP 3)] c3) fun v140 =>s_bg [v140] (fun v141 σ =>xF fMove [a0] fun v142 =>s_af [v142] (fun v143 σ =>xF fNil [v138] fun v144 =>xF (fFld 12) [v144] fun v145 =>hStore 1 [v145, v141] (fun _v σ =>xF fNil [v139] fun v146 =>xF (fFld 8) [v146] fun v147 =>hStore 1 [v147, v143] (fun _v σ =>xF fMove [a0] fun v148 =>xF fNil [v148] fun v149 =>xF (fFld 8) [v149] fun v150 =>hLoad 1 false [v150] (fun v151 σ =>xF (fBin .eql .no) [v151, .int .i64 4] fun v152 =>xIf v152
 (xF fMove [a0] fun v153 =>xF fMove [a0] fun v154 =>xF fNil [v154] fun v155 =>xF (fFld 6) [v155] fun v156 =>xF (fFld 0) [v156] fun v157 =>hLoad 1 false [v157] (fun v158 σ =>xF fMove [a0] fun v159 =>xF fNil [v159] fun v160 =>xF (fFld 9) [v160] fun v161 =>hLoad 1 false [v161] (fun v162 σ =>xF fMove [a0] fun v163 =>xF fNil [v163] fun v164 =>xF (fFld 13) [v164] fun v165 =>hLoad 1 false [v165] (fun v166 σ =>s_az [v158, v162, v166] (fun v167 σ =>xF fNil [v153] fun v168 =>xF (fFld 14) [v168] fun v169 =>hStore 1 [v169, v167] (fun _v σ =>J1 [] [] σ) σ) σ) σ) σ) σ)
 (J1 [] [] σ)) σ) σ) σ) σ) σ) σ) σ) σ)
 (xF (fBin .eql .no) [v12, .int .i64 3] fun v171 =>xF fMove [v171] fun v170 =>xIf v170
 (xF fMove [a0] fun v172 =>xF fNil [v172] fun v173 =>xF (fFld 9) [v173] fun v174 =>hLoad 1 false [v174] (fun v175 σ =>s_co [v175] (fun v176 σ =>xC (gStore 4 [(locP 8), v176] [.int .i64 0, .int .i64 0, .int .i64 0, .int .i64 0]) fun c8 =>xF (fFld 3) [(locP 8)] fun v177 =>xO (gLoad 1 false [v177] c8) fun v178 =>xF (fBin .add .no) [v178, .int .i64 1] fun v179 =>xF (fFld 0) [(locP 8)] fun v180 =>xC (gStore 1 [v180, .int .i64 1] c8) fun c8 =>xF (fFld 3) [(locP 8)] fun v181 =>xC (gStore 1 [v181, v179] c8) fun c8 =>xO (gLoad 9 true [(locP 3)] c3) fun v182 =>xF (fFld 0) [(locP 3)] fun v183 =>xO (gLoad 7 true [v183] c3) fun v184 =>xF fMove [a0] fun v185 =>xF fNil [v185] fun v186 =>xF (fFld 6) [v186] fun v187 =>xF (fFld 0) [v187] fun v188 =>hLoad 1 false [v188] (fun v189 σ =>s_bp [v184, v189] (fun v190 σ =>xF fMove [a0] fun v191 =>xF fNil [v191] fun v192 =>xF (fFld 9) [v192] fun v193 =>hLoad 1 false [v193] (fun v194 σ =>xO (gLoad 4 true [(locP 8)] c8) fun v195 =>s_cm [v195] (fun v196 σ =>s_be [v182, v190, v194, v196] (fun v197 σ =>xF fMove [a0] fun v198 =>xF fNil [v198] fun v199 =>xF (fFld 8) [v199] fun v200 =>hStore 1 [v200, .int .i64 0] (fun _v σ =>J1 [] [] σ) σ) σ) σ) σ) σ) σ) σ) σ)
 (xF (fBin .eql .no) [v12, .int .i64 4] fun v202 =>xF fMove [v202] fun v201 =>xIf v201
 (xF fMove [a0] fun v203 =>xF fNil [v203] fun v204 =>xF (fFld 14) [v204] fun v205 =>hLoad 1 false [v205] (fun v206 σ =>xO (gLoad 9 true [(locP 3)] c3) fun v207 =>s_aw [v206, v207] (fun v208 σ =>xIf v208
 (xF fMove [a0] fun v209 =>xF fNil [v209] fun v210 =>xF (fFld 8) [v210] fun v211 =>hStore 1 [v211, .int .i64 0] (fun _v σ =>J1 [] [] σ) σ)
 (J1 [] [] σ)) σ) σ)
 (xF (fBin .eql .no) [v12, .int .i64 5] fun v213 =>xF fMove [v213] fun v212 =>xIf v212
 (xF fMove [a0] fun v214 =>xF fNil [v214] fun v215 =>xF (fFld 8) [v215] fun v216 =>hStore 1 [v216, .int .i64 0] (fun _v σ =>xO (gLoad 9 true [(locP 3)] c3) fun v217 =>xF fMove [a0] fun v218 =>s_ac [v218] (fun v219 σ =>xF fMove [a0] fun v220 =>xF fNil [v220] fun v221 =>xF (fFld 10) [v221] fun v222 =>hLoad 1 false [v222] (fun v223 σ =>xF fMove [a0] fun v224 =>xF fNil [v224] fun v225 =>xF (fFld 0) [v225] fun v226 =>xF (fFld 3) [v226] fun v227 =>hLoad 1 false [v227] (fun v228 σ =>xF (fBuild [(0, 1), (1, 1), (2, 1)] [.int .i64 0, .bool false, .int .i64 0] [0]) [v228] fun v229 =>s_ci [v229] (fun v230 σ =>s_be [v217, v219, v223, v230] (fun v231 σ =>xIf v231
 (xF fMove [a0] fun v232 =>xF fMove [a0] fun v233 =>xF fNil [v233] fun v234 =>xF (fFld 10) [v234] fun v235 =>hLoad 1 false [v235] (fun v236 σ =>s_ce [v236] (fun v237 σ =>xF (fFldV 0 1 false) [v237] fun v238 =>xO (gLoad 9 true [(locP 3)] c3) fun v239 =>s_bg [v239] (fun v240 σ =>s_ae [v232, .int .i64 0, v238, v240] (fun v241 σ =>xF fMove [v241] fun v4 =>K v4 σ) σ) σ) σ) σ)
 (J1 [] [] σ)) σ) σ) σ) σ) σ) σ)
 (xF fMove [a0] fun v13 =>xO (gLoad 9 true [(locP 3)] c3) fun v14 =>s_ad [v13, v14] (fun v15 σ =>xF fMove [v15] fun v4 =>K v4 σ) σ))))))) σ
def s_ab : Spec := fun args K σ => match args with
  | [a0, a1] => w_ab a0 a1 K σ
  | _ => False
noncomputable def cx_ab : Cx := { P := Try.prog, T := [(98, .none, s_cg), (17, .read, s_bg), (105, .write, s_ae), (30, .none, s_bp), (37, .write, s_bf), (67, .none, s_co), (99, .none, s_ax), (91, .none, s_ch), (104, .read, s_ac), (106, .read, s_af), (93, .write, s_az), (31, .none, s_cm), (79, .write, s_be), (95, .write, s_aw), (101, .none, s_ci), (100, .none, s_ce), (107, .write, s_ad)], loc := [(3, 3), (5, 5), (7, 7), (8, 8), (34, 5), (36, 3), (37, 3), (47, 3), (49, 5), (88, 7), (95, 7), (119, 7), (177, 8), (180, 8), (181, 8), (183, 3)], eqt := [(4, .bool)], n := 242, keep := [(1000008, [0, 40], [3, 5]), (1000019, [0, 106], []), (1000037, [], [])] }
theorem q_ab : FnS cx_ab Try.f103 (bodyOf Try.f103) 2 = s_ab := by
  funext args K σ
  rcases args with _ | ⟨a0, _ | ⟨a1, _ | ⟨b, r⟩⟩⟩ <;> kernel_rfl
theorem e_ab : Entry Try.prog 103 .write s_ab :=
  entry (C := cx_ab) (TOk.cons e_cg (TOk.cons e_bg (TOk.cons e_ae (TOk.cons e_bp (TOk.cons e_bf (TOk.cons e_co (TOk.cons e_ax (TOk.cons e_ch (TOk.cons e_ac (TOk.cons e_af (TOk.cons e_az (TOk.cons e_cm (TOk.cons e_be (TOk.cons e_aw (TOk.cons e_ci (TOk.cons e_ce (TOk.cons e_ad TOk.nil))))))))))))))))) mixedOk Try.func103 (by kernel_rfl) (by kernel_rfl) (by kernel_rfl) q_ab
def xl_ab : List (Nat × Nat) := [(3, 3), (5, 5), (7, 7), (8, 8), (34, 5), (36, 3), (37, 3), (47, 3), (49, 5), (88, 7), (95, 7), (119, 7), (177, 8), (180, 8), (181, 8), (183, 3)]
noncomputable def xc_ab : XC XN :=
(.seq none
 (.reg [zy xl_ab (.lb 3 9) 3 [.tmp 1],
  zc 4 (.bool false)])
 (.seq (some ([], []))
 (.seq none
 (.reg [zM 9 0,
  zN 10 9,
  zF 8 11 10,
  zL 12 11])
 (.block 0
 (.seq none
 (.reg [zb .eql rEql 17 [.tmp 12, .const (.int .i64 0)],
  zM 16 17])
 (.cond (.tmp 16)
 (.seq none
 (.reg [zM 19 0,
  zN 20 19,
  zF 0 21 20,
  zF 1 22 21,
  zL 23 22,
  zk .none s_cg v_cg 24 [.tmp 23],
  zM 18 24,
  zy xl_ab (.f (fExt 0)) 25 [.tmp 18],
  zy xl_ab (.f (fExt 1)) 26 [.tmp 18],
  zy xl_ab (.la 5 [.int .i64 0, .int .i64 0]) 5 [],
  zY xl_ab (.ls 5 2) [.tmp 5, .tmp 25],
  zM 6 26])
 (.seq none
 (.seq none
 (.reg [zM 27 0,
  zy xl_ab (.lr 5 2 true) 28 [.tmp 5],
  zN 29 27,
  zF 6 30 29,
  zY xl_ab (.store 2) [.tmp 30, .tmp 28]])
 (.seq (some ([0, 40], [3, 5]))
 (.reg [zM 31 6,
  zz (.f (fUn .not)) rNot (some 32) [.tmp 31],
  zM 33 32,
  ⟨(some (3, 2, false, some 33)), some 34, [.tmp 5], ⟨.f (fFld 0), rFld 0⟩⟩,
  ⟨(some (4, 2, false, some 33)), some 35, [.tmp 34], ⟨.lr 5 1 false, rLr1 5⟩⟩,
  ⟨(some (5, 2, false, some 33)), some 36, [.tmp 3], ⟨.f (fFld 0), rFld 0⟩⟩,
  ⟨(some (6, 2, false, some 33)), some 37, [.tmp 36], ⟨.f (fFld 1), rFld 1⟩⟩,
  ⟨(some (7, 2, false, some 33)), some 38, [.tmp 37], ⟨.lr 3 1 false, rLr1 3⟩⟩,
  ⟨(some (8, 2, false, some 33)), some 39, [.tmp 35, .tmp 38], ⟨.f (fBin .geq .no), rGeq⟩⟩,
  zz (.f fPick) rPick (some 40) [.tmp 33, .const (.bool true), .tmp 39]])
 (.cond (.tmp 40)
 (.seq none
 (.reg [zM 41 0,
  zy xl_ab (.lr 3 9 true) 42 [.tmp 3],
  zk .read s_bg v_bg 43 [.tmp 42],
  zk .write s_ae v_ae 44 [.tmp 41, .const (.int .i64 3), .const (.int .i64 0), .tmp 43],
  zM 4 44])
 .ret)
 .skip)))
 (.seq none
 (.reg [zM 45 0,
  zy xl_ab (.lr 3 9 true) 46 [.tmp 3],
  zF 0 47 3,
  zy xl_ab (.lr 3 7 true) 48 [.tmp 47],
  zF 0 49 5,
  zr 5 50 49,
  zk .none s_bp v_bp 51 [.tmp 48, .tmp 50],
  zk .write s_bf v_bf 52 [.tmp 46, .tmp 51],
  zN 53 45,
  zF 9 54 53,
  zS [.tmp 54, .tmp 52]])
 (.seq none
 (.reg [zM 55 0,
  zM 56 0,
  zy xl_ab (.lr 3 9 true) 57 [.tmp 3],
  zk .read s_bg v_bg 58 [.tmp 57],
  zN 59 55,
  zF 11 60 59,
  zS [.tmp 60, .tmp 58],
  zN 61 56,
  zF 8 62 61,
  zS [.tmp 62, .const (.int .i64 1)]])
 (.seq none
 (.reg [zM 63 0,
  zN 64 63,
  zF 9 65 64,
  zL 66 65,
  zk .none s_co v_co 67 [.tmp 66],
  zy xl_ab (.lr 5 2 true) 68 [.tmp 5],
  zk .none s_ax v_ax 69 [.tmp 67, .tmp 68],
  zz (.f (fUn .not)) rNot (some 70) [.tmp 69]])
 (.cond (.tmp 70)
 (.seq none
 (.reg [zM 71 0,
  zy xl_ab (.lr 3 9 true) 72 [.tmp 3],
  zk .read s_bg v_bg 73 [.tmp 72],
  zk .write s_ae v_ae 74 [.tmp 71, .const (.int .i64 3), .const (.int .i64 0), .tmp 73],
  zM 4 74])
 .ret)
 .skip))))))
 (.seq none
 (.reg [zb .eql rEql 76 [.tmp 12, .const (.int .i64 1)],
  zM 75 76])
 (.cond (.tmp 75)
 (.seq none
 (.reg [zy xl_ab (.lr 3 9 true) 77 [.tmp 3],
  zM 78 0,
  zN 79 78,
  zF 9 80 79,
  zL 81 80,
  zk .none s_co v_co 82 [.tmp 81],
  zy xl_ab (.f (fFldV 1 1 false)) 83 [.tmp 82],
  zk .write s_bf v_bf 84 [.tmp 77, .tmp 83],
  zk .none s_ch v_ch 85 [.tmp 84],
  zy xl_ab (.la 7 [.int .i64 0, .int .i64 0, .int .i64 0, .int .i64 0, .bool false]) 7 [],
  zY xl_ab (.ls 7 5) [.tmp 7, .tmp 85]])
 (.seq none
 (.reg [zM 86 0,
  zM 87 0,
  zF 1 88 7,
  zr 7 89 88,
  zN 90 86,
  zF 13 91 90,
  zS [.tmp 91, .tmp 89],
  zN 92 87,
  zF 8 93 92,
  zS [.tmp 93, .const (.int .i64 2)]])
 (.block 1
 (.seq none
 (.reg [zF 4 95 7,
  zr 7 96 95,
  zM 97 0,
  zN 98 97,
  zF 5 99 98,
  zL 100 99,
  zy xl_ab (.f (fBin .neq .bool)) 101 [.tmp 96, .tmp 100],
  zM 94 101])
 (.cond (.tmp 94)
 (.seq none
 (.reg [zM 102 0,
  zy xl_ab (.lr 3 9 true) 103 [.tmp 3],
  zk .read s_bg v_bg 104 [.tmp 103],
  zk .write s_ae v_ae 105 [.tmp 102, .const (.int .i64 3), .const (.int .i64 0), .tmp 104],
  zM 4 105])
 .ret)
 (.seq (some ([0, 106], []))
 (.reg [zM 107 0,
  zN 108 107,
  zF 0 109 108,
  zF 2 110 109,
  zL 111 110,
  zb .lss rLss 112 [.tmp 111, .const (.int .i64 0)],
  zM 113 112,
  ⟨(some (7, 6, false, some 113)), some 114, [.tmp 0], ⟨.f fMove, rMove⟩⟩,
  ⟨(some (8, 6, false, some 113)), some 115, [.tmp 114], ⟨.f fNil, rNil⟩⟩,
  ⟨(some (9, 6, false, some 113)), some 116, [.tmp 115], ⟨.f (fFld 0), rFld 0⟩⟩,
  ⟨(some (10, 6, false, some 113)), some 117, [.tmp 116], ⟨.f (fFld 2), rFld 2⟩⟩,
  ⟨(some (11, 6, false, some 113)), some 118, [.tmp 117], ⟨.load 1 false, rLoad1⟩⟩,
  ⟨(some (12, 6, false, some 113)), some 119, [.tmp 7], ⟨.f (fFld 1), rFld 1⟩⟩,
  ⟨(some (13, 6, false, some 113)), some 120, [.tmp 119], ⟨.lr 7 1 false, rLr1 7⟩⟩,
  ⟨(some (14, 6, false, some 113)), some 121, [.tmp 118, .tmp 120], ⟨.f (fBin .geq .no), rGeq⟩⟩,
  zz (.f fPick) rPick (some 122) [.tmp 113, .const (.bool true), .tmp 121],
  zM 106 122])
 (.cond (.tmp 106)
 (.seq none
 (.reg [zM 123 0,
  zM 124 0,
  zN 125 124,
  zF 11 126 125,
  zL 127 126,
  zk .write s_ae v_ae 128 [.tmp 123, .const (.int .i64 4), .const (.int .i64 0), .tmp 127],
  zM 4 128])
 .ret)
 .skip)))))))
 (.seq none
 (.reg [zb .eql rEql 130 [.tmp 12, .const (.int .i64 2)],
  zM 129 130])
 (.cond (.tmp 129)
 (.seq none
 (.reg [zM 131 0,
  zy xl_ab (.lr 3 9 true) 132 [.tmp 3],
  zM 133 0,
  zk .read s_ac v_ac 134 [.tmp 133],
  zk .write s_bf v_bf 135 [.tmp 132, .tmp 134],
  zN 136 131,
  zF 10 137 136,
  zS [.tmp 137, .tmp 135]])
 (.seq none
 (.reg [zM 138 0,
  zM 139 0,
  zy xl_ab (.lr 3 9 true) 140 [.tmp 3],
  zk .read s_bg v_bg 141 [.tmp 140],
  zM 142 0,
  zk .read s_af v_af 143 [.tmp 142],
  zN 144 138,
  zF 12 145 144,
  zS [.tmp 145, .tmp 141],
  zN 146 139,
  zF 8 147 146,
  zS [.tmp 147, .tmp 143]])
 (.seq none
 (.reg [zM 148 0,
  zN 149 148,
  zF 8 150 149,
  zL 151 150,
  zb .eql rEql 152 [.tmp 151, .const (.int .i64 4)]])
 (.cond (.tmp 152)
 (.reg [zM 153 0,
  zM 154 0,
  zN 155 154,
  zF 6 156 155,
  zF 0 157 156,
  zL 158 157,
  zM 159 0,
  zN 160 159,
  zF 9 161 160,
  zL 162 161,
  zM 163 0,
  zN 164 163,
  zF 13 165 164,
  zL 166 165,
  zk .write s_az v_az 167 [.tmp 158, .tmp 162, .tmp 166],
  zN 168 153,
  zF 14 169 168,
  zS [.tmp 169, .tmp 167]])
 .skip))))
 (.seq none
 (.reg [zb .eql rEql 171 [.tmp 12, .const (.int .i64 3)],
  zM 170 171])
 (.cond (.tmp 170)
 (.seq none
 (.reg [zM 172 0,
  zN 173 172,
  zF 9 174 173,
  zL 175 174,
  zk .none s_co v_co 176 [.tmp 175],
  zy xl_ab (.la 8 [.int .i64 0, .int .i64 0, .int .i64 0, .int .i64 0]) 8 [],
  zY xl_ab (.ls 8 4) [.tmp 8, .tmp 176]])
 (.seq none
 (.reg [zF 3 177 8,
  zr 8 178 177,
  zb .add rAdd 179 [.tmp 178, .const (.int .i64 1)],
  zF 0 180 8,
  zz (.ls 8 1) (rLs1 8) none [.tmp 180, .const (.int .i64 1)],
  zF 3 181 8,
  zz (.ls 8 1) (rLs1 8) none [.tmp 181, .tmp 179]])
 (.seq none
 (.reg [zy xl_ab (.lr 3 9 true) 182 [.tmp 3],
  zF 0 183 3,
  zy xl_ab (.lr 3 7 true) 184 [.tmp 183],
  zM 185 0,
  zN 186 185,
  zF 6 187 186,
  zF 0 188 187,
  zL 189 188,
  zk .none s_bp v_bp 190 [.tmp 184, .tmp 189],
  zM 191 0,
  zN 192 191,
  zF 9 193 192,
  zL 194 193,
  zy xl_ab (.lr 8 4 true) 195 [.tmp 8],
  zk .none s_cm v_cm 196 [.tmp 195],
  zk .write s_be v_be 197 [.tmp 182, .tmp 190, .tmp 194, .tmp 196]])
 (.reg [zM 198 0,
  zN 199 198,
  zF 8 200 199,
  zS [.tmp 200, .const (.int .i64 0)]]))))
 (.seq none
 (.reg [zb .eql rEql 202 [.tmp 12, .const (.int .i64 4)],
  zM 201 202])
 (.cond (.tmp 201)
 (.seq none
 (.reg [zM 203 0,
  zN 204 203,
  zF 14 205 204,
  zL 206 205,
  zy xl_ab (.lr 3 9 true) 207 [.tmp 3],
  zk .write s_aw v_aw 208 [.tmp 206, .tmp 207]])
 (.cond (.tmp 208)
 (.reg [zM 209 0,
  zN 210 209,
  zF 8 211 210,
  zS [.tmp 211, .const (.int .i64 0)]])
 .skip))
 (.seq none
 (.reg [zb .eql rEql 213 [.tmp 12, .const (.int .i64 5)],
  zM 212 213])
 (.cond (.tmp 212)
 (.seq none
 (.reg [zM 214 0,
  zN 215 214,
  zF 8 216 215,
  zS [.tmp 216, .const (.int .i64 0)]])
 (.seq none
 (.reg [zy xl_ab (.lr 3 9 true) 217 [.tmp 3],
  zM 218 0,
  zk .read s_ac v_ac 219 [.tmp 218],
  zM 220 0,
  zN 221 220,
  zF 10 222 221,
  zL 223 222,
  zM 224 0,
  zN 225 224,
  zF 0 226 225,
  zF 3 227 226,
  zL 228 227,
  zy xl_ab (.f (fBuild [(0, 1), (1, 1), (2, 1)] [.int .i64 0, .bool false, .int .i64 0] [0])) 229 [.tmp 228],
  zk .none s_ci v_ci 230 [.tmp 229],
  zk .write s_be v_be 231 [.tmp 217, .tmp 219, .tmp 223, .tmp 230]])
 (.cond (.tmp 231)
 (.seq none
 (.reg [zM 232 0,
  zM 233 0,
  zN 234 233,
  zF 10 235 234,
  zL 236 235,
  zk .none s_ce v_ce 237 [.tmp 236],
  zy xl_ab (.f (fFldV 0 1 false)) 238 [.tmp 237],
  zy xl_ab (.lr 3 9 true) 239 [.tmp 3],
  zk .read s_bg v_bg 240 [.tmp 239],
  zk .write s_ae v_ae 241 [.tmp 232, .const (.int .i64 0), .tmp 238, .tmp 240],
  zM 4 241])
 .ret)
 .skip)))
 (.seq none
 (.reg [zM 13 0,
  zy xl_ab (.lr 3 9 true) 14 [.tmp 3],
  zk .write s_ad v_ad 15 [.tmp 13, .tmp 14],
  zM 4 15])
 .ret)))))))))))))))
 (.seq none
 (.reg [zc 4 (.bool false)])
 .ret)))
noncomputable def v_ab : EvF := evFn 2 xc_ab [.t 4]
theorem xt_ab : toC cx_ab (bodyOf Try.f103) = some (xc_ab.map XN.sm) := by kernel_rfl
theorem xr_ab : toR cx_ab Try.f103.results.toList = some [.t 4] := by kernel_rfl
theorem xo_ab : xc_ab.ok xl_ab := ⟨⟨r_a (trivial), r_m, trivial⟩, ⟨⟨⟨r_m, r_n, r_f _, r_l, trivial⟩, ⟨⟨r_e, r_m, trivial⟩, ⟨⟨⟨r_m, r_n, r_f _, r_f _, r_l, r_c ve_cg, r_m, r_a (eqv_ext _), r_a (eqv_ext _), r_a (trivial), r_a (trivial), r_m, trivial⟩, ⟨⟨⟨r_m, r_a (trivial), r_n, r_f _, r_a (trivial), trivial⟩, ⟨⟨r_m, r_t, r_m, r_f _, r_r _, r_f _, r_f _, r_r _, rGeq_ok, r_p, trivial⟩, ⟨⟨⟨r_m, r_a (trivial), r_c ve_bg, r_c ve_ae, r_m, trivial⟩, trivial⟩, trivial⟩⟩⟩, ⟨⟨r_m, r_a (trivial), r_f _, r_a (trivial), r_f _, r_r _, r_c ve_bp, r_c ve_bf, r_n, r_f _, r_s, trivial⟩, ⟨⟨r_m, r_m, r_a (trivial), r_c ve_bg, r_n, r_f _, r_s, r_n, r_f _, r_s, trivial⟩, ⟨⟨r_m, r_n, r_f _, r_l, r_c ve_co, r_a (trivial), r_c ve_ax, r_t, trivial⟩, ⟨⟨⟨r_m, r_a (trivial), r_c ve_bg, r_c ve_ae, r_m, trivial⟩, trivial⟩, trivial⟩⟩⟩⟩⟩⟩, ⟨⟨r_e, r_m, trivial⟩, ⟨⟨⟨r_a (trivial), r_m, r_n, r_f _, r_l, r_c ve_co, r_a (eqv_fldV _ _ _), r_c ve_bf, r_c ve_ch, r_a (trivial), r_a (trivial), trivial⟩, ⟨⟨r_m, r_m, r_f _, r_r _, r_n, r_f _, r_s, r_n, r_f _, r_s, trivial⟩, ⟨⟨r_f _, r_r _, r_m, r_n, r_f _, r_l, r_a (eqv_bin _ _), r_m, trivial⟩, ⟨⟨⟨r_m, r_a (trivial), r_c ve_bg, r_c ve_ae, r_m, trivial⟩, trivial⟩, ⟨⟨r_m, r_n, r_f _, r_f _, r_l, rLss_ok, r_m, r_m, r_n, r_f _, r_f _, r_l, r_f _, r_r _, rGeq_ok, r_p, r_m, trivial⟩, ⟨⟨⟨r_m, r_m, r_n, r_f _, r_l, r_c ve_ae, r_m, trivial⟩, trivial⟩, trivial⟩⟩⟩⟩⟩⟩, ⟨⟨r_e, r_m, trivial⟩, ⟨⟨⟨r_m, r_a (trivial), r_m, r_c ve_ac, r_c ve_bf, r_n, r_f _, r_s, trivial⟩, ⟨⟨r_m, r_m, r_a (trivial), r_c ve_bg, r_m, r_c ve_af, r_n, r_f _, r_s, r_n, r_f _, r_s, trivial⟩, ⟨⟨r_m, r_n, r_f _, r_l, r_e, trivial⟩, ⟨⟨r_m, r_m, r_n, r_f _, r_f _, r_l, r_m, r_n, r_f _, r_l, r_m, r_n, r_f _, r_l, r_c ve_az, r_n, r_f _, r_s, trivial⟩, trivial⟩⟩⟩⟩, ⟨⟨r_e, r_m, trivial⟩, ⟨⟨⟨r_m, r_n, r_f _, r_l, r_c ve_co, r_a (trivial), r_a (trivial), trivial⟩, ⟨⟨r_f _, r_r _, r_d, r_f _, rLs1_ok _, r_f _, rLs1_ok _, trivial⟩, ⟨⟨r_a (trivial), r_f _, r_a (trivial), r_m, r_n, r_f _, r_f _, r_l, r_c ve_bp, r_m, r_n, r_f _, r_l, r_a (trivial), r_c ve_cm, r_c ve_be, trivial⟩, ⟨r_m, r_n, r_f _, r_s, trivial⟩⟩⟩⟩, ⟨⟨r_e, r_m, trivial⟩, ⟨⟨⟨r_m, r_n, r_f _, r_l, r_a (trivial), r_c ve_aw, trivial⟩, ⟨⟨r_m, r_n, r_f _, r_s, trivial⟩, trivial⟩⟩, ⟨⟨r_e, r_m, trivial⟩, ⟨⟨⟨r_m, r_n, r_f _, r_s, trivial⟩, ⟨⟨r_a (trivial), r_m, r_c ve_ac, r_m, r_n, r_f _, r_l, r_m, r_n, r_f _, r_f _, r_l, r_a (eqv_build _ rfl _), r_c ve_ci, r_c ve_be, trivial⟩, ⟨⟨⟨r_m, r_m, r_n, r_f _, r_l, r_c ve_ce, r_a (eqv_fldV _ _ _), r_a (trivial), r_c ve_bg, r_c ve_ae, r_m, trivial⟩, trivial⟩, trivial⟩⟩⟩, ⟨⟨r_m, r_a (trivial), r_c ve_ad, r_m, trivial⟩, trivial⟩⟩⟩⟩⟩⟩⟩⟩⟩⟩⟩⟩⟩⟩, ⟨⟨r_m, trivial⟩, trivial⟩⟩⟩
theorem ve_ab : EvOk s_ab v_ab := EvOk.of (evFn_sound (C := cx_ab) xt_ab xr_ab xo_ab) q_ab
attribute [irreducible] w_ab_j1b w_ab_j1 w_ab_j2b w_ab_j2 w_ab_j3b w_ab_j3 w_ab s_ab
end Go.Fl
namespace Go.Fl
open Go Go.Proofs
set_option linter.unusedVariables false
set_option maxRecDepth 10000000
def w_am (a0 : Value) (K : Value → Mem → Prop) (σ : Mem) : Prop :=xF fMove [a0] fun v3 =>xF (fBin .eql .ptr) [v3, .pointer none] fun v4 =>xIf v4
 (xF (fBuild [(0, 1), (1, 1), (2, 1), (3, 1)] [.int .i64 0, .int .u64 0, .int .i64 0, .int .i64 0] [0]) [.int .i64 1] fun v5 =>xC (gStore 4 [(locP 2), v5] [.int .i64 0, .int .u64 0, .int .i64 0, .int .i64 0]) fun c2 =>xO (gLoad 4 true [(locP 2)] c2) fun r2 =>K r2 σ)
 (xF fMove [a0] fun v6 =>xF fNil [v6] fun v7 =>xF (fFld 14) [v7] fun v8 =>hLoad 4 true [v8] (fun v9 σ =>xC (gStore 4 [(locP 2), v9] [.int .i64 0, .int .u64 0, .int .i64 0, .int .i64 0]) fun c2 =>xO (gLoad 4 true [(locP 2)] c2) fun r2 =>K r2 σ) σ)
def s_am : Spec := fun args K σ => match args with
  | [a0] => w_am a0 K σ
  | _ => False
noncomputable def cx_am : Cx := { P := Try.prog, T := [], loc := [(2, 2)], eqt := [(83, .ptr)], n := 10, keep := [] }
theorem q_am : FnS cx_am Try.f61 (bodyOf Try.f61) 1 = s_am := by
  funext args K σ
  rcases args with _ | ⟨a0, _ | ⟨b, r⟩⟩ <;> kernel_rfl
theorem e_am : Entry Try.prog 61 .read s_am :=
  entry (C := cx_am) TOk.nil mixedOk Try.func61 (by kernel_rfl) (by kernel_rfl) (by kernel_rfl) q_am
def xl_am : List (Nat × Nat) := [(2, 2)]
noncomputable def xc_am : XC XN :=
(.seq none
 (.reg [zy xl_am (.la 2 [.int .i64 0, .int .u64 0, .int .i64 0, .int .i64 0]) 2 []])
 (.seq none
 (.seq none
 (.reg [zM 3 0,
  zy xl_am (.f (fBin .eql .ptr)) 4 [.tmp 3, .const (.pointer none)]])
 (.cond (.tmp 4)
 (.seq none
 (.reg [zy xl_am (.f (fBuild [(0, 1), (1, 1), (2, 1), (3, 1)] [.int .i64 0, .int .u64 0, .int .i64 0, .int .i64 0] [0])) 5 [.const (.int .i64 1)],
  zY xl_am (.ls 2 4) [.tmp 2, .tmp 5]])
 .ret)
 .skip))
 (.seq none
 (.reg [zM 6 0,
  zN 7 6,
  zF 14 8 7,
  zy xl_am (.load 4 true) 9 [.tmp 8],
  zY xl_am (.ls 2 4) [.tmp 2, .tmp 9]])
 .ret)))
noncomputable def v_am : EvF := evFn 1 xc_am [.c 2 2 4 true]
theorem xt_am : toC cx_am (bodyOf Try.f61) = some (xc_am.map XN.sm) := by kernel_rfl
theorem xr_am : toR cx_am Try.f61.results.toList = some [.c 2 2 4 true] := by kernel_rfl
theorem xo_am : xc_am.ok xl_am := ⟨⟨r_a (trivial), trivial⟩, ⟨⟨⟨r_m, r_a (eqv_bin _ _), trivial⟩, ⟨⟨⟨r_a (eqv_build _ rfl _), r_a (trivial), trivial⟩, trivial⟩, trivial⟩⟩, ⟨⟨r_m, r_n, r_f _, r_a (trivial), r_a (trivial), trivial⟩, trivial⟩⟩⟩
theorem ve_am : EvOk s_am v_am := EvOk.of (evFn_sound (C := cx_am) xt_am xr_am xo_am) q_am
attribute [irreducible] w_am s_am
def w_ar (a0 : Value) (K : Value → Mem → Prop) (σ : Mem) : Prop :=xF fMove [a0] fun v3 =>xF (fBin .eql .ptr) [v3, .pointer none] fun v4 =>xIf v4
 (xF (fBuild [(0, 1), (1, 1), (2, 1), (3, 1)] [.int .i64 0, .int .u64 0, .int .i64 0, .int .i64 0] [0]) [.int .i64 1] fun v5 =>xC (gStore 4 [(locP 2), v5] [.int .i64 0, .int .u64 0, .int .i64 0, .int .i64 0]) fun c2 =>xO (gLoad 4 true [(locP 2)] c2) fun r2 =>K r2 σ)
 (xF fMove [a0] fun v6 =>xF fNil [v6] fun v7 =>xF (fFld 9) [v7] fun v8 =>hLoad 4 true [v8] (fun v9 σ =>xC (gStore 4 [(locP 2), v9] [.int .i64 0, .int .u64 0, .int .i64 0, .int .i64 0]) fun c2 =>xO (gLoad 4 true [(locP 2)] c2) fun r2 =>K r2 σ) σ)
def s_ar : Spec := fun args K σ => match args with
  | [a0] => w_ar a0 K σ
  | _ => False
noncomputable def cx_ar : Cx := { P := Try.prog, T := [], loc := [(2, 2)], eqt := [(85, .ptr)], n := 10, keep := [] }
theorem q_ar : FnS cx_ar Try.f88 (bodyOf Try.f88) 1 = s_ar := by
  funext args K σ
  rcases args with _ | ⟨a0, _ | ⟨b, r⟩⟩ <;> kernel_rfl
theorem e_ar : Entry Try.prog 88 .read s_ar :=
  entry (C := cx_ar) TOk.nil mixedOk Try.func88 (by kernel_rfl) (by kernel_rfl) (by kernel_rfl) q_ar
def xl_ar : List (Nat × Nat) := [(2, 2)]
noncomputable def xc_ar : XC XN :=
(.seq none
 (.reg [zy xl_ar (.la 2 [.int .i64 0, .int .u64 0, .int .i64 0, .int .i64 0]) 2 []])
 (.seq none
 (.seq none
 (.reg [zM 3 0,
  zy xl_ar (.f (fBin .eql .ptr)) 4 [.tmp 3, .const (.pointer none)]])
 (.cond (.tmp 4)
 (.seq none
 (.reg [zy xl_ar (.f (fBuild [(0, 1), (1, 1), (2, 1), (3, 1)] [.int .i64 0, .int .u64 0, .int .i64 0, .int .i64 0] [0])) 5 [.const (.int .i64 1)],
  zY xl_ar (.ls 2 4) [.tmp 2, .tmp 5]])
 .ret)
 .skip))
 (.seq none
 (.reg [zM 6 0,
  zN 7 6,
  zF 9 8 7,
  zy xl_ar (.load 4 true) 9 [.tmp 8],
  zY xl_ar (.ls 2 4) [.tmp 2, .tmp 9]])
 .ret)))
noncomputable def v_ar : EvF := evFn 1 xc_ar [.c 2 2 4 true]
theorem xt_ar : toC cx_ar (bodyOf Try.f88) = some (xc_ar.map XN.sm) := by kernel_rfl
theorem xr_ar : toR cx_ar Try.f88.results.toList = some [.c 2 2 4 true] := by kernel_rfl
theorem xo_ar : xc_ar.ok xl_ar := ⟨⟨r_a (trivial), trivial⟩, ⟨⟨⟨r_m, r_a (eqv_bin _ _), trivial⟩, ⟨⟨⟨r_a (eqv_build _ rfl _), r_a (trivial), trivial⟩, trivial⟩, trivial⟩⟩, ⟨⟨r_m, r_n, r_f _, r_a (trivial), r_a (trivial), trivial⟩, trivial⟩⟩⟩
theorem ve_ar : EvOk s_ar v_ar := EvOk.of (evFn_sound (C := cx_ar) xt_ar xr_ar xo_ar) q_ar
attribute [irreducible] w_ar s_ar
def w_aa (a0 : Value) (K : Value → Mem → Prop) (σ : Mem) : Prop :=xF fMove [a0] fun v3 =>xF (fBin .eql .ptr) [v3, .pointer none] fun v4 =>xIf v4
 (xF (fBuild [(0, 1), (1, 1), (2, 1), (3, 1)] [.int .i64 0, .int .u64 0, .int .i64 0, .int .i64 0] [0]) [.int .i64 1] fun v5 =>xC (gStore 4 [(locP 2), v5] [.int .i64 0, .int .u64 0, .int .i64 0, .int .i64 0]) fun c2 =>xO (gLoad 4 true [(locP 2)] c2) fun r2 =>K r2 σ)
 (xF fMove [a0] fun v6 =>xF fNil [v6] fun v7 =>xF (fFld 15) [v7] fun v8 =>hLoad 4 true [v8] (fun v9 σ =>xC (gStore 4 [(locP 2), v9] [.int .i64 0, .int .u64 0, .int .i64 0, .int .i64 0]) fun c2 =>xO (gLoad 4 true [(locP 2)] c2) fun r2 =>K r2 σ) σ)
def s_aa : Spec := fun args K σ => match args with
  | [a0] => w_aa a0 K σ
  | _ => False
noncomputable def cx_aa : Cx := { P := Try.prog, T := [], loc := [(2, 2)], eqt := [(87, .ptr)], n := 10, keep := [] }
theorem q_aa : FnS cx_aa Try.f102 (bodyOf Try.f102) 1 = s_aa := by
  funext args K σ
  rcases args with _ | ⟨a0, _ | ⟨b, r⟩⟩ <;> kernel_rfl
theorem e_aa : Entry Try.prog 102 .read s_aa :=
  entry (C := cx_aa) TOk.nil mixedOk Try.func102 (by kernel_rfl) (by kernel_rfl) (by kernel_rfl) q_aa
def xl_aa : List (Nat × Nat) := [(2, 2)]
noncomputable def xc_aa : XC XN :=
(.seq none
 (.reg [zy xl_aa (.la 2 [.int .i64 0, .int .u64 0, .int .i64 0, .int .i64 0]) 2 []])
 (.seq none
 (.seq none
 (.reg [zM 3 0,
  zy xl_aa (.f (fBin .eql .ptr)) 4 [.tmp 3, .const (.pointer none)]])
 (.cond (.tmp 4)
 (.seq none
 (.reg [zy xl_aa (.f (fBuild [(0, 1), (1, 1), (2, 1), (3, 1)] [.int .i64 0, .int .u64 0, .int .i64 0, .int .i64 0] [0])) 5 [.const (.int .i64 1)],
  zY xl_aa (.ls 2 4) [.tmp 2, .tmp 5]])
 .ret)
 .skip))
 (.seq none
 (.reg [zM 6 0,
  zN 7 6,
  zF 15 8 7,
  zy xl_aa (.load 4 true) 9 [.tmp 8],
  zY xl_aa (.ls 2 4) [.tmp 2, .tmp 9]])
 .ret)))
noncomputable def v_aa : EvF := evFn 1 xc_aa [.c 2 2 4 true]
theorem xt_aa : toC cx_aa (bodyOf Try.f102) = some (xc_aa.map XN.sm) := by kernel_rfl
theorem xr_aa : toR cx_aa Try.f102.results.toList = some [.c 2 2 4 true] := by kernel_rfl
theorem xo_aa : xc_aa.ok xl_aa := ⟨⟨r_a (trivial), trivial⟩, ⟨⟨⟨r_m, r_a (eqv_bin _ _), trivial⟩, ⟨⟨⟨r_a (eqv_build _ rfl _), r_a (trivial), trivial⟩, trivial⟩, trivial⟩⟩, ⟨⟨r_m, r_n, r_f _, r_a (trivial), r_a (trivial), trivial⟩, trivial⟩⟩⟩
theorem ve_aa : EvOk s_aa v_aa := EvOk.of (evFn_sound (C := cx_aa) xt_aa xr_aa xo_aa) q_aa
attribute [irreducible] w_aa s_aa
def w_ai_j1b (K : Value → Mem → Prop) (σ : Mem) : Prop :=xF fMove [.bool false] fun v4 =>K v4 σ
def w_ai_j1 (K : Value → Mem → Prop) (ts : List Value) (ls : List (List Value)) (σ : Mem) : Prop := w_ai_j1b K σ
def w_ai (a0 a1 : Value) (K : Value → Mem → Prop) (σ : Mem) : Prop :=xC (gBox 9 [a1] []) fun c3 =>xF fMove [.bool false] fun v4 =>xJoin (w_ai_j1 K) fun J1 =>xF fMove [a0] fun v9 =>xF (fBin .eql .ptr) [v9, .pointer none] fun v10 =>xF fMove [v10] fun v8 =>xIf v8
 (xF fMove [.bool true] fun v4 =>K v4 σ)
 (xF fMove [a0] fun v12 =>xF fNil [v12] fun v13 =>xF (fFld 2) [v13] fun v14 =>hLoad 1 false [v14] (fun v15 σ =>xF (fBin .eql .no) [v15, .int .i64 0] fun v16 =>xF fMove [v16] fun v11 =>xIf v11
 (xF fMove [a0] fun v17 =>xF fNil [v17] fun v18 =>xF (fFld 0) [v18] fun v19 =>xO (gLoad 9 true [(locP 3)] c3) fun v20 =>s_b2 [v19, v20] (fun v21 σ =>xIf v21
 (xF fMove [a0] fun v22 =>xF fNil [v22] fun v23 =>xF (fFld 2) [v23] fun v24 =>hStore 1 [v24, .int .i64 1] (fun _v σ =>J1 [] [] σ) σ)
 (J1 [] [] σ)) σ)
 (xF fMove [a0] fun v26 =>xF fNil [v26] fun v27 =>xF (fFld 2) [v27] fun v28 =>hLoad 1 false [v28] (fun v29 σ =>xF (fBin .eql .no) [v29, .int .i64 1] fun v30 =>xF fMove [v30] fun v25 =>xIf v25
 (xF fMove [a0] fun v31 =>xF fNil [v31] fun v32 =>xF (fFld 3) [v32] fun v33 =>hLoad 1 false [v33] (fun v34 σ =>xO (gLoad 9 true [(locP 3)] c3) fun v35 =>hInv [(83, s_an), (85, s_as), (87, s_ab)] [v34, v35] (fun v36 σ =>xIf v36
 (xF fMove [a0] fun v37 =>xF fMove [a0] fun v38 =>xF fMove [a0] fun v39 =>xF fNil [v39] fun v40 =>xF (fFld 3) [v40] fun v41 =>hLoad 1 false [v41] (fun v42 σ =>hInv [(83, s_am), (85, s_ar), (87, s_aa)] [v42] (fun v43 σ =>xF fNil [v37] fun v44 =>xF (fFld 4) [v44] fun v45 =>hStore 4 [v45, v43] (fun _v σ =>xF fNil [v38] fun v46 =>xF (fFld 2) [v46] fun v47 =>hStore 1 [v47, .int .i64 2] (fun _v σ =>J1 [] [] σ) σ) σ) σ) σ)
 (J1 [] [] σ)) σ) σ)
 (xF (fBuild [] [] []) [] fun v5 =>xO (gLoad 9 true [(locP 3)] c3) fun v6 =>s_b3 [v5, v6] (fun v7 σ =>xF fMove [v7] fun v4 =>K v4 σ) σ)) σ)) σ)
def s_ai : Spec := fun args K σ => match args with
  | [a0, a1] => w_ai a0 a1 K σ
  | _ => False
noncomputable def cx_ai : Cx := { P := Try.prog, T := [(24, .write, s_b2), (25, .write, s_b3), (62, .write, s_an), (89, .write, s_as), (103, .write, s_ab), (61, .read, s_am), (88, .read, s_ar), (102, .read, s_aa)], loc := [(3, 3)], eqt := [(45, .ptr)], n := 48, keep := [(1000011, [], [])], inv := [("Step", 83, 62), ("Step", 85, 89), ("Step", 87, 103), ("Done", 83, 61), ("Done", 85, 88), ("Done", 87, 102)] }
theorem q_ai : FnS cx_ai Try.f18 (bodyOf Try.f18) 2 = s_ai := by
  funext args K σ
  rcases args with _ | ⟨a0, _ | ⟨a1, _ | ⟨b, r⟩⟩⟩ <;> kernel_rfl
theorem mo_Step_83 : MethOk Try.prog ("Step", 83, 62) := fun v w => by kernel_rfl
theorem mo_Step_85 : MethOk Try.prog ("Step", 85, 89) := fun v w => by kernel_rfl
theorem mo_Step_87 : MethOk Try.prog ("Step", 87, 103) := fun v w => by kernel_rfl
theorem mo_Done_83 : MethOk Try.prog ("Done", 83, 61) := fun v w => by kernel_rfl
theorem mo_Done_85 : MethOk Try.prog ("Done", 85, 88) := fun v w => by kernel_rfl
theorem mo_Done_87 : MethOk Try.prog ("Done", 87, 102) := fun v w => by kernel_rfl
theorem e_ai : Entry Try.prog 18 .write s_ai :=
  entry (C := cx_ai) (TOk.cons e_b2 (TOk.cons e_b3 (TOk.cons e_an (TOk.cons e_as (TOk.cons e_ab (TOk.cons e_am (TOk.cons e_ar (TOk.cons e_aa TOk.nil)))))))) mixedOk Try.func18 (by kernel_rfl) (by kernel_rfl) (by kernel_rfl) q_ai (IOk.cons mo_Step_83 (IOk.cons mo_Step_85 (IOk.cons mo_Step_87 (IOk.cons mo_Done_83 (IOk.cons mo_Done_85 (IOk.cons mo_Done_87 IOk.nil))))))
def xl_ai : List (Nat × Nat) := [(3, 3)]
noncomputable def xc_ai : XC XN :=
(.seq none
 (.reg [zy xl_ai (.lb 3 9) 3 [.tmp 1],
  zc 4 (.bool false)])
 (.seq (some ([], []))
 (.block 0
 (.seq none
 (.reg [zM 9 0,
  zy xl_ai (.f (fBin .eql .ptr)) 10 [.tmp 9, .const (.pointer none)],
  zM 8 10])
 (.cond (.tmp 8)
 (.seq none
 (.reg [zc 4 (.bool true)])
 .ret)
 (.seq none
 (.reg [zM 12 0,
  zN 13 12,
  zF 2 14 13,
  zL 15 14,
  zb .eql rEql 16 [.tmp 15, .const (.int .i64 0)],
  zM 11 16])
 (.cond (.tmp 11)
 (.seq none
 (.reg [zM 17 0,
  zN 18 17,
  zF 0 19 18,
  zy xl_ai (.lr 3 9 true) 20 [.tmp 3],
  zk .write s_b2 v_b2 21 [.tmp 19, .tmp 20]])
 (.cond (.tmp 21)
 (.reg [zM 22 0,
  zN 23 22,
  zF 2 24 23,
  zS [.tmp 24, .const (.int .i64 1)]])
 .skip))
 (.seq none
 (.reg [zM 26 0,
  zN 27 26,
  zF 2 28 27,
  zL 29 28,
  zb .eql rEql 30 [.tmp 29, .const (.int .i64 1)],
  zM 25 30])
 (.cond (.tmp 25)
 (.seq none
 (.reg [zM 31 0,
  zN 32 31,
  zF 3 33 32,
  zL 34 33,
  zy xl_ai (.lr 3 9 true) 35 [.tmp 3],
  zk .write (hInv [(83, s_an), (85, s_as), (87, s_ab)]) (vInv [(83, v_an), (85, v_as), (87, v_ab)]) 36 [.tmp 34, .tmp 35]])
 (.cond (.tmp 36)
 (.reg [zM 37 0,
  zM 38 0,
  zM 39 0,
  zN 40 39,
  zF 3 41 40,
  zL 42 41,
  zk .write (hInv [(83, s_am), (85, s_ar), (87, s_aa)]) (vInv [(83, v_am), (85, v_ar), (87, v_aa)]) 43 [.tmp 42],
  zN 44 37,
  zF 4 45 44,
  zY xl_ai (.store 4) [.tmp 45, .tmp 43],
  zN 46 38,
  zF 2 47 46,
  zS [.tmp 47, .const (.int .i64 2)]])
 .skip))
 (.seq none
 (.reg [zy xl_ai (.f (fBuild [] [] [])) 5 [],
  zy xl_ai (.lr 3 9 true) 6 [.tmp 3],
  zk .write s_b3 v_b3 7 [.tmp 5, .tmp 6],
  zM 4 7])
 .ret))))))))
 (.seq none
 (.reg [zc 4 (.bool false)])
 .ret)))
noncomputable def v_ai : EvF := evFn 2 xc_ai [.t 4]
theorem xt_ai : toC cx_ai (bodyOf Try.f18) = some (xc_ai.map XN.sm) := by kernel_rfl
theorem xr_ai : toR cx_ai Try.f18.results.toList = some [.t 4] := by kernel_rfl
theorem xo_ai : xc_ai.ok xl_ai := ⟨⟨r_a (trivial), r_m, trivial⟩, ⟨⟨⟨r_m, r_a (eqv_bin _ _), r_m, trivial⟩, ⟨⟨⟨r_m, trivial⟩, trivial⟩, ⟨⟨r_m, r_n, r_f _, r_l, r_e, r_m, trivial⟩, ⟨⟨⟨r_m, r_n, r_f _, r_a (trivial), r_c ve_b2, trivial⟩, ⟨⟨r_m, r_n, r_f _, r_s, trivial⟩, trivial⟩⟩, ⟨⟨r_m, r_n, r_f _, r_l, r_e, r_m, trivial⟩, ⟨⟨⟨r_m, r_n, r_f _, r_l, r_a (trivial), r_c (vInv_ok (IvOk.cons ve_an (IvOk.cons ve_as (IvOk.cons ve_ab IvOk.nil)))), trivial⟩, ⟨⟨r_m, r_m, r_m, r_n, r_f _, r_l, r_c (vInv_ok (IvOk.cons ve_am (IvOk.cons ve_ar (IvOk.cons ve_aa IvOk.nil)))), r_n, r_f _, r_a (trivial), r_n, r_f _, r_s, trivial⟩, trivial⟩⟩, ⟨⟨r_a (eqv_build _ rfl _), r_a (trivial), r_c ve_b3, r_m, trivial⟩, trivial⟩⟩⟩⟩⟩⟩⟩, ⟨⟨r_m, trivial⟩, trivial⟩⟩⟩
theorem ve_ai : EvOk s_ai v_ai := EvOk.of (evFn_sound (C := cx_ai) xt_ai xr_ai xo_ai) q_ai
attribute [irreducible] w_ai_j1b w_ai_j1 w_ai s_ai
def w_ah (a0 : Value) (K : Value → Mem → Prop) (σ : Mem) : Prop :=xF fMove [a0] fun v3 =>xF (fBin .eql .ptr) [v3, .pointer none] fun v4 =>xIf v4
 (xF (fBuild [(0, 1), (1, 1), (2, 1), (3, 1)] [.int .i64 0, .int .u64 0, .int .i64 0, .int .i64 0] [0]) [.int .i64 1] fun v5 =>xC (gStore 4 [(locP 2), v5] [.int .i64 0, .int .u64 0, .int .i64 0, .int .i64 0]) fun c2 =>xO (gLoad 4 true [(locP 2)] c2) fun r2 =>K r2 σ)
 (xF fMove [a0] fun v6 =>xF fNil [v6] fun v7 =>xF (fFld 4) [v7] fun v8 =>hLoad 4 true [v8] (fun v9 σ =>xC (gStore 4 [(locP 2), v9] [.int .i64 0, .int .u64 0, .int .i64 0, .int .i64 0]) fun c2 =>xO (gLoad 4 true [(locP 2)] c2) fun r2 =>K r2 σ) σ)
def s_ah : Spec := fun args K σ => match args with
  | [a0] => w_ah a0 K σ
  | _ => False
noncomputable def cx_ah : Cx := { P := Try.prog, T := [], loc := [(2, 2)], eqt := [(45, .ptr)], n := 10, keep := [] }
theorem q_ah : FnS cx_ah Try.f20 (bodyOf Try.f20) 1 = s_ah := by
  funext args K σ
  rcases args with _ | ⟨a0, _ | ⟨b, r⟩⟩ <;> kernel_rfl
theorem e_ah : Entry Try.prog 20 .read s_ah :=
  entry (C := cx_ah) TOk.nil mixedOk Try.func20 (by kernel_rfl) (by kernel_rfl) (by kernel_rfl) q_ah
def xl_ah : List (Nat × Nat) := [(2, 2)]
noncomputable def xc_ah : XC XN :=
(.seq none
 (.reg [zy xl_ah (.la 2 [.int .i64 0, .int .u64 0, .int .i64 0, .int .i64 0]) 2 []])
 (.seq none
 (.seq none
 (.reg [zM 3 0,
  zy xl_ah (.f (fBin .eql .ptr)) 4 [.tmp 3, .const (.pointer none)]])
 (.cond (.tmp 4)
 (.seq none
 (.reg [zy xl_ah (.f (fBuild [(0, 1), (1, 1), (2, 1), (3, 1)] [.int .i64 0, .int .u64 0, .int .i64 0, .int .i64 0] [0])) 5 [.const (.int .i64 1)],
  zY xl_ah (.ls 2 4) [.tmp 2, .tmp 5]])
 .ret)
 .skip))
 (.seq none
 (.reg [zM 6 0,
  zN 7 6,
  zF 4 8 7,
  zy xl_ah (.load 4 true) 9 [.tmp 8],
  zY xl_ah (.ls 2 4) [.tmp 2, .tmp 9]])
 .ret)))
noncomputable def v_ah : EvF := evFn 1 xc_ah [.c 2 2 4 true]
theorem xt_ah : toC cx_ah (bodyOf Try.f20) = some (xc_ah.map XN.sm) := by kernel_rfl
theorem xr_ah : toR cx_ah Try.f20.results.toList = some [.c 2 2 4 true] := by kernel_rfl
theorem xo_ah : xc_ah.ok xl_ah := ⟨⟨r_a (trivial), trivial⟩, ⟨⟨⟨r_m, r_a (eqv_bin _ _), trivial⟩, ⟨⟨⟨r_a (eqv_build _ rfl _), r_a (trivial), trivial⟩, trivial⟩, trivial⟩⟩, ⟨⟨r_m, r_n, r_f _, r_a (trivial), r_a (trivial), trivial⟩, trivial⟩⟩⟩
theorem ve_ah : EvOk s_ah v_ah := EvOk.of (evFn_sound (C := cx_ah) xt_ah xr_ah xo_ah) q_ah
attribute [irreducible] w_ah s_ah
def w_a5_j1b (K : Value → Mem → Prop) (v5 : Value) (c4 : List Value) (σ : Mem) : Prop :=xF fMove [v5] fun v24 =>s_ah [v24] (fun v25 σ =>xC (gStore 4 [(locP 4), v25] c4) fun c4 =>xO (gLoad 4 true [(locP 4)] c4) fun r4 =>K r4 σ) σ
def w_a5_j1 (K : Value → Mem → Prop) (ts : List Value) (ls : List (List Value)) (σ : Mem) : Prop := w_a5_j1b K (ts.getD 0 poison) (ls.getD 0 []) σ
def w_law15_Do_l6b (K : Value → Mem → Prop) (J1 : List Value → List (List Value) → Mem → Prop) (R1 : List Value → List (List Value) → Mem → Prop) (v5 v7 : Value) (c2 c4 : List Value) (σ : Mem) : Prop :=xF fMove [v7] fun v17 =>xF (fBin .lss .no) [v17, .int .i64 500] fun v18 =>xIf v18
 (xF fMove [v5] fun v21 =>xO (gLoad 9 true [(locP 2)] c2) fun v22 =>s_ai [v21, v22] (fun v23 σ =>xIf v23
 (J1 [v5] [c4] σ)
 (xF fMove [v7] fun v19 =>xF (fBin .add .no) [v19, .int .i64 1] fun v20 =>xF fMove [v20] fun v7 =>R1 [v5, v7] [c2, c4] σ)) σ)
 (J1 [v5] [c4] σ)
def w_law15_Do_l6 (K : Value → Mem → Prop) (J1 : List Value → List (List Value) → Mem → Prop) (R1 : List Value → List (List Value) → Mem → Prop) (ts : List Value) (ls : List (List Value)) (σ : Mem) : Prop := w_law15_Do_l6b K J1 R1 (ts.getD 0 poison) (ts.getD 1 poison) (ls.getD 0 []) (ls.getD 1 []) σ
def w_a5 (a0 a1 : Value) (K : Value → Mem → Prop) (σ : Mem) : Prop :=xC (gBox 9 [a0] []) fun c2 =>xC (gBox 7 [a1] []) fun c3 =>xO (gLoad 7 true [(locP 3)] c3) fun v9 =>s_ak [v9] (fun v10 σ =>xF fMove [v10] fun v8 =>xF (fExt 0) [v8] fun v11 =>xF (fExt 1) [v8] fun v12 =>xF fMove [v11] fun v5 =>xF fMove [v12] fun v6 =>xF fMove [v6] fun v13 =>xF (fBin .neq .no) [v13, .int .i64 0] fun v14 =>xIf v14
 (xF fMove [v6] fun v15 =>xF (fBuild [(0, 1), (1, 1), (2, 1), (3, 1)] [.int .i64 0, .int .u64 0, .int .i64 0, .int .i64 0] [0]) [v15] fun v16 =>xC (gStore 4 [(locP 4), v16] [.int .i64 0, .int .u64 0, .int .i64 0, .int .i64 0]) fun c4 =>xO (gLoad 4 true [(locP 4)] c4) fun r4 =>K r4 σ)
 (xJoin (w_a5_j1 K) fun J1 =>xF fMove [.int .i64 0] fun v7 =>xLoop (w_law15_Do_l6 K J1) [v5, v7] [c2, [.int .i64 0, .int .u64 0, .int .i64 0, .int .i64 0]] σ)) σ
def s_a5 : Spec := fun args K σ => match args with
  | [a0, a1] => w_a5 a0 a1 K σ
  | _ => False
noncomputable def cx_a5 : Cx := { P := Try.prog, T := [(14, .write, s_ak), (18, .write, s_ai), (20, .read, s_ah)], loc := [(2, 2), (3, 3), (4, 4)], eqt := [], n := 26, keep := [(6, [5, 7], [2, 4]), (1000009, [5], [4])] }
theorem q_a5 : FnS cx_a5 Try.f12 (bodyOf Try.f12) 2 = s_a5 := by
  funext args K σ
  rcases args with _ | ⟨a0, _ | ⟨a1, _ | ⟨b, r⟩⟩⟩ <;> kernel_rfl
theorem e_a5 : Entry Try.prog 12 .write s_a5 :=
  entry (C := cx_a5) (TOk.cons e_ak (TOk.cons e_ai (TOk.cons e_ah TOk.nil))) mixedOk Try.func12 (by kernel_rfl) (by kernel_rfl) (by kernel_rfl) q_a5
def xl_a5 : List (Nat × Nat) := [(2, 2), (3, 3), (4, 4)]
noncomputable def xc_a5 : XC XN :=
(.seq none
 (.reg [zy xl_a5 (.lb 2 9) 2 [.tmp 0],
  zy xl_a5 (.lb 3 7) 3 [.tmp 1],
  zy xl_a5 (.la 4 [.int .i64 0, .int .u64 0, .int .i64 0, .int .i64 0]) 4 []])
 (.seq none
 (.reg [zy xl_a5 (.lr 3 7 true) 9 [.tmp 3],
  zk .write s_ak v_ak 10 [.tmp 9],
  zM 8 10,
  zy xl_a5 (.f (fExt 0)) 11 [.tmp 8],
  zy xl_a5 (.f (fExt 1)) 12 [.tmp 8],
  zM 5 11,
  zM 6 12])
 (.seq none
 (.seq none
 (.reg [zM 13 6,
  zb .neq rNeq 14 [.tmp 13, .const (.int .i64 0)]])
 (.cond (.tmp 14)
 (.seq none
 (.reg [zM 15 6,
  zy xl_a5 (.f (fBuild [(0, 1), (1, 1), (2, 1), (3, 1)] [.int .i64 0, .int .u64 0, .int .i64 0, .int .i64 0] [0])) 16 [.tmp 15],
  zY xl_a5 (.ls 4 4) [.tmp 4, .tmp 16]])
 .ret)
 .skip))
 (.seq (some ([5], [4]))
 (.seq none
 (.reg [zc 7 (.int .i64 0)])
 (.block 0
 (.loop ([5, 7], [2, 4])
 (.seq none
 (.seq none
 (.reg [zM 17 7,
  zb .lss rLss 18 [.tmp 17, .const (.int .i64 500)]])
 (.cond (.tmp 18)
 .skip
 (.exit 0)))
 (.seq none
 (.block 1
 (.seq none
 (.reg [zM 21 5,
  zy xl_a5 (.lr 2 9 true) 22 [.tmp 2],
  zk .write s_ai v_ai 23 [.tmp 21, .tmp 22]])
 (.cond (.tmp 23)
 (.exit 0)
 .skip)))
 (.reg [zM 19 7,
  zb .add rAdd 20 [.tmp 19, .const (.int .i64 1)],
  zM 7 20]))))))
 (.seq none
 (.reg [zM 24 5,
  zk .read s_ah v_ah 25 [.tmp 24],
  zY xl_a5 (.ls 4 4) [.tmp 4, .tmp 25]])
 .ret)))))
noncomputable def v_a5 : EvF := evFn 2 xc_a5 [.c 4 4 4 true]
theorem xt_a5 : toC cx_a5 (bodyOf Try.f12) = some (xc_a5.map XN.sm) := by kernel_rfl
theorem xr_a5 : toR cx_a5 Try.f12.results.toList = some [.c 4 4 4 true] := by kernel_rfl
theorem xo_a5 : xc_a5.ok xl_a5 := ⟨⟨r_a (trivial), r_a (trivial), r_a (trivial), trivial⟩, ⟨⟨r_a (trivial), r_c ve_ak, r_m, r_a (eqv_ext _), r_a (eqv_ext _), r_m, r_m, trivial⟩, ⟨⟨⟨r_m, rNeq_ok, trivial⟩, ⟨⟨⟨r_m, r_a (eqv_build _ rfl _), r_a (trivial), trivial⟩, trivial⟩, trivial⟩⟩, ⟨⟨⟨r_m, trivial⟩, ⟨⟨⟨r_m, rLss_ok, trivial⟩, ⟨trivial, trivial⟩⟩, ⟨⟨⟨r_m, r_a (trivial), r_c ve_ai, trivial⟩, ⟨trivial, trivial⟩⟩, ⟨r_m, r_d, r_m, trivial⟩⟩⟩⟩, ⟨⟨r_m, r_c ve_ah, r_a (trivial), trivial⟩, trivial⟩⟩⟩⟩⟩
theorem ve_a5 : EvOk s_a5 v_a5 := EvOk.of (evFn_sound (C := cx_a5) xt_a5 xr_a5 xo_a5) q_a5
attribute [irreducible] w_a5_j1b w_a5_j1 w_law15_Do_l6b w_law15_Do_l6 w_a5 s_a5
def w_bv_j1b (K : Value → Mem → Prop) (v0 v1 v19 : Value) (σ : Mem) : Prop :=xIf v19
 (xF fMove [.int .u64 0] fun v4 =>K v4 σ)
 (xF fMove [v0] fun v20 =>xF fNil [v20] fun v21 =>xF (fFld 0) [v21] fun v22 =>hLoad 1 false [v22] (fun v23 σ =>xF fMove [v1] fun v24 =>xF (fIxS 1) [v23, v24] fun v25 =>hLoad 1 false [v25] (fun v26 σ =>xF fMove [v26] fun v4 =>K v4 σ) σ) σ)
def w_bv_j1 (K : Value → Mem → Prop) (ts : List Value) (ls : List (List Value)) (σ : Mem) : Prop := w_bv_j1b K (ts.getD 0 poison) (ts.getD 1 poison) (ts.getD 2 poison) σ
def w_bv (a0 a1 : Value) (K : Value → Mem → Prop) (σ : Mem) : Prop :=xF fMove [.int .u64 0] fun v4 =>xJoin (w_bv_j1 K) fun J1 =>xF fMove [a0] fun v5 =>xF (fBin .eql .ptr) [v5, .pointer none] fun v6 =>xF fMove [v6] fun v7 =>xIf v7
 (xF fPick [.bool true, .bool true, undef] fun v10 =>xF fMove [v10] fun v11 =>xIf v11
 (xF fPick [.bool true, .bool true, undef] fun v19 =>J1 [a0, a1, v19] [] σ)
 (xF fMove [a1] fun v12 =>xF fMove [a0] fun v13 =>xF fNil [v13] fun v14 =>xF (fFld 0) [v14] fun v15 =>hLoad 1 false [v15] (fun v16 σ =>xF fLen [v16] fun v17 =>xF (fBin .geq .no) [v12, v17] fun v18 =>xF fPick [.bool false, .bool true, v18] fun v19 =>J1 [a0, a1, v19] [] σ) σ))
 (xF fMove [a1] fun v8 =>xF (fBin .lss .no) [v8, .int .i64 0] fun v9 =>xF fPick [.bool false, .bool true, v9] fun v10 =>xF fMove [v10] fun v11 =>xIf v11
 (xF fPick [.bool true, .bool true, undef] fun v19 =>J1 [a0, a1, v19] [] σ)
 (xF fMove [a1] fun v12 =>xF fMove [a0] fun v13 =>xF fNil [v13] fun v14 =>xF (fFld 0) [v14] fun v15 =>hLoad 1 false [v15] (fun v16 σ =>xF fLen [v16] fun v17 =>xF (fBin .geq .no) [v12, v17] fun v18 =>xF fPick [.bool false, .bool true, v18] fun v19 =>J1 [a0, a1, v19] [] σ) σ))
def s_bv : Spec := fun args K σ => match args with
  | [a0, a1] => w_bv a0 a1 K σ
  | _ => False
noncomputable def cx_bv : Cx := { P := Try.prog, T := [], loc := [], eqt := [(25, .ptr)], n := 27, keep := [(1000003, [0, 1, 19], [])] }
theorem q_bv : FnS cx_bv Try.f15 (bodyOf Try.f15) 2 = s_bv := by
  funext args K σ
  rcases args with _ | ⟨a0, _ | ⟨a1, _ | ⟨b, r⟩⟩⟩ <;> kernel_rfl
theorem e_bv : Entry Try.prog 15 .read s_bv :=
  entry (C := cx_bv) TOk.nil mixedOk Try.func15 (by kernel_rfl) (by kernel_rfl) (by kernel_rfl) q_bv
def xl_bv : List (Nat × Nat) := []
noncomputable def xc_bv : XC XN :=
(.seq none
 (.reg [zc 4 (.int .u64 0)])
 (.seq none
 (.seq (some ([0, 1, 19], []))
 (.reg [zM 5 0,
  zy xl_bv (.f (fBin .eql .ptr)) 6 [.tmp 5, .const (.pointer none)],
  zM 7 6,
  ⟨(some (3, 2, false, some 7)), some 8, [.tmp 1], ⟨.f fMove, rMove⟩⟩,
  ⟨(some (4, 2, false, some 7)), some 9, [.tmp 8, (.const (.int .i64 0))], ⟨.f (fBin .lss .no), rLss⟩⟩,
  zz (.f fPick) rPick (some 10) [.tmp 7, .const (.bool true), .tmp 9],
  zM 11 10,
  ⟨(some (7, 6, false, some 11)), some 12, [.tmp 1], ⟨.f fMove, rMove⟩⟩,
  ⟨(some (8, 6, false, some 11)), some 13, [.tmp 0], ⟨.f fMove, rMove⟩⟩,
  ⟨(some (9, 6, false, some 11)), some 14, [.tmp 13], ⟨.f fNil, rNil⟩⟩,
  ⟨(some (10, 6, false, some 11)), some 15, [.tmp 14], ⟨.f (fFld 0), rFld 0⟩⟩,
  ⟨(some (11, 6, false, some 11)), some 16, [.tmp 15], ⟨.load 1 false, rLoad1⟩⟩,
  ⟨(some (12, 6, false, some 11)), some 17, [.tmp 16], ⟨.f fLen, rAny xl_bv (.f fLen)⟩⟩,
  ⟨(some (13, 6, false, some 11)), some 18, [.tmp 12, .tmp 17], ⟨.f (fBin .geq .no), rGeq⟩⟩,
  zz (.f fPick) rPick (some 19) [.tmp 11, .const (.bool true), .tmp 18]])
 (.cond (.tmp 19)
 (.seq none
 (.reg [zc 4 (.int .u64 0)])
 .ret)
 .skip))
 (.seq none
 (.reg [zM 20 0,
  zN 21 20,
  zF 0 22 21,
  zL 23 22,
  zM 24 1,
  zz (.f (fIxS 1)) (rIxS 1) (some 25) [.tmp 23, .tmp 24],
  zL 26 25,
  zM 4 26])
 .ret)))
noncomputable def v_bv : EvF := evFn 2 xc_bv [.t 4]
theorem xt_bv : toC cx_bv (bodyOf Try.f15) = some (xc_bv.map XN.sm) := by kernel_rfl
theorem xr_bv : toR cx_bv Try.f15.results.toList = some [.t 4] := by kernel_rfl
theorem xo_bv : xc_bv.ok xl_bv := ⟨⟨r_m, trivial⟩, ⟨⟨⟨r_m, r_a (eqv_bin _ _), r_m, r_m, rLss_ok, r_p, r_m, r_m, r_m, r_n, r_f _, r_l, r_a (eqv_len), rGeq_ok, r_p, trivial⟩, ⟨⟨⟨r_m, trivial⟩, trivial⟩, trivial⟩⟩, ⟨⟨r_m, r_n, r_f _, r_l, r_m, rIxS_ok _, r_l, r_m, trivial⟩, trivial⟩⟩⟩
theorem ve_bv : EvOk s_bv v_bv := EvOk.of (evFn_sound (C := cx_bv) xt_bv xr_bv xo_bv) q_bv
attribute [irreducible] w_bv_j1b w_bv_j1 w_bv s_bv
def w_a7 (K : Value → Mem → Prop) (σ : Mem) : Prop :=xF fMove [.bool false] fun v0 =>s_a0 [.int .i64 1, .int .i64 4, .int .i64 2, .int .i64 20] (fun v7 σ =>xF fMove [v7] fun v6 =>xF (fExt 0) [v6] fun v8 =>xF (fExt 1) [v6] fun v9 =>xC (gStore 9 [(locP 1), v8] [.int .i64 0, .int .i64 0, .int .i64 0, .int .i64 0, .int .i64 0, .int .i64 0, .int .i64 0, .pointer none, .int .i64 0]) fun c1 =>xF fMove [v9] fun v2 =>xF fMove [v2] fun v10 =>xF (fUn .not) [v10] fun v11 =>xIf v11
 (xF fMove [.bool false] fun v0 =>K v0 σ)
 (xO (gLoad 9 true [(locP 1)] c1) fun v12 =>xF (fBuild [(0, 1), (1, 1), (2, 1), (3, 1), (4, 1), (5, 1), (6, 1)] [.int .i64 0, .int .i64 0, .int .u64 0, .int .i64 0, .int .i64 0, .int .i64 0, .bool false] [0, 1]) [.int .i64 1, .int .i64 2] fun v13 =>s_a5 [v12, v13] (fun v14 σ =>xF (fFldV 1 1 false) [v14] fun v15 =>xF fMove [v15] fun v3 =>xO (gLoad 9 true [(locP 1)] c1) fun v16 =>xF fMove [v3] fun v17 =>xF (fBuild [(0, 1), (1, 1), (2, 1), (3, 1), (4, 1), (5, 1), (6, 1)] [.int .i64 0, .int .i64 0, .int .u64 0, .int .i64 0, .int .i64 0, .int .i64 0, .bool false] [0, 2, 4]) [.int .i64 4, v17, .int .i64 7] fun v18 =>s_a5 [v16, v18] (fun v19 σ =>xC (gStore 4 [(locP 4), v19] [.int .i64 0, .int .u64 0, .int .i64 0, .int .i64 0]) fun c4 =>xO (gLoad 9 true [(locP 1)] c1) fun v20 =>xF fMove [v3] fun v21 =>xF (fBuild [(0, 1), (1, 1), (2, 1), (3, 1), (4, 1), (5, 1), (6, 1)] [.int .i64 0, .int .i64 0, .int .u64 0, .int .i64 0, .int .i64 0, .int .i64 0, .bool false] [0, 2]) [.int .i64 3, v21] fun v22 =>s_a5 [v20, v22] (fun v23 σ =>xC (gStore 4 [(locP 5), v23] [.int .i64 0, .int .u64 0, .int .i64 0, .int .i64 0]) fun c5 =>xF fMove [v3] fun v24 =>xF (fBin .eql .no) [v24, .int .u64 65536] fun v25 =>xF fMove [v25] fun v26 =>xIf v26
 (xF (fFld 0) [(locP 4)] fun v27 =>xO (gLoad 1 false [v27] c4) fun v28 =>xF (fBin .eql .no) [v28, .int .i64 0] fun v29 =>xF fPick [.bool true, v29, .bool false] fun v30 =>xF fMove [v30] fun v31 =>xIf v31
 (xF (fFld 0) [(locP 5)] fun v32 =>xO (gLoad 1 false [v32] c5) fun v33 =>xF (fBin .eql .no) [v33, .int .i64 0] fun v34 =>xF fPick [.bool true, v34, .bool false] fun v35 =>xF fMove [v35] fun v36 =>xIf v36
 (xF (fFld 2) [(locP 5)] fun v37 =>xO (gLoad 1 false [v37] c5) fun v38 =>xF (fBin .eql .no) [v38, .int .i64 7] fun v39 =>xF fPick [.bool true, v39, .bool false] fun v40 =>xF fMove [v40] fun v41 =>xIf v41
 (xF (fFld 7) [(locP 1)] fun v42 =>xO (gLoad 1 false [v42] c1) fun v43 =>s_bn [.int .i64 0] (fun v44 σ =>s_bv [v43, v44] (fun v45 σ =>xF (fBin .eql .no) [v45, .int .u64 0] fun v46 =>xF fPick [.bool true, v46, .bool false] fun v47 =>xF fMove [v47] fun v0 =>K v0 σ) σ) σ)
 (xF fPick [.bool false, undef, .bool false] fun v47 =>xF fMove [v47] fun v0 =>K v0 σ))
 (xF fPick [.bool false, undef, .bool false] fun v40 =>xF fMove [v40] fun v41 =>xIf v41
 (xF (fFld 7) [(locP 1)] fun v42 =>xO (gLoad 1 false [v42] c1) fun v43 =>s_bn [.int .i64 0] (fun v44 σ =>s_bv [v43, v44] (fun v45 σ =>xF (fBin .eql .no) [v45, .int .u64 0] fun v46 =>xF fPick [.bool true, v46, .bool false] fun v47 =>xF fMove [v47] fun v0 =>K v0 σ) σ) σ)
 (xF fPick [.bool false, undef, .bool false] fun v47 =>xF fMove [v47] fun v0 =>K v0 σ)))
 (xF fPick [.bool false, undef, .bool false] fun v35 =>xF fMove [v35] fun v36 =>xIf v36
 (xF (fFld 2) [(locP 5)] fun v37 =>xO (gLoad 1 false [v37] c5) fun v38 =>xF (fBin .eql .no) [v38, .int .i64 7] fun v39 =>xF fPick [.bool true, v39, .bool false] fun v40 =>xF fMove [v40] fun v41 =>xIf v41
 (xF (fFld 7) [(locP 1)] fun v42 =>xO (gLoad 1 false [v42] c1) fun v43 =>s_bn [.int .i64 0] (fun v44 σ =>s_bv [v43, v44] (fun v45 σ =>xF (fBin .eql .no) [v45, .int .u64 0] fun v46 =>xF fPick [.bool true, v46, .bool false] fun v47 =>xF fMove [v47] fun v0 =>K v0 σ) σ) σ)
 (xF fPick [.bool false, undef, .bool false] fun v47 =>xF fMove [v47] fun v0 =>K v0 σ))
 (xF fPick [.bool false, undef, .bool false] fun v40 =>xF fMove [v40] fun v41 =>xIf v41
 (xF (fFld 7) [(locP 1)] fun v42 =>xO (gLoad 1 false [v42] c1) fun v43 =>s_bn [.int .i64 0] (fun v44 σ =>s_bv [v43, v44] (fun v45 σ =>xF (fBin .eql .no) [v45, .int .u64 0] fun v46 =>xF fPick [.bool true, v46, .bool false] fun v47 =>xF fMove [v47] fun v0 =>K v0 σ) σ) σ)
 (xF fPick [.bool false, undef, .bool false] fun v47 =>xF fMove [v47] fun v0 =>K v0 σ))))
 (xF fPick [.bool false, undef, .bool false] fun v30 =>xF fMove [v30] fun v31 =>xIf v31
 (xF (fFld 0) [(locP 5)] fun v32 =>xO (gLoad 1 false [v32] c5) fun v33 =>xF (fBin .eql .no) [v33, .int .i64 0] fun v34 =>xF fPick [.bool true, v34, .bool false] fun v35 =>xF fMove [v35] fun v36 =>xIf v36
 (xF (fFld 2) [(locP 5)] fun v37 =>xO (gLoad 1 false [v37] c5) fun v38 =>xF (fBin .eql .no) [v38, .int .i64 7] fun v39 =>xF fPick [.bool true, v39, .bool false] fun v40 =>xF fMove [v40] fun v41 =>xIf v41
 (xF (fFld 7) [(locP 1)] fun v42 =>xO (gLoad 1 false [v42] c1) fun v43 =>s_bn [.int .i64 0] (fun v44 σ =>s_bv [v43, v44] (fun v45 σ =>xF (fBin .eql .no) [v45, .int .u64 0] fun v46 =>xF fPick [.bool true, v46, .bool false] fun v47 =>xF fMove [v47] fun v0 =>K v0 σ) σ) σ)
 (xF fPick [.bool false, undef, .bool false] fun v47 =>xF fMove [v47] fun v0 =>K v0 σ))
 (xF fPick [.bool false, undef, .bool false] fun v40 =>xF fMove [v40] fun v41 =>xIf v41
 (xF (fFld 7) [(locP 1)] fun v42 =>xO (gLoad 1 false [v42] c1) fun v43 =>s_bn [.int .i64 0] (fun v44 σ =>s_bv [v43, v44] (fun v45 σ =>xF (fBin .eql .no) [v45, .int .u64 0] fun v46 =>xF fPick [.bool true, v46, .bool false] fun v47 =>xF fMove [v47] fun v0 =>K v0 σ) σ) σ)
 (xF fPick [.bool false, undef, .bool false] fun v47 =>xF fMove [v47] fun v0 =>K v0 σ)))
 (xF fPick [.bool false, undef, .bool false] fun v35 =>xF fMove [v35] fun v36 =>xIf v36
 (xF (fFld 2) [(locP 5)] fun v37 =>xO (gLoad 1 false [v37] c5) fun v38 =>xF (fBin .eql .no) [v38, .int .i64 7] fun v39 =>xF fPick [.bool true, v39, .bool false] fun v40 =>xF fMove [v40] fun v41 =>xIf v41
 (xF (fFld 7) [(locP 1)] fun v42 =>xO (gLoad 1 false [v42] c1) fun v43 =>s_bn [.int .i64 0] (fun v44 σ =>s_bv [v43, v44] (fun v45 σ =>xF (fBin .eql .no) [v45, .int .u64 0] fun v46 =>xF fPick [.bool true, v46, .bool false] fun v47 =>xF fMove [v47] fun v0 =>K v0 σ) σ) σ)
 (xF fPick [.bool false, undef, .bool false] fun v47 =>xF fMove [v47] fun v0 =>K v0 σ))
 (xF fPick [.bool false, undef, .bool false] fun v40 =>xF fMove [v40] fun v41 =>xIf v41
 (xF (fFld 7) [(locP 1)] fun v42 =>xO (gLoad 1 false [v42] c1) fun v43 =>s_bn [.int .i64 0] (fun v44 σ =>s_bv [v43, v44] (fun v45 σ =>xF (fBin .eql .no) [v45, .int .u64 0] fun v46 =>xF fPick [.bool true, v46, .bool false] fun v47 =>xF fMove [v47] fun v0 =>K v0 σ) σ) σ)
 (xF fPick [.bool false, undef, .bool false] fun v47 =>xF fMove [v47] fun v0 =>K v0 σ))))) σ) σ) σ)) σ
def s_a7 : Spec := fun args K σ => match args with
  | [] => w_a7  K σ
  | _ => False
noncomputable def cx_a7 : Cx := { P := Try.prog, T := [(9, .write, s_a0), (12, .write, s_a5), (16, .none, s_bn), (15, .read, s_bv)], loc := [(1, 1), (4, 4), (5, 5), (27, 4), (32, 5), (37, 5), (42, 1)], eqt := [], n := 48, keep := [] }
theorem q_a7 : FnS cx_a7 Try.f10 (bodyOf Try.f10) 0 = s_a7 := by
  funext args K σ
  rcases args with _ | ⟨b, r⟩ <;> kernel_rfl
theorem e_a7 : Entry Try.prog 10 .write s_a7 :=
  entry (C := cx_a7) (TOk.cons e_a0 (TOk.cons e_a5 (TOk.cons e_bn (TOk.cons e_bv TOk.nil)))) mixedOk Try.func10 (by kernel_rfl) (by kernel_rfl) (by kernel_rfl) q_a7
def xl_a7 : List (Nat × Nat) := [(1, 1), (4, 4), (5, 5), (27, 4), (32, 5), (37, 5), (42, 1)]
noncomputable def xc_a7 : XC XN :=
(.seq none
 (.reg [zc 0 (.bool false)])
 (.seq none
 (.reg [zk .write s_a0 v_a0 7 [.const (.int .i64 1), .const (.int .i64 4), .const (.int .i64 2), .const (.int .i64 20)],
  zM 6 7,
  zy xl_a7 (.f (fExt 0)) 8 [.tmp 6],
  zy xl_a7 (.f (fExt 1)) 9 [.tmp 6],
  zy xl_a7 (.la 1 [.int .i64 0, .int .i64 0, .int .i64 0, .int .i64 0, .int .i64 0, .int .i64 0, .int .i64 0, .pointer none, .int .i64 0]) 1 [],
  zY xl_a7 (.ls 1 9) [.tmp 1, .tmp 8],
  zM 2 9])
 (.seq none
 (.seq none
 (.reg [zM 10 2,
  zz (.f (fUn .not)) rNot (some 11) [.tmp 10]])
 (.cond (.tmp 11)
 (.seq none
 (.reg [zc 0 (.bool false)])
 .ret)
 .skip))
 (.seq none
 (.reg [zy xl_a7 (.lr 1 9 true) 12 [.tmp 1],
  zy xl_a7 (.f (fBuild [(0, 1), (1, 1), (2, 1), (3, 1), (4, 1), (5, 1), (6, 1)] [.int .i64 0, .int .i64 0, .int .u64 0, .int .i64 0, .int .i64 0, .int .i64 0, .bool false] [0, 1])) 13 [.const (.int .i64 1), .const (.int .i64 2)],
  zk .write s_a5 v_a5 14 [.tmp 12, .tmp 13],
  zy xl_a7 (.f (fFldV 1 1 false)) 15 [.tmp 14],
  zM 3 15])
 (.seq none
 (.reg [zy xl_a7 (.lr 1 9 true) 16 [.tmp 1],
  zM 17 3,
  zy xl_a7 (.f (fBuild [(0, 1), (1, 1), (2, 1), (3, 1), (4, 1), (5, 1), (6, 1)] [.int .i64 0, .int .i64 0, .int .u64 0, .int .i64 0, .int .i64 0, .int .i64 0, .bool false] [0, 2, 4])) 18 [.const (.int .i64 4), .tmp 17, .const (.int .i64 7)],
  zk .write s_a5 v_a5 19 [.tmp 16, .tmp 18],
  zy xl_a7 (.la 4 [.int .i64 0, .int .u64 0, .int .i64 0, .int .i64 0]) 4 [],
  zY xl_a7 (.ls 4 4) [.tmp 4, .tmp 19]])
 (.seq none
 (.reg [zy xl_a7 (.lr 1 9 true) 20 [.tmp 1],
  zM 21 3,
  zy xl_a7 (.f (fBuild [(0, 1), (1, 1), (2, 1), (3, 1), (4, 1), (5, 1), (6, 1)] [.int .i64 0, .int .i64 0, .int .u64 0, .int .i64 0, .int .i64 0, .int .i64 0, .bool false] [0, 2])) 22 [.const (.int .i64 3), .tmp 21],
  zk .write s_a5 v_a5 23 [.tmp 20, .tmp 22],
  zy xl_a7 (.la 5 [.int .i64 0, .int .u64 0, .int .i64 0, .int .i64 0]) 5 [],
  zY xl_a7 (.ls 5 4) [.tmp 5, .tmp 23]])
 (.seq none
 (.reg [zM 24 3,
  zb .eql rEql 25 [.tmp 24, .const (.int .u64 65536)],
  zM 26 25,
  ⟨(some (3, 2, true, some 26)), some 27, [.tmp 4], ⟨.f (fFld 0), rFld 0⟩⟩,
  ⟨(some (4, 2, true, some 26)), some 28, [.tmp 27], ⟨.lr 4 1 false, rLr1 4⟩⟩,
  ⟨(some (5, 2, true, some 26)), some 29, [.tmp 28, (.const (.int .i64 0))], ⟨.f (fBin .eql .no), rEql⟩⟩,
  zz (.f fPick) rPick (some 30) [.tmp 26, .tmp 29, .const (.bool false)],
  zM 31 30,
  ⟨(some (8, 7, true, some 31)), some 32, [.tmp 5], ⟨.f (fFld 0), rFld 0⟩⟩,
  ⟨(some (9, 7, true, some 31)), some 33, [.tmp 32], ⟨.lr 5 1 false, rLr1 5⟩⟩,
  ⟨(some (10, 7, true, some 31)), some 34, [.tmp 33, (.const (.int .i64 0))], ⟨.f (fBin .eql .no), rEql⟩⟩,
  zz (.f fPick) rPick (some 35) [.tmp 31, .tmp 34, .const (.bool false)],
  zM 36 35,
  ⟨(some (13, 12, true, some 36)), some 37, [.tmp 5], ⟨.f (fFld 2), rFld 2⟩⟩,
  ⟨(some (14, 12, true, some 36)), some 38, [.tmp 37], ⟨.lr 5 1 false, rLr1 5⟩⟩,
  ⟨(some (15, 12, true, some 36)), some 39, [.tmp 38, (.const (.int .i64 7))], ⟨.f (fBin .eql .no), rEql⟩⟩,
  zz (.f fPick) rPick (some 40) [.tmp 36, .tmp 39, .const (.bool false)],
  zM 41 40,
  ⟨(some (18, 17, true, some 41)), some 42, [.tmp 1], ⟨.f (fFld 7), rFld 7⟩⟩,
  ⟨(some (19, 17, true, some 41)), some 43, [.tmp 42], ⟨.lr 1 1 false, rLr1 1⟩⟩,
  ⟨(some (20, 17, true, some 41)), some 44, [(.const (.int .i64 0))], ⟨.call .none s_bn v_bn, rCall v_bn⟩⟩,
  ⟨(some (21, 17, true, some 41)), some 45, [.tmp 43, .tmp 44], ⟨.call .read s_bv v_bv, rCall v_bv⟩⟩,
  ⟨(some (22, 17, true, some 41)), some 46, [.tmp 45, (.const (.int .u64 0))], ⟨.f (fBin .eql .no), rEql⟩⟩,
  zz (.f fPick) rPick (some 47) [.tmp 41, .tmp 46, .const (.bool false)],
  zM 0 47])
 .ret)))))))
noncomputable def v_a7 : EvF := evFn 0 xc_a7 [.t 0]
theorem xt_a7 : toC cx_a7 (bodyOf Try.f10) = some (xc_a7.map XN.sm) := by kernel_rfl
theorem xr_a7 : toR cx_a7 Try.f10.results.toList = some [.t 0] := by kernel_rfl
theorem xo_a7 : xc_a7.ok xl_a7 := ⟨⟨r_m, trivial⟩, ⟨⟨r_c ve_a0, r_m, r_a (eqv_ext _), r_a (eqv_ext _), r_a (trivial), r_a (trivial), r_m, trivial⟩, ⟨⟨⟨r_m, r_t, trivial⟩, ⟨⟨⟨r_m, trivial⟩, trivial⟩, trivial⟩⟩, ⟨⟨r_a (trivial), r_a (eqv_build _ rfl _), r_c ve_a5, r_a (eqv_fldV _ _ _), r_m, trivial⟩, ⟨⟨r_a (trivial), r_m, r_a (eqv_build _ rfl _), r_c ve_a5, r_a (trivial), r_a (trivial), trivial⟩, ⟨⟨r_a (trivial), r_m, r_a (eqv_build _ rfl _), r_c ve_a5, r_a (trivial), r_a (trivial), trivial⟩, ⟨⟨r_m, r_e, r_m, r_f _, r_r _, r_e, r_p, r_m, r_f _, r_r _, r_e, r_p, r_m, r_f _, r_r _, r_e, r_p, r_m, r_f _, r_r _, r_c ve_bn, r_c ve_bv, r_e, r_p, r_m, trivial⟩, trivial⟩⟩⟩⟩⟩⟩⟩
theorem ve_a7 : EvOk s_a7 v_a7 := EvOk.of (evFn_sound (C := cx_a7) xt_a7 xr_a7 xo_a7) q_a7
theorem a_law15_awake : v_a7 [] ⟨.e, 0⟩ (fun v _ => isT v) = true := by kernel_rfl
def s_a6 : Spec := sTrue
theorem e_a6 : Entry Try.prog 10 .none s_a6 := e_a7.awake ve_a7 a_law15_awake
attribute [irreducible] w_a7 s_a7 s_a6
def w_a8 (a0 : Value) (K : Value → Mem → Prop) (σ : Mem) : Prop :=xC (gBox 7 [a0] []) fun c1 =>xF (fFld 0) [(locP 1)] fun v3 =>xO (gLoad 1 false [v3] c1) fun v4 =>xF (fBin .rem .no) [v4, .int .i64 5] fun v5 =>xF (fBin .add .no) [v5, .int .i64 5] fun v6 =>xF (fBin .rem .no) [v6, .int .i64 5] fun v7 =>xF (fBin .add .no) [.int .i64 1, v7] fun v8 =>xF (fFld 0) [(locP 1)] fun v9 =>xC (gStore 1 [v9, v8] c1) fun c1 =>xF (fFld 4) [(locP 1)] fun v10 =>xO (gLoad 1 false [v10] c1) fun v11 =>xF (fBin .and .no) [v11, .int .i64 1099511627775] fun v12 =>xF (fFld 4) [(locP 1)] fun v13 =>xC (gStore 1 [v13, v12] c1) fun c1 =>xF (fFld 5) [(locP 1)] fun v14 =>xO (gLoad 1 false [v14] c1) fun v15 =>xF (fBin .and .no) [v15, .int .i64 1099511627775] fun v16 =>xF (fFld 5) [(locP 1)] fun v17 =>xC (gStore 1 [v17, v16] c1) fun c1 =>xO (gLoad 7 true [(locP 1)] c1) fun v18 =>xC (gStore 7 [(locP 2), v18] [.int .i64 0, .int .i64 0, .int .u64 0, .int .i64 0, .int .i64 0, .int .i64 0, .bool false]) fun c2 =>xO (gLoad 7 true [(locP 2)] c2) fun r2 =>K r2 σ
def s_a8 : Spec := fun args K σ => match args with
  | [a0] => w_a8 a0 K σ
  | _ => False
noncomputable def cx_a8 : Cx := { P := Try.prog, T := [], loc := [(1, 1), (2, 2), (3, 1), (9, 1), (10, 1), (13, 1), (14, 1), (17, 1)], eqt := [], n := 19, keep := [] }
theorem q_a8 : FnS cx_a8 Try.f11 (bodyOf Try.f11) 1 = s_a8 := by
  funext args K σ
  rcases args with _ | ⟨a0, _ | ⟨b, r⟩⟩ <;> kernel_rfl
theorem e_a8 : Entry Try.prog 11 .none s_a8 :=
  entry (C := cx_a8) TOk.nil mixedOk Try.func11 (by kernel_rfl) (by kernel_rfl) (by kernel_rfl) q_a8
attribute [irreducible] w_a8 s_a8
def w_a4_j2b (K : Value → Mem → Prop) (σ : Mem) : Prop :=xF fMove [.bool true] fun v2 =>K v2 σ
def w_a4_j2 (K : Value → Mem → Prop) (ts : List Value) (ls : List (List Value)) (σ : Mem) : Prop := w_a4_j2b K σ
def w_a4_j4b (K : Value → Mem → Prop) (J2 : List Value → List (List Value) → Mem → Prop) (R1 : List Value → List (List Value) → Mem → Prop) (v0 v6 : Value) (c3 c5 : List Value) (σ : Mem) : Prop :=xF fMove [v6] fun v29 =>xF (fBin .add .no) [v29, .int .i64 1] fun v30 =>xF fMove [v30] fun v6 =>R1 [v0, v6] [c3, c5] σ
def w_a4_j4 (K : Value → Mem → Prop) (J2 : List Value → List (List Value) → Mem → Prop) (R1 : List Value → List (List Value) → Mem → Prop) (ts : List Value) (ls : List (List Value)) (σ : Mem) : Prop := w_a4_j4b K J2 R1 (ts.getD 0 poison) (ts.getD 1 poison) (ls.getD 0 []) (ls.getD 1 []) σ
def w_a4_j6b (K : Value → Mem → Prop) (J2 : List Value → List (List Value) → Mem → Prop) (R1 : List Value → List (List Value) → Mem → Prop) (J4 : List Value → List (List Value) → Mem → Prop) (v0 v6 v73 : Value) (c3 c5 c9 : List Value) (σ : Mem) : Prop :=xIf v73
 (xF fMove [.bool false] fun v2 =>K v2 σ)
 (xF (fFld 1) [(locP 9)] fun v74 =>xO (gLoad 1 false [v74] c9) fun v75 =>xF (fBin .neq .no) [v75, .int .u64 0] fun v76 =>xIf v76
 (xO (gLoad 4 true [(locP 9)] c9) fun v77 =>xC (gStore 4 [(locP 5), v77] c5) fun c5 =>J4 [v0, v6] [c3, c5] σ)
 (J4 [v0, v6] [c3, c5] σ))
def w_a4_j6 (K : Value → Mem → Prop) (J2 : List Value → List (List Value) → Mem → Prop) (R1 : List Value → List (List Value) → Mem → Prop) (J4 : List Value → List (List Value) → Mem → Prop) (ts : List Value) (ls : List (List Value)) (σ : Mem) : Prop := w_a4_j6b K J2 R1 J4 (ts.getD 0 poison) (ts.getD 1 poison) (ts.getD 2 poison) (ls.getD 0 []) (ls.getD 1 []) (ls.getD 2 []) σ
def w_a4_j5b (K : Value → Mem → Prop) (J2 : List Value → List (List Value) → Mem → Prop) (R1 : List Value → List (List Value) → Mem → Prop) (J4 : List Value → List (List Value) → Mem → Prop) (v0 v6 : Value) (c3 c5 c7 : List Value) (σ : Mem) : Prop :=xO (gLoad 9 true [(locP 3)] c3) fun v47 =>s_bg [v47] (fun v48 σ =>xF fMove [v48] fun v8 =>xO (gLoad 9 true [(locP 3)] c3) fun v49 =>xO (gLoad 7 true [(locP 7)] c7) fun v50 =>s_a5 [v49, v50] (fun v51 σ =>xC (gStore 4 [(locP 9), v51] [.int .i64 0, .int .u64 0, .int .i64 0, .int .i64 0]) fun c9 =>xJoin (w_a4_j6 K J2 R1 J4) fun J6 =>xF (fFld 3) [(locP 9)] fun v52 =>xO (gLoad 1 false [v52] c9) fun v53 =>xF fMove [v8] fun v54 =>xF (fBin .lss .no) [v53, v54] fun v55 =>xF fMove [v55] fun v56 =>xIf v56
 (xF fPick [.bool true, .bool true, undef] fun v62 =>xF fMove [v62] fun v63 =>xIf v63
 (xF fPick [.bool true, .bool true, undef] fun v73 =>J6 [v0, v6, v73] [c3, c5, c9] σ)
 (xF (fFld 0) [(locP 9)] fun v64 =>xO (gLoad 1 false [v64] c9) fun v65 =>xF (fBin .eql .no) [v65, .int .i64 0] fun v66 =>xF fMove [v66] fun v67 =>xIf v67
 (xF (fFld 3) [(locP 9)] fun v68 =>xO (gLoad 1 false [v68] c9) fun v69 =>xF fMove [v8] fun v70 =>xF (fBin .eql .no) [v69, v70] fun v71 =>xF fPick [.bool true, v71, .bool false] fun v72 =>xF fPick [.bool false, .bool true, v72] fun v73 =>J6 [v0, v6, v73] [c3, c5, c9] σ)
 (xF fPick [.bool false, undef, .bool false] fun v72 =>xF fPick [.bool false, .bool true, v72] fun v73 =>J6 [v0, v6, v73] [c3, c5, c9] σ)))
 (xF (fFld 3) [(locP 9)] fun v57 =>xO (gLoad 1 false [v57] c9) fun v58 =>xO (gLoad 9 true [(locP 3)] c3) fun v59 =>s_bg [v59] (fun v60 σ =>xF (fBin .gtr .no) [v58, v60] fun v61 =>xF fPick [.bool false, .bool true, v61] fun v62 =>xF fMove [v62] fun v63 =>xIf v63
 (xF fPick [.bool true, .bool true, undef] fun v73 =>J6 [v0, v6, v73] [c3, c5, c9] σ)
 (xF (fFld 0) [(locP 9)] fun v64 =>xO (gLoad 1 false [v64] c9) fun v65 =>xF (fBin .eql .no) [v65, .int .i64 0] fun v66 =>xF fMove [v66] fun v67 =>xIf v67
 (xF (fFld 3) [(locP 9)] fun v68 =>xO (gLoad 1 false [v68] c9) fun v69 =>xF fMove [v8] fun v70 =>xF (fBin .eql .no) [v69, v70] fun v71 =>xF fPick [.bool true, v71, .bool false] fun v72 =>xF fPick [.bool false, .bool true, v72] fun v73 =>J6 [v0, v6, v73] [c3, c5, c9] σ)
 (xF fPick [.bool false, undef, .bool false] fun v72 =>xF fPick [.bool false, .bool true, v72] fun v73 =>J6 [v0, v6, v73] [c3, c5, c9] σ))) σ)) σ) σ
def w_a4_j5 (K : Value → Mem → Prop) (J2 : List Value → List (List Value) → Mem → Prop) (R1 : List Value → List (List Value) → Mem → Prop) (J4 : List Value → List (List Value) → Mem → Prop) (ts : List Value) (ls : List (List Value)) (σ : Mem) : Prop := w_a4_j5b K J2 R1 J4 (ts.getD 0 poison) (ts.getD 1 poison) (ls.getD 0 []) (ls.getD 1 []) (ls.getD 2 []) σ
def w_a4_j7b (K : Value → Mem → Prop) (J2 : List Value → List (List Value) → Mem → Prop) (R1 : List Value → List (List Value) → Mem → Prop) (J4 : List Value → List (List Value) → Mem → Prop) (J5 : List Value → List (List Value) → Mem → Prop) (v0 v6 v43 : Value) (c3 c5 c7 : List Value) (σ : Mem) : Prop :=xIf v43
 (xF (fFld 1) [(locP 5)] fun v44 =>xO (gLoad 1 false [v44] c5) fun v45 =>xF (fFld 2) [(locP 7)] fun v46 =>xC (gStore 1 [v46, v45] c7) fun c7 =>J5 [v0, v6] [c3, c5, c7] σ)
 (J5 [v0, v6] [c3, c5, c7] σ)
def w_a4_j7 (K : Value → Mem → Prop) (J2 : List Value → List (List Value) → Mem → Prop) (R1 : List Value → List (List Value) → Mem → Prop) (J4 : List Value → List (List Value) → Mem → Prop) (J5 : List Value → List (List Value) → Mem → Prop) (ts : List Value) (ls : List (List Value)) (σ : Mem) : Prop := w_a4_j7b K J2 R1 J4 J5 (ts.getD 0 poison) (ts.getD 1 poison) (ts.getD 2 poison) (ls.getD 0 []) (ls.getD 1 []) (ls.getD 2 []) σ
def w_a4_j3b (K : Value → Mem → Prop) (J2 : List Value → List (List Value) → Mem → Prop) (R1 : List Value → List (List Value) → Mem → Prop) (v0 v6 : Value) (c3 c5 : List Value) (σ : Mem) : Prop :=xJoin (w_a4_j4 K J2 R1) fun J4 =>xF fMove [v0] fun v31 =>xF fMove [v6] fun v32 =>xF (fIxS 7) [v31, v32] fun v33 =>hLoad 7 true [v33] (fun v34 σ =>s_a8 [v34] (fun v35 σ =>xC (gStore 7 [(locP 7), v35] [.int .i64 0, .int .i64 0, .int .u64 0, .int .i64 0, .int .i64 0, .int .i64 0, .bool false]) fun c7 =>xJoin (w_a4_j5 K J2 R1 J4) fun J5 =>xJoin (w_a4_j7 K J2 R1 J4 J5) fun J7 =>xF (fFld 1) [(locP 5)] fun v36 =>xO (gLoad 1 false [v36] c5) fun v37 =>xF (fBin .neq .no) [v37, .int .u64 0] fun v38 =>xF fMove [v38] fun v39 =>xIf v39
 (xF fMove [v6] fun v40 =>xF (fBin .rem .no) [v40, .int .i64 2] fun v41 =>xF (fBin .eql .no) [v41, .int .i64 1] fun v42 =>xF fPick [.bool true, v42, .bool false] fun v43 =>J7 [v0, v6, v43] [c3, c5, c7] σ)
 (xF fPick [.bool false, undef, .bool false] fun v43 =>J7 [v0, v6, v43] [c3, c5, c7] σ)) σ) σ
def w_a4_j3 (K : Value → Mem → Prop) (J2 : List Value → List (List Value) → Mem → Prop) (R1 : List Value → List (List Value) → Mem → Prop) (ts : List Value) (ls : List (List Value)) (σ : Mem) : Prop := w_a4_j3b K J2 R1 (ts.getD 0 poison) (ts.getD 1 poison) (ls.getD 0 []) (ls.getD 1 []) σ
def w_law15_ActStamps_l7b (K : Value → Mem → Prop) (J2 : List Value → List (List Value) → Mem → Prop) (R1 : List Value → List (List Value) → Mem → Prop) (v0 v6 : Value) (c3 c5 : List Value) (σ : Mem) : Prop :=xJoin (w_a4_j3 K J2 R1) fun J3 =>xF fMove [v6] fun v21 =>xF fMove [v0] fun v22 =>xF fLen [v22] fun v23 =>xF (fBin .lss .no) [v21, v23] fun v24 =>xF fMove [v24] fun v25 =>xIf v25
 (xF fMove [v6] fun v26 =>xF (fBin .lss .no) [v26, .int .i64 60] fun v27 =>xF fPick [.bool true, v27, .bool false] fun v28 =>xIf v28
 (J3 [v0, v6] [c3, c5] σ)
 (J2 [] [] σ))
 (xF fPick [.bool false, undef, .bool false] fun v28 =>xIf v28
 (J3 [v0, v6] [c3, c5] σ)
 (J2 [] [] σ))
def w_law15_ActStamps_l7 (K : Value → Mem → Prop) (J2 : List Value → List (List Value) → Mem → Prop) (R1 : List Value → List (List Value) → Mem → Prop) (ts : List Value) (ls : List (List Value)) (σ : Mem) : Prop := w_law15_ActStamps_l7b K J2 R1 (ts.getD 0 poison) (ts.getD 1 poison) (ls.getD 0 []) (ls.getD 1 []) σ
def w_a4_j1b (K : Value → Mem → Prop) (v0 v19 : Value) (c3 : List Value) (σ : Mem) : Prop :=xIf v19
 (xF fMove [.bool false] fun v2 =>K v2 σ)
 (xF (fBuild [(0, 1), (1, 1), (2, 1), (3, 1)] [.int .i64 0, .int .u64 0, .int .i64 0, .int .i64 0] []) [] fun v20 =>xC (gStore 4 [(locP 5), v20] [.int .i64 0, .int .u64 0, .int .i64 0, .int .i64 0]) fun c5 =>xJoin (w_a4_j2 K) fun J2 =>xF fMove [.int .i64 0] fun v6 =>xLoop (w_law15_ActStamps_l7 K J2) [v0, v6] [c3, c5] σ)
def w_a4_j1 (K : Value → Mem → Prop) (ts : List Value) (ls : List (List Value)) (σ : Mem) : Prop := w_a4_j1b K (ts.getD 0 poison) (ts.getD 1 poison) (ls.getD 0 []) σ
def w_a4 (a0 : Value) (K : Value → Mem → Prop) (σ : Mem) : Prop :=xF fMove [.bool false] fun v2 =>s_a0 [.int .i64 1, .int .i64 6, .int .i64 8, .int .i64 40] (fun v11 σ =>xF fMove [v11] fun v10 =>xF (fExt 0) [v10] fun v12 =>xF (fExt 1) [v10] fun v13 =>xC (gStore 9 [(locP 3), v12] [.int .i64 0, .int .i64 0, .int .i64 0, .int .i64 0, .int .i64 0, .int .i64 0, .int .i64 0, .pointer none, .int .i64 0]) fun c3 =>xF fMove [v13] fun v4 =>xJoin (w_a4_j1 K) fun J1 =>s_a6 [] (fun v14 σ =>xF (fUn .not) [v14] fun v15 =>xF fMove [v15] fun v16 =>xIf v16
 (xF fPick [.bool true, .bool true, undef] fun v19 =>J1 [a0, v19] [c3] σ)
 (xF fMove [v4] fun v17 =>xF (fUn .not) [v17] fun v18 =>xF fPick [.bool false, .bool true, v18] fun v19 =>J1 [a0, v19] [c3] σ)) σ) σ
def s_a4 : Spec := fun args K σ => match args with
  | [a0] => w_a4 a0 K σ
  | _ => False
noncomputable def cx_a4 : Cx := { P := Try.prog, T := [(9, .write, s_a0), (10, .none, s_a6), (11, .none, s_a8), (17, .read, s_bg), (12, .write, s_a5)], loc := [(3, 3), (5, 5), (7, 7), (9, 9), (36, 5), (44, 5), (46, 7), (52, 9), (57, 9), (64, 9), (68, 9), (74, 9)], eqt := [], n := 78, keep := [(7, [0, 6], [3, 5]), (1000004, [0, 19], [3]), (1000008, [0, 6], [3, 5]), (1000009, [0, 6], [3, 5]), (1000011, [0, 6, 43], [3, 5, 7]), (1000012, [0, 6], [3, 5, 7]), (1000015, [0, 6, 73], [3, 5, 9]), (1000018, [], [])] }
theorem q_a4 : FnS cx_a4 Try.f6 (bodyOf Try.f6) 1 = s_a4 := by
  funext args K σ
  rcases args with _ | ⟨a0, _ | ⟨b, r⟩⟩ <;> kernel_rfl
theorem e_a4 : Entry Try.prog 6 .write s_a4 :=
  entry (C := cx_a4) (TOk.cons e_a0 (TOk.cons e_a6 (TOk.cons e_a8 (TOk.cons e_bg (TOk.cons e_a5 TOk.nil))))) mixedOk Try.func6 (by kernel_rfl) (by kernel_rfl) (by kernel_rfl) q_a4
attribute [irreducible] w_a4_j2b w_a4_j2 w_a4_j4b w_a4_j4 w_a4_j6b w_a4_j6 w_a4_j5b w_a4_j5 w_a4_j7b w_a4_j7 w_a4_j3b w_a4_j3 w_law15_ActStamps_l7b w_law15_ActStamps_l7 w_a4_j1b w_a4_j1 w_a4 s_a4
end Go.Fl
namespace Go.Fl
open Go
set_option linter.unusedVariables false
set_option linter.unusedSimpArgs false
theorem Mem.set_set (σ : Mem) (i : Nat) (a b : Blk) : (σ.set i a).set i b = σ.set i b := by
 apply Mem.ext'; funext j; simp only [Mem.set]; split <;> rfl
theorem Mem.set_self {σ : Mem} {i : Nat} {b : Blk} (h : σ.get i = some b) : σ.set i b = σ := by
 apply Mem.ext'; funext j; simp only [Mem.set]; split
 ·rename_i e; rw [e, h]
 ·rfl
theorem Mem.set_comm (σ : Mem) {i j : Nat} (a b : Blk) (h : i ≠ j) : (σ.set i a).set j b = (σ.set j b).set i a := by
 apply Mem.ext'; funext k; simp only [Mem.set]
 by_cases h1 : k = j <;> by_cases h2 : k = i <;> simp [h1, h2]
 ·exact absurd (h2.symm.trans h1) h
 ·intro e; exact absurd e.symm h
 ·intro e; exact absurd e h
@[simp] theorem Mem.get_set_same (σ : Mem) (i : Nat) (b : Blk) : (σ.set i b).get i = some b := by simp [Mem.set]
theorem Mem.get_set_ne (σ : Mem) {i j : Nat} (b : Blk) (h : j ≠ i) : (σ.set i b).get j = σ.get j := by simp [Mem.set, h]
theorem nr {α : Sort _} {a b : α} (h : a = b) : a = b := h
section
variable {K : Value → Prop} {x y z : Value} {b o off : Nat} {q : Option Nat} {k k' : IntKind} {a c : Int} {Q : EqK}
theorem xMove : xF fMove [x] K = K x := nr rfl
theorem xPickT : xF fPick [.bool true, x, y] K = K x := nr rfl
theorem xPickF : xF fPick [.bool false, x, y] K = K y := nr rfl
theorem xNil {p : Addr} : xF fNil [.pointer (some p)] K = K (.pointer (some p)) := nr rfl
theorem xFld {p : Addr} : xF (fFld off) [.pointer (some p)] K = K (.pointer (some ⟨p.block, p.off + off, p.spot⟩)) := nr rfl
theorem xExt0 : xF (fExt 0) [.tuple #[x, y]] K = K x := nr rfl
theorem xExt1 : xF (fExt 1) [.tuple #[x, y]] K = K y := nr rfl
theorem xExt30 : xF (fExt 0) [.tuple #[x, y, z]] K = K x := nr rfl
theorem xExt31 : xF (fExt 1) [.tuple #[x, y, z]] K = K y := nr rfl
theorem xExt32 : xF (fExt 2) [.tuple #[x, y, z]] K = K z := nr rfl
theorem xAdd : xF (fBin .add Q) [.int k a, .int k c] K = K (.int k (k.wrap (a + c))) := by simp [xF, fBin, isSh, binI]
theorem xSub : xF (fBin .sub Q) [.int k a, .int k c] K = K (.int k (k.wrap (a - c))) := by simp [xF, fBin, isSh, binI]
theorem xMul : xF (fBin .mul Q) [.int k a, .int k c] K = K (.int k (k.wrap (a * c))) := by simp [xF, fBin, isSh, binI]
theorem xQuo (h : c ≠ 0) : xF (fBin .quo Q) [.int k a, .int k c] K = K (.int k (k.wrap (a.tdiv c))) := by simp [xF, fBin, isSh, binI, h]
theorem xRem (h : c ≠ 0) : xF (fBin .rem Q) [.int k a, .int k c] K = K (.int k (a.tmod c)) := by simp [xF, fBin, isSh, binI, h]
theorem xEql : xF (fBin .eql Q) [.int k a, .int k c] K = K (.bool (decide (a = c))) := by
 simp only [xF, fBin, isSh, binI]
 simp only [Bool.false_eq_true, if_false, if_true]
 congr 2
theorem xNeq : xF (fBin .neq Q) [.int k a, .int k c] K = K (.bool (decide (a ≠ c))) := by
 simp only [xF, fBin, isSh, binI]
 simp only [Bool.false_eq_true, if_false, if_true]
 congr 2
 by_cases h : a = c <;> simp [h]
theorem xLss : xF (fBin .lss Q) [.int k a, .int k c] K = K (.bool (decide (a < c))) := by simp [xF, fBin, isSh, binI]
theorem xLeq : xF (fBin .leq Q) [.int k a, .int k c] K = K (.bool (decide (a ≤ c))) := by simp [xF, fBin, isSh, binI]
theorem xGtr : xF (fBin .gtr Q) [.int k a, .int k c] K = K (.bool (decide (c < a))) := by simp [xF, fBin, isSh, binI]
theorem xGeq : xF (fBin .geq Q) [.int k a, .int k c] K = K (.bool (decide (c ≤ a))) := by simp [xF, fBin, isSh, binI]
theorem xEqPN {p : Addr} : xF (fBin .eql .ptr) [.pointer (some p), .pointer none] K = K (.bool false) := nr rfl
theorem xEqNN : xF (fBin .eql .ptr) [.pointer none, .pointer none] K = K (.bool true) := nr rfl
theorem xNePN {p : Addr} : xF (fBin .neq .ptr) [.pointer (some p), .pointer none] K = K (.bool true) := nr rfl
theorem xNeNN : xF (fBin .neq .ptr) [.pointer none, .pointer none] K = K (.bool false) := nr rfl
theorem xEqBB {u v : Bool} : xF (fBin .eql .bool) [.bool u, .bool v] K = K (.bool (u == v)) := nr rfl
theorem xNeBB {u v : Bool} : xF (fBin .neq .bool) [.bool u, .bool v] K = K (.bool (!(u == v))) := nr rfl
theorem xNot {u : Bool} : xF (fUn .not) [.bool u] K = K (.bool (!u)) := by simp [xF, fUn]
theorem xNeg : xF (fUn .neg) [.int k a] K = K (.int k (k.wrap (-a))) := by simp [xF, fUn]
theorem xConv : xF (fConv k) [.int k' a] K = K (.int k (k.wrap a)) := nr rfl
theorem xLen {p : Option Addr} {n m : Nat} : xF fLen [.slice p n m] K = K (.int .i64 n) := nr rfl
theorem xMin : xF fMin [.int k a, .int k c] K = K (.int k (min a c)) := by
 show K (.int k (if c < a then c else a)) = _
 congr 2; split <;> omega
theorem xMax : xF fMax [.int k a, .int k c] K = K (.int k (max a c)) := by
 show K (.int k (if c > a then c else a)) = _
 congr 2; split <;> omega
theorem xIfc {t : TypeId} : xF (fIface t) [x] K = K (.iface t x) := nr rfl
theorem xIxS {p : Addr} {n m es : Nat} (h0 : 0 ≤ a) (h1 : a < n) : xF (fIxS es) [.slice (some p) n m, .int k a] K = K (.pointer (some ⟨p.block, p.off + a.toNat * es, p.spot⟩)) := by
 simp only [xF, fIxS, if_pos (And.intro h0 h1)]; rfl
theorem xFldV {cs : Array Value} {sz : Nat} {ag : Bool} : xF (fFldV off sz ag) [.agg cs] K = xO (sub cs.toList off sz ag) K := nr rfl
end
theorem xIfT {A B : Prop} : xIf (.bool true) A B = A := nr rfl
theorem xIfF {A B : Prop} : xIf (.bool false) A B = B := nr rfl
theorem xIfD {A B : Prop} {p : Prop} [Decidable p] : xIf (.bool (decide p)) A B = if p then A else B := by
 by_cases h : p <;> simp [xIf, h]
theorem xIfB {A B : Prop} {u : Bool} : xIf (.bool u) A B = if u = true then A else B := by cases u <;> rfl
theorem xJoinE {F : List Value → List (List Value) → Mem → Prop} {G : (List Value → List (List Value) → Mem → Prop) → Prop} : xJoin F G = G F := nr rfl
theorem xOs {v : Value} {K : Value → Prop} : xO (some v) K = K v := nr rfl
theorem xCs {c : List Value} {K : List Value → Prop} : xC (some c) K = K c := nr rfl
theorem sub_one {cs : List Value} {o : Nat} {v : Value} (h : cs[o]? = some v) : sub cs o 1 false = some v := by
 have : o < cs.length := (List.getElem?_eq_some_iff.1 h).1
 simp [sub, h, show o + 1 ≤ cs.length by omega]
theorem lay_one {cs : List Value} {o : Nat} {v : Value} : lay cs o [v] = cs.take o ++ v :: cs.drop (o + 1) := by simp [lay]
theorem lay_set {cs : List Value} {o : Nat} {v : Value} (h : o < cs.length) : lay cs o [v] = cs.set o v := by
 rw [lay_one, List.set_eq_take_append_cons_drop, if_pos h]
theorem hLoad_eq {sz b o : Nat} {ag : Bool} {K : Value → Mem → Prop} {σ : Mem} {cs : List Value} {rw : Bool} (h : σ.get b = some ⟨cs, rw⟩) :
  hLoad sz ag [.pointer (some ⟨b, o, none⟩)] K σ = xO (sub cs o sz ag) (fun v => K v σ) := by
 simp only [hLoad, rd, h]
 cases sub cs o sz ag <;> rfl
theorem hStore_eq {sz b o : Nat} {K : Value → Mem → Prop} {σ : Mem} {cs c : List Value} {x : Value} (h : σ.get b = some ⟨cs, true⟩) (hc : cellsOf x sz = some c)
  (hl : o + sz ≤ cs.length) (ho : c.all oneB = true) : hStore sz [.pointer (some ⟨b, o, none⟩), x] K σ = K undef (σ.set b ⟨lay cs o c, true⟩) := by
 simp only [hStore, wr, h, hc]
 rw [if_pos ⟨trivial, hl, ho⟩]
def upd (f : Int → Int) (a v : Int) : Int → Int := fun i => if i = a then v else f i
theorem upd_same (f : Int → Int) (a v : Int) : upd f a v a = v := by simp [upd]
theorem upd_ne (f : Int → Int) {a i : Int} (v : Int) (h : i ≠ a) : upd f a v i = f i := by simp [upd, h]
def cells (k : IntKind) (n : Nat) (f : Int → Int) : List Value := (List.range n).map fun i : Nat => Value.int k (f (i : Int))
@[simp] theorem cells_len (k : IntKind) (n : Nat) (f : Int → Int) : (cells k n f).length = n := by simp [cells]
theorem cells_get (k : IntKind) {n : Nat} (f : Int → Int) {a : Int} (h0 : 0 ≤ a) (h1 : a < n) : (cells k n f)[a.toNat]? = some (.int k (f a)) := by
 have : a.toNat < n := by omega
 simp only [cells, List.getElem?_map, List.getElem?_range this, Option.map_some]
 rw [show ((a.toNat : Nat) : Int) = a by omega]
theorem cells_set (k : IntKind) {n : Nat} (f : Int → Int) {a : Int} (v : Int) (h0 : 0 ≤ a) (h1 : a < n) : (cells k n f).set a.toNat (.int k v) = cells k n (upd f a v) := by
 apply List.ext_getElem?
 intro i
 rw [List.getElem?_set]
 by_cases hi : i < n
 ·simp only [cells, List.getElem?_map, List.getElem?_range hi, Option.map_some, List.length_map, List.length_range]
  by_cases e : a.toNat = i
  ·subst e
   rw [if_pos rfl, if_pos hi]
   simp [upd]
   intro hc; omega
  ·rw [if_neg e]
   have : (i : Int) ≠ a := by omega
   simp [upd, this]
 ·have h2 : ¬ a.toNat = i := by omega
  rw [if_neg h2]
  simp [cells, hi]
theorem cells_sub (k : IntKind) {n : Nat} (f : Int → Int) {a : Int} (h0 : 0 ≤ a) (h1 : a < n) : sub (cells k n f) (0 + a.toNat * 1) 1 false = some (.int k (f a)) := by
 rw [show 0 + a.toNat * 1 = a.toNat by omega]
 exact sub_one (cells_get k f h0 h1)
theorem cells_lay (k : IntKind) {n : Nat} (f : Int → Int) {a : Int} (v : Int) (h0 : 0 ≤ a) (h1 : a < n) : lay (cells k n f) (0 + a.toNat * 1) [.int k v] = cells k n (upd f a v) := by
 rw [show 0 + a.toNat * 1 = a.toNat by omega, lay_set (by simp; omega), cells_set k f v h0 h1]
theorem cells_repl (k : IntKind) (n : Nat) : (List.replicate n [Value.int k 0]).flatten = cells k n fun _ => 0 := by
 rw [List.flatten_replicate_singleton]
 apply List.ext_getElem?
 intro i
 by_cases hi : i < n
 ·simp [cells, hi, List.getElem?_replicate, List.getElem?_range hi]
 ·simp [cells, hi, List.getElem?_replicate]
theorem locP_e (k : Nat) : locP k = .pointer (some ⟨k, 0, some 0⟩) := nr rfl
theorem gBox_a {cs : List Value} {sz : Nat} {l : List Value} (h : cs.length = sz) : gBox sz [.agg cs.toArray] l = some cs := by
 subst h
 show cellsOf (.agg cs.toArray) _ = _
 simp [cellsOf]
theorem gBox_i {k : IntKind} {n : Int} {l : List Value} : gBox 1 [.int k n] l = some [.int k n] := nr rfl
theorem gBox_b {b : Bool} {l : List Value} : gBox 1 [.bool b] l = some [.bool b] := nr rfl
theorem gBox_p {p : Option Addr} {l : List Value} : gBox 1 [.pointer p] l = some [.pointer p] := nr rfl
theorem gLoad_s {sz k o : Nat} {ag : Bool} {q : Option Nat} {cs : List Value} : gLoad sz ag [.pointer (some ⟨k, o, q⟩)] cs = sub cs o sz ag := nr rfl
theorem gAlloc_s {z l : List Value} : gAlloc z [] l = some z := nr rfl
theorem gStore_a {sz k o : Nat} {q : Option Nat} {c cs : List Value} (h : c.length = sz) (hl : o + sz ≤ cs.length) (ho : c.all oneB = true) :
  gStore sz [.pointer (some ⟨k, o, q⟩), .agg c.toArray] cs = some (lay cs o c) := by
 subst h
 have : cellsOf (.agg c.toArray) c.length = some c := by simp [cellsOf]
 simp only [gStore, this]
 rw [if_pos ⟨hl, ho⟩]
theorem gStore_1 {k o : Nat} {q : Option Nat} {x : Value} {cs : List Value} (h : cellsOf x 1 = some [x]) (hl : o + 1 ≤ cs.length) (ho : oneB x = true) :
  gStore 1 [.pointer (some ⟨k, o, q⟩), x] cs = some (lay cs o [x]) := by
 simp only [gStore, h]
 rw [if_pos ⟨hl, by simp [ho]⟩]
theorem gStore_i {k o : Nat} {q : Option Nat} {kd : IntKind} {n : Int} {cs : List Value} (hl : o + 1 ≤ cs.length) :
  gStore 1 [.pointer (some ⟨k, o, q⟩), .int kd n] cs = some (lay cs o [.int kd n]) := gStore_1 rfl hl rfl
theorem gStore_b {k o : Nat} {q : Option Nat} {b : Bool} {cs : List Value} (hl : o + 1 ≤ cs.length) :
  gStore 1 [.pointer (some ⟨k, o, q⟩), .bool b] cs = some (lay cs o [.bool b]) := gStore_1 rfl hl rfl
theorem gStore_p {k o : Nat} {q : Option Nat} {p : Option Addr} {cs : List Value} (hl : o + 1 ≤ cs.length) :
  gStore 1 [.pointer (some ⟨k, o, q⟩), .pointer p] cs = some (lay cs o [.pointer p]) := gStore_1 rfl hl rfl
theorem sub_z {x : Value} {cs : List Value} : sub (x :: cs) 0 1 false = some x := by simp [sub]
theorem sub_s {x : Value} {cs : List Value} {n : Nat} : sub (x :: cs) (n + 1) 1 false = sub cs n 1 false := by
 simp only [sub, List.length_cons]
 by_cases h : n + 1 ≤ cs.length
 ·rw [if_pos h, if_pos (by omega)]; simp
 ·rw [if_neg h, if_neg (by omega)]
theorem sub_l {cs : List Value} {o sz : Nat} : sub cs o sz true = if o + sz ≤ cs.length then some (.agg ((cs.drop o).take sz).toArray) else none := by simp [sub]
theorem oneB_i {k : IntKind} {n : Int} : oneB (.int k n) = true := nr rfl
theorem oneB_b {b : Bool} : oneB (.bool b) = true := nr rfl
theorem oneB_p {p : Option Addr} : oneB (.pointer p) = true := nr rfl
theorem oneB_sl {p : Option Addr} {n c : Nat} : oneB (.slice p n c) = true := nr rfl
theorem lay_z {cs vs : List Value} : lay cs 0 vs = vs ++ cs.drop vs.length := by simp [lay]
theorem lay_s {x : Value} {cs vs : List Value} {n : Nat} : lay (x :: cs) (n + 1) vs = x :: lay cs n vs := by
 simp only [lay, List.take_succ_cons, List.cons_append]
 rw [show n + 1 + vs.length = (n + vs.length) + 1 by omega, List.drop_succ_cons]
def SlW (w : World) (ks : List (Option IntKind)) (v : Value) : Prop := v = .slice none 0 0 ∨ ∃ (a : Addr) (len cap : Nat) (cells : List Value), v = .slice (some a) len cap ∧ len ≤ cap ∧ cap ≤ maxLen ∧
 FlatL (List.replicate len ks).flatten cells ∧ (cap = 0 ∨ InW w a (cap * ks.length) (len * ks.length) cells)
theorem Opn.sl {w : World} {ρ : Ren} {σ : Mem} {avs avs' : List Value} {v : Value} {ks : List (Option IntKind)} (h : Opn w ρ σ avs avs') (hv : SlW w ks v) :
  ∃ ρ' σ' s n cs, Opn w ρ' σ' (s :: avs) (v :: avs') ∧ Sl σ' ks.length n cs s ∧ n ≤ maxLen ∧ FlatL (List.replicate n ks).flatten cs ∧ ∀ i b, σ.get i = some b → σ'.get i = some b := by
 rcases hv with rfl | ⟨a, len, cap, cs, rfl, h1, h2, h3, h4⟩
 ·exact ⟨ρ, σ, _, 0, [], h.nilS, .nil, Nat.zero_le _, .nil, fun _ _ q => q⟩
 ·obtain ⟨ρ', σ', s, o, sl, ext⟩ := h.slice (es := ks.length) h1 h3 (by simp) h4
  exact ⟨ρ', σ', s, len, cs, o, sl, Nat.le_trans h1 h2, h3, ext⟩
theorem ruS : type_of% ((And.intro (And.intro (And.intro (And.intro (And.intro @xMove (And.intro @xPickT @xPickF)) (And.intro @xNil (And.intro @xFld @xExt0))) (And.intro (And.intro @xExt1 (And.intro @xExt30 @xExt31)) (And.intro (And.intro @xExt32 @xAdd) (And.intro @xSub @xMul)))) (And.intro (And.intro (And.intro @xEql (And.intro @xNeq @xLss)) (And.intro @xLeq (And.intro @xGtr @xGeq))) (And.intro (And.intro @xEqPN (And.intro @xEqNN @xNePN)) (And.intro (And.intro @xNeNN @xEqBB) (And.intro @xNeBB @xNot))))) (And.intro (And.intro (And.intro (And.intro @xConv (And.intro @xLen @xMin)) (And.intro @xMax (And.intro @xIfc @xIfT))) (And.intro (And.intro @xIfF (And.intro @xIfD @xJoinE)) (And.intro (And.intro @xOs @xCs) (And.intro @xFldV @List.getD_cons_zero.{0})))) (And.intro (And.intro (And.intro @List.getD_cons_succ.{0} (And.intro @Nat.zero_add @Mem.get_set_same)) (And.intro (And.intro @Mem.set_set @if_true.{1}) (And.intro @if_false.{1} @Bool.not_true))) (And.intro (And.intro @Bool.not_false (And.intro @decide_true @decide_false)) (And.intro (And.intro @decide_eq_true_eq @decide_not) (And.intro @Bool.not_eq_true @Bool.false_eq_true))))))) := (And.intro (And.intro (And.intro (And.intro (And.intro @xMove (And.intro @xPickT @xPickF)) (And.intro @xNil (And.intro @xFld @xExt0))) (And.intro (And.intro @xExt1 (And.intro @xExt30 @xExt31)) (And.intro (And.intro @xExt32 @xAdd) (And.intro @xSub @xMul)))) (And.intro (And.intro (And.intro @xEql (And.intro @xNeq @xLss)) (And.intro @xLeq (And.intro @xGtr @xGeq))) (And.intro (And.intro @xEqPN (And.intro @xEqNN @xNePN)) (And.intro (And.intro @xNeNN @xEqBB) (And.intro @xNeBB @xNot))))) (And.intro (And.intro (And.intro (And.intro @xConv (And.intro @xLen @xMin)) (And.intro @xMax (And.intro @xIfc @xIfT))) (And.intro (And.intro @xIfF (And.intro @xIfD @xJoinE)) (And.intro (And.intro @xOs @xCs) (And.intro @xFldV @List.getD_cons_zero.{0})))) (And.intro (And.intro (And.intro @List.getD_cons_succ.{0} (And.intro @Nat.zero_add @Mem.get_set_same)) (And.intro (And.intro @Mem.set_set @if_true.{1}) (And.intro @if_false.{1} @Bool.not_true))) (And.intro (And.intro @Bool.not_false (And.intro @decide_true @decide_false)) (And.intro (And.intro @decide_eq_true_eq @decide_not) (And.intro @Bool.not_eq_true @Bool.false_eq_true))))))
theorem ruL : type_of% ((And.intro (And.intro (And.intro (And.intro (And.intro @locP_e @gBox_a) (And.intro @gBox_i @gBox_b)) (And.intro (And.intro @gBox_p @gLoad_s) (And.intro @gAlloc_s @gStore_a))) (And.intro (And.intro (And.intro @gStore_i @gStore_b) (And.intro @gStore_p @sub_z)) (And.intro (And.intro @sub_s @lay_z) (And.intro @lay_s @List.length_cons.{0})))) (And.intro (And.intro (And.intro (And.intro @List.length_nil.{0} @Nat.le_refl) (And.intro @List.drop_zero.{0} @List.drop_succ_cons.{0})) (And.intro (And.intro @List.take_succ_cons.{0} @List.take_zero.{0}) (And.intro @List.drop_nil.{0} @List.cons_append.{0}))) (And.intro (And.intro (And.intro @List.nil_append.{0} @List.all_cons.{0}) (And.intro @List.all_nil.{0} @oneB_i)) (And.intro (And.intro @oneB_b @oneB_p) (And.intro @oneB_sl @Bool.and_true)))))) := (And.intro (And.intro (And.intro (And.intro (And.intro @locP_e @gBox_a) (And.intro @gBox_i @gBox_b)) (And.intro (And.intro @gBox_p @gLoad_s) (And.intro @gAlloc_s @gStore_a))) (And.intro (And.intro (And.intro @gStore_i @gStore_b) (And.intro @gStore_p @sub_z)) (And.intro (And.intro @sub_s @lay_z) (And.intro @lay_s @List.length_cons.{0})))) (And.intro (And.intro (And.intro (And.intro @List.length_nil.{0} @Nat.le_refl) (And.intro @List.drop_zero.{0} @List.drop_succ_cons.{0})) (And.intro (And.intro @List.take_succ_cons.{0} @List.take_zero.{0}) (And.intro @List.drop_nil.{0} @List.cons_append.{0}))) (And.intro (And.intro (And.intro @List.nil_append.{0} @List.all_cons.{0}) (And.intro @List.all_nil.{0} @oneB_i)) (And.intro (And.intro @oneB_b @oneB_p) (And.intro @oneB_sl @Bool.and_true)))))
theorem ruX : type_of% (@sub_l) := @sub_l
end Go.Fl
namespace Go.Fl
open Go
set_option linter.unusedVariables false
set_option linter.unusedSimpArgs false
structure Ar where
 n : Nat
 w : Int → Int
 t : Int → Int
 s : Int
 who : Int
 la : Int
 lw : Int
 lc : Bool
structure Nm where
 m : Nat
 w : Nat
 t : Nat
def Ar.mc (N : Nm) (A : Ar) : List Value := [.slice (some ⟨N.w, 0, none⟩) A.n 1, .slice (some ⟨N.t, 0, none⟩) A.n 1, .int .i64 A.s, .int .i64 A.who, .int .i64 A.la, .int .i64 A.lw, .bool A.lc]
def Ar.wb (A : Ar) : Blk := ⟨cells .u64 A.n A.w, true⟩
def Ar.tb (A : Ar) : Blk := ⟨cells .i64 A.n A.t, true⟩
structure Nm.ok (N : Nm) : Prop where
 mw : N.m ≠ N.w
 mt : N.m ≠ N.t
 wt : N.w ≠ N.t
def putA (N : Nm) (A : Ar) (σ : Mem) : Mem := ((σ.set N.t A.tb).set N.w A.wb).set N.m ⟨A.mc N, true⟩
variable {N : Nm} {A B : Ar} {σ : Mem} {K : Value → Mem → Prop}
theorem putA_m : (putA N A σ).get N.m = some ⟨A.mc N, true⟩ := by simp [putA]
theorem putA_w (h : N.ok) : (putA N A σ).get N.w = some A.wb := by simp [putA, Mem.get_set, h.mw.symm]
theorem putA_t (h : N.ok) : (putA N A σ).get N.t = some A.tb := by simp [putA, Mem.get_set, h.mt.symm, h.wt.symm]
theorem putA_ne {i : Nat} (h1 : i ≠ N.m) (h2 : i ≠ N.w) (h3 : i ≠ N.t) : (putA N A σ).get i = σ.get i := by simp [putA, Mem.get_set, h1, h2, h3]
theorem putA_set {p : Nat} {c : Blk} (h1 : p ≠ N.m) (h2 : p ≠ N.w) (h3 : p ≠ N.t) : (putA N A σ).set p c = putA N A (σ.set p c) := by
 simp only [putA]
 rw [Mem.set_comm _ _ _ h1.symm, Mem.set_comm _ _ _ h2.symm, Mem.set_comm _ _ _ h3.symm]
def Ar.by (A : Ar) (who : Int) : Ar := { A with who := who }
def Ar.step (A : Ar) (a : Int) : Ar := { A with s := IntKind.i64.wrap (A.s + 1), la := a, lw := A.who, lc := false }
def Ar.lay (A : Ar) (a v : Int) : Ar := { A with lc := decide (A.w a ≠ v), t := if A.w a ≠ v then upd A.t a A.s else A.t, w := upd A.w a v }
def Ar.tick (A : Ar) : Ar := { A with s := IntKind.i64.wrap (A.s + 1) }
def Ar.lst (A : Ar) (a : Int) : Ar := { A with la := a, lw := A.who, lc := false }
def Ar.chg (A : Ar) (c : Bool) : Ar := { A with lc := c }
def Ar.setW (A : Ar) (a v : Int) : Ar := { A with w := upd A.w a v }
def Ar.setT (A : Ar) (a v : Int) : Ar := { A with t := upd A.t a v }
theorem putA_setM (h : A.n = B.n) (hw : A.w = B.w) (ht : A.t = B.t) : (putA N A σ).set N.m ⟨B.mc N, true⟩ = putA N B σ := by
 simp only [putA, Mem.set_set, Ar.wb, Ar.tb, h, hw, ht]
theorem ldM0 : hLoad 1 false [.pointer (some ⟨N.m, 0, none⟩)] K (putA N A σ) = K (.slice (some ⟨N.w, 0, none⟩) A.n 1) (putA N A σ) := (hLoad_eq putA_m).trans rfl
theorem ldM1 : hLoad 1 false [.pointer (some ⟨N.m, 1, none⟩)] K (putA N A σ) = K (.slice (some ⟨N.t, 0, none⟩) A.n 1) (putA N A σ) := (hLoad_eq putA_m).trans rfl
theorem ldM2 : hLoad 1 false [.pointer (some ⟨N.m, 2, none⟩)] K (putA N A σ) = K (.int .i64 A.s) (putA N A σ) := (hLoad_eq putA_m).trans rfl
theorem ldM3 : hLoad 1 false [.pointer (some ⟨N.m, 3, none⟩)] K (putA N A σ) = K (.int .i64 A.who) (putA N A σ) := (hLoad_eq putA_m).trans rfl
theorem ldM6 : hLoad 1 false [.pointer (some ⟨N.m, 6, none⟩)] K (putA N A σ) = K (.bool A.lc) (putA N A σ) := (hLoad_eq putA_m).trans rfl
theorem stM2 : hStore 1 [.pointer (some ⟨N.m, 2, none⟩), .int .i64 (IntKind.i64.wrap (A.s + 1))] K (putA N A σ) = K undef (putA N A.tick σ) := by
 rw [hStore_eq putA_m rfl (by simp [Ar.mc]) rfl]
 exact congrArg _ (putA_setM (B := A.tick) rfl rfl rfl)
theorem stM3 {who : Int} : hStore 1 [.pointer (some ⟨N.m, 3, none⟩), .int .i64 who] K (putA N A σ) = K undef (putA N (A.by who) σ) := by
 rw [hStore_eq putA_m rfl (by simp [Ar.mc]) rfl]
 exact congrArg _ (putA_setM (B := A.by who) rfl rfl rfl)
theorem stM4 {a : Int} : hStore 3 [.pointer (some ⟨N.m, 4, none⟩), .agg #[.int .i64 a, .int .i64 A.who, .bool false]] K (putA N A σ) = K undef (putA N (A.lst a) σ) := by
 rw [hStore_eq putA_m rfl (by simp [Ar.mc]) rfl]
 exact congrArg _ (putA_setM (B := A.lst a) rfl rfl rfl)
theorem stM6 {c : Bool} : hStore 1 [.pointer (some ⟨N.m, 6, none⟩), .bool c] K (putA N A σ) = K undef (putA N (A.chg c) σ) := by
 rw [hStore_eq putA_m rfl (by simp [Ar.mc]) rfl]
 exact congrArg _ (putA_setM (B := A.chg c) rfl rfl rfl)
theorem ldW (h : N.ok) {a : Int} (h0 : 0 ≤ a) (h1 : a < A.n) : hLoad 1 false [.pointer (some ⟨N.w, a.toNat * 1, none⟩)] K (putA N A σ) = K (.int .u64 (A.w a)) (putA N A σ) := by
 rw [hLoad_eq (putA_w h)]
 have := cells_sub .u64 A.w h0 h1
 rw [Nat.zero_add] at this
 rw [this, xOs]
theorem stW (h : N.ok) {a v : Int} (h0 : 0 ≤ a) (h1 : a < A.n) : hStore 1 [.pointer (some ⟨N.w, a.toNat * 1, none⟩), .int .u64 v] K (putA N A σ) = K undef (putA N (A.setW a v) σ) := by
 have := cells_lay .u64 A.w v h0 h1
 rw [Nat.zero_add] at this
 rw [hStore_eq (putA_w h) rfl (by simp; omega) rfl, this]
 refine congrArg _ ?_
 simp only [putA]
 rw [Mem.set_comm _ _ _ h.mw, Mem.set_set]; rfl
theorem stT (h : N.ok) {a v : Int} (h0 : 0 ≤ a) (h1 : a < A.n) : hStore 1 [.pointer (some ⟨N.t, a.toNat * 1, none⟩), .int .i64 v] K (putA N A σ) = K undef (putA N (A.setT a v) σ) := by
 have := cells_lay .i64 A.t v h0 h1
 rw [Nat.zero_add] at this
 rw [hStore_eq (putA_t h) rfl (by simp; omega) rfl, this]
 refine congrArg _ ?_
 simp only [putA]
 rw [Mem.set_comm _ _ _ h.mt, Mem.set_comm _ _ _ h.wt, Mem.set_set]; rfl
theorem ldT (h : N.ok) {a : Int} (h0 : 0 ≤ a) (h1 : a < A.n) : hLoad 1 false [.pointer (some ⟨N.t, a.toNat * 1, none⟩)] K (putA N A σ) = K (.int .i64 (A.t a)) (putA N A σ) := by
 rw [hLoad_eq (putA_t h)]
 have := cells_sub .i64 A.t h0 h1
 rw [Nat.zero_add] at this
 rw [this, xOs]
theorem xBuildLast {a b : Int} {K : Value → Prop} : xF (fBuild [(0, 1), (1, 1), (2, 1)] [.int .i64 0, .int .i64 0, .bool false] [0, 1]) [.int .i64 a, .int .i64 b] K = K (.agg #[.int .i64 a, .int .i64 b, .bool false]) := rfl
def Nm.p (N : Nm) : Value := .pointer (some ⟨N.m, 0, none⟩)
theorem c_By {who : Int} : s_bs [N.p, .int .i64 who] K (putA N A σ) = K (.tuple #[]) (putA N (A.by who) σ) := by
 simp only [s_bs, w_bs, Nm.p, stM3, ruS, Nat.reduceAdd, reduceIte, Int.reduceLT, Int.reduceLE, Int.reduceEq, Int.reduceNeg, Int.reduceAdd, Int.reduceSub]
theorem c_step {a : Int} (h0 : 0 ≤ a) (h1 : a < A.n) : s_b0 [N.p, .int .i64 a] K (putA N A σ) = K (.bool true) (putA N (A.step a) σ) := by
 simp only [s_b0, w_b0, w_b0_j1, w_b0_j1b, Nm.p, ldM0, ldM2, ldM3, stM2, stM4, xBuildLast, ruS, Nat.reduceAdd, reduceIte, Int.reduceLT, Int.reduceLE, Int.reduceEq, Int.reduceNeg, Int.reduceAdd, Int.reduceSub]
 rw [if_neg (by omega), if_neg (by omega)]
 rfl
theorem c_set (h : N.ok) {a v : Int} (h0 : 0 ≤ a) (h1 : a < A.n) : s_bz [N.p, .int .i64 a, .int .u64 v] K (putA N A σ) = K (.tuple #[]) (putA N (A.lay a v) σ) := by
 have h2 : ∀ c, a < (A.chg c).n := fun _ => h1
 simp only [s_bz, w_bz, w_bz_j1, w_bz_j1b, Nm.p, ldM0, ldM1, ldM2, ldM6, stM6, xIxS h0 h1, xIxS h0 (h2 _), ldW h h0 h1, ruS, Nat.reduceAdd, reduceIte, Int.reduceLT, Int.reduceLE, Int.reduceEq, Int.reduceNeg, Int.reduceAdd, Int.reduceSub]
 by_cases hc : A.w a = v
 ·simp only [hc, Ar.chg, ne_eq, not_true_eq_false, decide_false, Bool.false_eq_true, if_false, xIxS h0 h1, ruS, Nat.reduceAdd, reduceIte, Int.reduceLT, Int.reduceLE, Int.reduceEq, Int.reduceNeg, Int.reduceAdd, Int.reduceSub]
  have h3 : a < (A.chg false).n := h1
  rw [show ({ n := A.n, w := A.w, t := A.t, s := A.s, who := A.who, la := A.la, lw := A.lw, lc := false } : Ar) = A.chg false from rfl]
  simp only [xIxS h0 h3, stW h h0 h3, Nat.zero_add]
  refine congrArg _ (congrArg (putA N · σ) ?_)
  simp [Ar.setW, Ar.chg, Ar.lay, hc]
 ·simp only [hc, ne_eq, not_false_eq_true, decide_true, if_true, Ar.chg, ruS, Nat.reduceAdd, reduceIte, Int.reduceLT, Int.reduceLE, Int.reduceEq, Int.reduceNeg, Int.reduceAdd, Int.reduceSub]
  have h3 : a < (A.chg true).n := h1
  have h4 : a < ((A.chg true).setT a A.s).n := h1
  rw [show ({ n := A.n, w := A.w, t := A.t, s := A.s, who := A.who, la := A.la, lw := A.lw, lc := true } : Ar) = A.chg true from rfl]
  simp only [xIxS h0 h3, stT h h0 h3, Nat.zero_add]
  simp only [ldM0, ruS, Nat.reduceAdd, reduceIte, Int.reduceLT, Int.reduceLE, Int.reduceEq, Int.reduceNeg, Int.reduceAdd, Int.reduceSub]
  simp only [xIxS h0 h4, stW h h0 h4, Nat.zero_add]
  refine congrArg _ (congrArg (putA N · σ) ?_)
  simp [Ar.setW, Ar.setT, Ar.chg, Ar.lay, hc]
def Ar.load (A : Ar) (a : Int) : Ar := A.step a
def Ar.store (A : Ar) (a v : Int) : Ar := (A.step a).lay a v
def Ar.cas (A : Ar) (a o v : Int) : Ar := if A.w a = o then (A.step a).lay a v else A.step a
def Ar.add (A : Ar) (a d : Int) : Ar := (A.step a).lay a (IntKind.u64.wrap (A.w a + d))
theorem step_lt {a b : Int} (h : a < A.n) : a < (A.step b).n := h
theorem c_mLoad (h : N.ok) {a : Int} (h0 : 0 ≤ a) (h1 : a < A.n) : s_bu [N.p, .int .i64 a] K (putA N A σ) = K (.tuple #[.int .u64 (A.w a), .int .i64 0]) (putA N (A.load a) σ) := by
 simp only [s_bu, w_bu, ruS, Nat.reduceAdd, reduceIte, Int.reduceLT, Int.reduceLE, Int.reduceEq, Int.reduceNeg, Int.reduceAdd, Int.reduceSub, c_step h0 h1]
 simp only [Nm.p, ldM0, xIxS h0 (step_lt h1), ldW h h0 (step_lt h1), ruS, Nat.reduceAdd, reduceIte, Int.reduceLT, Int.reduceLE, Int.reduceEq, Int.reduceNeg, Int.reduceAdd, Int.reduceSub]
 rfl
theorem c_mStore (h : N.ok) {a v : Int} (h0 : 0 ≤ a) (h1 : a < A.n) : s_bx [N.p, .int .i64 a, .int .u64 v] K (putA N A σ) = K (.int .i64 0) (putA N (A.store a v) σ) := by
 simp only [s_bx, w_bx, ruS, Nat.reduceAdd, reduceIte, Int.reduceLT, Int.reduceLE, Int.reduceEq, Int.reduceNeg, Int.reduceAdd, Int.reduceSub, c_step h0 h1, c_set h h0 (step_lt h1)]
 rfl
theorem c_mCas (h : N.ok) {a o v : Int} (h0 : 0 ≤ a) (h1 : a < A.n) : s_bt [N.p, .int .i64 a, .int .u64 o, .int .u64 v] K (putA N A σ) = K (.tuple #[.bool (decide (A.w a = o)), .int .i64 0]) (putA N (A.cas a o v) σ) := by
 simp only [s_bt, w_bt, ruS, Nat.reduceAdd, reduceIte, Int.reduceLT, Int.reduceLE, Int.reduceEq, Int.reduceNeg, Int.reduceAdd, Int.reduceSub, c_step h0 h1]
 have hw : (A.step a).w a = A.w a := rfl
 simp only [Nm.p, ldM0, xIxS h0 (step_lt h1), ldW h h0 (step_lt h1), ruS, Nat.reduceAdd, reduceIte, Int.reduceLT, Int.reduceLE, Int.reduceEq, Int.reduceNeg, Int.reduceAdd, Int.reduceSub, hw]
 by_cases hc : A.w a = o
 ·have := c_set (K := fun v σ => K (.tuple #[.bool true, .int .i64 0]) σ) (σ := σ) (v := v) h h0 (step_lt (b := a) h1)
  simp only [Nm.p] at this
  simp only [hc, decide_true, if_false, if_true, not_true_eq_false, ne_eq, this, Ar.cas, ruS, Nat.reduceAdd, reduceIte, Int.reduceLT, Int.reduceLE, Int.reduceEq, Int.reduceNeg, Int.reduceAdd, Int.reduceSub]
 ·simp only [hc, decide_false, if_true, not_false_eq_true, ne_eq, Ar.cas, if_false, ruS, Nat.reduceAdd, reduceIte, Int.reduceLT, Int.reduceLE, Int.reduceEq, Int.reduceNeg, Int.reduceAdd, Int.reduceSub]
theorem c_mAdd (h : N.ok) {a d : Int} (h0 : 0 ≤ a) (h1 : a < A.n) : s_br [N.p, .int .i64 a, .int .u64 d] K (putA N A σ) = K (.tuple #[.int .u64 (A.w a), .int .i64 0]) (putA N (A.add a d) σ) := by
 simp only [s_br, w_br, ruS, Nat.reduceAdd, reduceIte, Int.reduceLT, Int.reduceLE, Int.reduceEq, Int.reduceNeg, Int.reduceAdd, Int.reduceSub, c_step h0 h1]
 have hw : (A.step a).w a = A.w a := rfl
 simp only [Nm.p, ldM0, xIxS h0 (step_lt h1), ldW h h0 (step_lt h1), ruS, Nat.reduceAdd, reduceIte, Int.reduceLT, Int.reduceLE, Int.reduceEq, Int.reduceNeg, Int.reduceAdd, Int.reduceSub, hw]
 have := c_set (K := fun q σ => K (.tuple #[.int .u64 (A.w a), .int .i64 0]) σ) (σ := σ) (v := IntKind.u64.wrap (A.w a + d)) h h0 (step_lt (b := a) h1)
 simp only [Nm.p] at this
 simp only [this, ruS, Nat.reduceAdd, reduceIte, Int.reduceLT, Int.reduceLE, Int.reduceEq, Int.reduceNeg, Int.reduceAdd, Int.reduceSub]
 rfl
theorem c_mSteps : s_bw [N.p] K (putA N A σ) = K (.int .i64 A.s) (putA N A σ) := by
 simp only [s_bw, w_bw, Nm.p, ldM2, ruS, Nat.reduceAdd, reduceIte, Int.reduceLT, Int.reduceLE, Int.reduceEq, Int.reduceNeg, Int.reduceAdd, Int.reduceSub]
structure Cf where
 T : Int
 S : Int
 C : Int
 W : Int
 G : Int
 P : Int
 R : Int
def Cf.l (c : Cf) : List Value := [.int .i64 c.T, .int .i64 c.S, .int .i64 c.C, .int .i64 c.W, .int .i64 c.G, .int .i64 c.P, .int .i64 c.R]
def Cf.v (c : Cf) : Value := .agg #[.int .i64 c.T, .int .i64 c.S, .int .i64 c.C, .int .i64 c.W, .int .i64 c.G, .int .i64 c.P, .int .i64 c.R]
def Nm.env (N : Nm) (c : Cf) (who : Int) : Value := .agg #[.int .i64 c.T, .int .i64 c.S, .int .i64 c.C, .int .i64 c.W, .int .i64 c.G, .int .i64 c.P, .int .i64 c.R, N.p, .int .i64 who]
variable {C : Cf} {who : Int}
theorem by_lt {a : Int} (h : a < A.n) : a < (A.by who).n := h
theorem c_Load (h : N.ok) {a : Int} (h0 : 0 ≤ a) (h1 : a < A.n) : s_bf [N.env C who, .int .i64 a] K (putA N A σ) = K (.int .u64 (A.w a)) (putA N ((A.by who).load a) σ) := by
 simp only [s_bf, w_bf, Nm.env, ruS, ruL, ruX, Nat.reduceAdd, reduceIte, Int.reduceLT, Int.reduceLE, Int.reduceEq, Int.reduceNeg, Int.reduceAdd, Int.reduceSub, Nat.reduceLeDiff, c_By, c_mLoad h h0 (by_lt h1)]
 rfl
theorem c_Store (h : N.ok) {a v : Int} (h0 : 0 ≤ a) (h1 : a < A.n) : s_bh [N.env C who, .int .i64 a, .int .u64 v] K (putA N A σ) = K (.tuple #[]) (putA N ((A.by who).store a v) σ) := by
 simp only [s_bh, w_bh, Nm.env, ruS, ruL, ruX, Nat.reduceAdd, reduceIte, Int.reduceLT, Int.reduceLE, Int.reduceEq, Int.reduceNeg, Int.reduceAdd, Int.reduceSub, Nat.reduceLeDiff, c_By, c_mStore h h0 (by_lt h1)]
theorem c_Cas (h : N.ok) {a o v : Int} (h0 : 0 ≤ a) (h1 : a < A.n) : s_be [N.env C who, .int .i64 a, .int .u64 o, .int .u64 v] K (putA N A σ) = K (.bool (decide (A.w a = o))) (putA N ((A.by who).cas a o v) σ) := by
 simp only [s_be, w_be, Nm.env, ruS, ruL, ruX, Nat.reduceAdd, reduceIte, Int.reduceLT, Int.reduceLE, Int.reduceEq, Int.reduceNeg, Int.reduceAdd, Int.reduceSub, Nat.reduceLeDiff, c_By, c_mCas h h0 (by_lt h1)]
 rfl
theorem c_Add (h : N.ok) {a d : Int} (h0 : 0 ≤ a) (h1 : a < A.n) : s_bd [N.env C who, .int .i64 a, .int .i64 d] K (putA N A σ) = K (.tuple #[]) (putA N ((A.by who).add a (IntKind.u64.wrap d)) σ) := by
 simp only [s_bd, w_bd, Nm.env, ruS, ruL, ruX, Nat.reduceAdd, reduceIte, Int.reduceLT, Int.reduceLE, Int.reduceEq, Int.reduceNeg, Int.reduceAdd, Int.reduceSub, Nat.reduceLeDiff, c_By, c_mAdd h h0 (by_lt h1)]
theorem c_Now : s_bg [N.env C who] K (putA N A σ) = K (.int .i64 A.s) (putA N A σ) := by
 simp only [s_bg, w_bg, Nm.env, ruS, ruL, ruX, Nat.reduceAdd, reduceIte, Int.reduceLT, Int.reduceLE, Int.reduceEq, Int.reduceNeg, Int.reduceAdd, Int.reduceSub, Nat.reduceLeDiff, c_mSteps]
theorem xAnd63 {K : Value → Prop} {Q : EqK} {k : Nat} {w : Int} (h0 : 0 ≤ w) (h1 : w < 18446744073709551616) (hk : k ≤ 63) : xF (fBin .and Q) [.int .u64 w, .int .u64 (2 ^ k - 1)] K = K (.int .u64 (w % 2 ^ k)) := by
 obtain ⟨n, rfl⟩ := Int.eq_ofNat_of_zero_le h0
 have e : ((2 : Int) ^ k - 1) = ((2 ^ k - 1 : Nat) : Int) := by
  have : 0 < 2 ^ k := Nat.two_pow_pos k
  push_cast [Nat.one_le_two_pow]
  rfl
 have hb : 2 ^ k < 2 ^ 64 := Nat.pow_lt_pow_right (by decide) (by omega)
 have hn : n < 2 ^ 64 := by omega
 have q : (BitVec.ofInt 64 (n : Int) &&& BitVec.ofInt 64 ((2 ^ k - 1 : Nat) : Int)).toNat = n % 2 ^ k := by
  rw [BitVec.toNat_and, BitVec.toNat_ofInt, BitVec.toNat_ofInt]
  have h3 : ((n : Int) % ((2 ^ 64 : Nat) : Int)).toNat = n := by omega
  have h4 : (((2 ^ k - 1 : Nat) : Int) % ((2 ^ 64 : Nat) : Int)).toNat = 2 ^ k - 1 := by omega
  rw [h3, h4, Nat.and_two_pow_sub_one_eq_mod]
 show xF (fBin .and Q) _ _ = _
 simp only [xF, fBin, isSh, binI, Bool.false_eq_true, if_false, if_true]
 show K (.int .u64 (IntKind.u64.wrap ((BitVec.ofInt 64 (n : Int) &&& BitVec.ofInt 64 (2 ^ k - 1)).toNat : Int))) = _
 rw [e, q, IntWalk.u64_in _ (by have := Nat.mod_lt n (Nat.two_pow_pos k); omega)]
 push_cast
 rfl
theorem and2 {K : Value → Prop} {Q : EqK} {w : Int} (h0 : 0 ≤ w) (h1 : w < 18446744073709551616) : xF (fBin .and Q) [.int .u64 w, .int .u64 3] K = K (.int .u64 (w % 4)) := by
 simpa using xAnd63 (K := K) (Q := Q) (k := 2) h0 h1 (by decide)
theorem and3 {K : Value → Prop} {Q : EqK} {w : Int} (h0 : 0 ≤ w) (h1 : w < 18446744073709551616) : xF (fBin .and Q) [.int .u64 w, .int .u64 7] K = K (.int .u64 (w % 8)) := by
 simpa using xAnd63 (K := K) (Q := Q) (k := 3) h0 h1 (by decide)
theorem and6 {K : Value → Prop} {Q : EqK} {w : Int} (h0 : 0 ≤ w) (h1 : w < 18446744073709551616) : xF (fBin .and Q) [.int .u64 w, .int .u64 63] K = K (.int .u64 (w % 64)) := by
 simpa using xAnd63 (K := K) (Q := Q) (k := 6) h0 h1 (by decide)
theorem and16 {K : Value → Prop} {Q : EqK} {w : Int} (h0 : 0 ≤ w) (h1 : w < 18446744073709551616) : xF (fBin .and Q) [.int .u64 w, .int .u64 65535] K = K (.int .u64 (w % 65536)) := by
 simpa using xAnd63 (K := K) (Q := Q) (k := 16) h0 h1 (by decide)
theorem and17 {K : Value → Prop} {Q : EqK} {w : Int} (h0 : 0 ≤ w) (h1 : w < 18446744073709551616) : xF (fBin .and Q) [.int .u64 w, .int .u64 131071] K = K (.int .u64 (w % 131072)) := by
 simpa using xAnd63 (K := K) (Q := Q) (k := 17) h0 h1 (by decide)
theorem and20 {K : Value → Prop} {Q : EqK} {w : Int} (h0 : 0 ≤ w) (h1 : w < 18446744073709551616) : xF (fBin .and Q) [.int .u64 w, .int .u64 1048575] K = K (.int .u64 (w % 1048576)) := by
 simpa using xAnd63 (K := K) (Q := Q) (k := 20) h0 h1 (by decide)
theorem and22 {K : Value → Prop} {Q : EqK} {w : Int} (h0 : 0 ≤ w) (h1 : w < 18446744073709551616) : xF (fBin .and Q) [.int .u64 w, .int .u64 4194303] K = K (.int .u64 (w % 4194304)) := by
 simpa using xAnd63 (K := K) (Q := Q) (k := 22) h0 h1 (by decide)
theorem and36 {K : Value → Prop} {Q : EqK} {w : Int} (h0 : 0 ≤ w) (h1 : w < 18446744073709551616) : xF (fBin .and Q) [.int .u64 w, .int .u64 68719476735] K = K (.int .u64 (w % 68719476736)) := by
 simpa using xAnd63 (K := K) (Q := Q) (k := 36) h0 h1 (by decide)
theorem and40 {K : Value → Prop} {Q : EqK} {w : Int} (h0 : 0 ≤ w) (h1 : w < 18446744073709551616) : xF (fBin .and Q) [.int .u64 w, .int .u64 1099511627775] K = K (.int .u64 (w % 1099511627776)) := by
 simpa using xAnd63 (K := K) (Q := Q) (k := 40) h0 h1 (by decide)
theorem and1 {K : Value → Prop} {Q : EqK} {w : Int} (h0 : 0 ≤ w) (h1 : w < 18446744073709551616) : xF (fBin .and Q) [.int .u64 w, .int .u64 1] K = K (.int .u64 (w % 2)) := by
 simpa using xAnd63 (K := K) (Q := Q) (k := 1) h0 h1 (by decide)
theorem xShrG {K : Value → Prop} {Q : EqK} {k' : IntKind} {s : Nat} {w : Int} (h0 : 0 ≤ w) (hs : s ≤ 64) : xF (fBin .shr Q) [.int .u64 w, .int k' (s : Int)] K = K (.int .u64 (w / 2 ^ s)) := by
 have h : ¬ ((s : Int) < 0) := by omega
 have hm : min s IntKind.u64.bits = s := Nat.min_eq_left hs
 simp only [xF, fBin, isSh, shI, if_true, if_neg h, Int.toNat_natCast, hm]
 rw [Int.fdiv_eq_ediv_of_nonneg _ (by exact Int.le_of_lt (Int.pow_pos (by decide)))]
theorem xShlG {K : Value → Prop} {Q : EqK} {k' : IntKind} {s : Nat} {w : Int} (h0 : 0 ≤ w) (h1 : w * 2 ^ s < 18446744073709551616) (hs : s ≤ 64) : xF (fBin .shl Q) [.int .u64 w, .int k' (s : Int)] K = K (.int .u64 (w * 2 ^ s)) := by
 have h : ¬ ((s : Int) < 0) := by omega
 have hm : min s IntKind.u64.bits = s := Nat.min_eq_left hs
 simp only [xF, fBin, isSh, shI, if_true, if_neg h, Int.toNat_natCast, hm]
 rw [IntWalk.u64_in _ ⟨Int.mul_nonneg h0 (Int.le_of_lt (Int.pow_pos (by decide))), by omega⟩]
theorem xOrG {K : Value → Prop} {Q : EqK} {s : Nat} {a c : Int} (h0 : 0 ≤ a) (h1 : a < 2 ^ s) (h2 : 0 ≤ c) (h3 : a + c * 2 ^ s < 18446744073709551616) :
  xF (fBin .or Q) [.int .u64 a, .int .u64 (c * 2 ^ s)] K = K (.int .u64 (a + c * 2 ^ s)) := by
 obtain ⟨m, rfl⟩ := Int.eq_ofNat_of_zero_le h0
 obtain ⟨n, rfl⟩ := Int.eq_ofNat_of_zero_le h2
 have e : (n : Int) * 2 ^ s = ((n * 2 ^ s : Nat) : Int) := by push_cast; rfl
 rw [e] at h3 ⊢
 have hm : m < 2 ^ s := by exact_mod_cast h1
 have q : (BitVec.ofInt 64 (m : Int) ||| BitVec.ofInt 64 ((n * 2 ^ s : Nat) : Int)).toNat = m + n * 2 ^ s := by
  rw [BitVec.toNat_or, BitVec.toNat_ofInt, BitVec.toNat_ofInt]
  have h4 : ((m : Int) % ((2 ^ 64 : Nat) : Int)).toNat = m := by omega
  have h5 : (((n * 2 ^ s : Nat) : Int) % ((2 ^ 64 : Nat) : Int)).toNat = n * 2 ^ s := by omega
  rw [h4, h5, Nat.mul_comm n, Nat.or_comm, ← Nat.two_pow_add_eq_or_of_lt hm, Nat.add_comm]
 simp only [xF, fBin, isSh, binI, Bool.false_eq_true, if_false, if_true]
 show K (.int .u64 (IntKind.u64.wrap ((BitVec.ofInt 64 (m : Int) ||| BitVec.ofInt 64 ((n * 2 ^ s : Nat) : Int)).toNat : Int))) = _
 rw [q, IntWalk.u64_in _ (by omega)]
 push_cast
 rfl
theorem shr2 {K : Value → Prop} {Q : EqK} {k' : IntKind} {w : Int} (h0 : 0 ≤ w) : xF (fBin .shr Q) [.int .u64 w, .int k' 2] K = K (.int .u64 (w / 4)) := by
 simpa using xShrG (K := K) (Q := Q) (k' := k') (s := 2) h0 (by decide)
theorem shl2 {K : Value → Prop} {Q : EqK} {k' : IntKind} {w : Int} (h0 : 0 ≤ w) (h1 : w * 4 < 18446744073709551616) : xF (fBin .shl Q) [.int .u64 w, .int k' 2] K = K (.int .u64 (w * 4)) := by
 simpa using xShlG (K := K) (Q := Q) (k' := k') (s := 2) h0 (by simpa using h1) (by decide)
theorem or2 {K : Value → Prop} {Q : EqK} {a c : Int} (h0 : 0 ≤ a) (h1 : a < 4) (h2 : 0 ≤ c) (h3 : a + c * 4 < 18446744073709551616) : xF (fBin .or Q) [.int .u64 a, .int .u64 (c * 4)] K = K (.int .u64 (a + c * 4)) := by
 simpa using xOrG (K := K) (Q := Q) (s := 2) h0 (by simpa using h1) h2 (by simpa using h3)
theorem shr3 {K : Value → Prop} {Q : EqK} {k' : IntKind} {w : Int} (h0 : 0 ≤ w) : xF (fBin .shr Q) [.int .u64 w, .int k' 3] K = K (.int .u64 (w / 8)) := by
 simpa using xShrG (K := K) (Q := Q) (k' := k') (s := 3) h0 (by decide)
theorem shl3 {K : Value → Prop} {Q : EqK} {k' : IntKind} {w : Int} (h0 : 0 ≤ w) (h1 : w * 8 < 18446744073709551616) : xF (fBin .shl Q) [.int .u64 w, .int k' 3] K = K (.int .u64 (w * 8)) := by
 simpa using xShlG (K := K) (Q := Q) (k' := k') (s := 3) h0 (by simpa using h1) (by decide)
theorem or3 {K : Value → Prop} {Q : EqK} {a c : Int} (h0 : 0 ≤ a) (h1 : a < 8) (h2 : 0 ≤ c) (h3 : a + c * 8 < 18446744073709551616) : xF (fBin .or Q) [.int .u64 a, .int .u64 (c * 8)] K = K (.int .u64 (a + c * 8)) := by
 simpa using xOrG (K := K) (Q := Q) (s := 3) h0 (by simpa using h1) h2 (by simpa using h3)
theorem shr8 {K : Value → Prop} {Q : EqK} {k' : IntKind} {w : Int} (h0 : 0 ≤ w) : xF (fBin .shr Q) [.int .u64 w, .int k' 8] K = K (.int .u64 (w / 256)) := by
 simpa using xShrG (K := K) (Q := Q) (k' := k') (s := 8) h0 (by decide)
theorem shl8 {K : Value → Prop} {Q : EqK} {k' : IntKind} {w : Int} (h0 : 0 ≤ w) (h1 : w * 256 < 18446744073709551616) : xF (fBin .shl Q) [.int .u64 w, .int k' 8] K = K (.int .u64 (w * 256)) := by
 simpa using xShlG (K := K) (Q := Q) (k' := k') (s := 8) h0 (by simpa using h1) (by decide)
theorem or8 {K : Value → Prop} {Q : EqK} {a c : Int} (h0 : 0 ≤ a) (h1 : a < 256) (h2 : 0 ≤ c) (h3 : a + c * 256 < 18446744073709551616) : xF (fBin .or Q) [.int .u64 a, .int .u64 (c * 256)] K = K (.int .u64 (a + c * 256)) := by
 simpa using xOrG (K := K) (Q := Q) (s := 8) h0 (by simpa using h1) h2 (by simpa using h3)
theorem shr16 {K : Value → Prop} {Q : EqK} {k' : IntKind} {w : Int} (h0 : 0 ≤ w) : xF (fBin .shr Q) [.int .u64 w, .int k' 16] K = K (.int .u64 (w / 65536)) := by
 simpa using xShrG (K := K) (Q := Q) (k' := k') (s := 16) h0 (by decide)
theorem shl16 {K : Value → Prop} {Q : EqK} {k' : IntKind} {w : Int} (h0 : 0 ≤ w) (h1 : w * 65536 < 18446744073709551616) : xF (fBin .shl Q) [.int .u64 w, .int k' 16] K = K (.int .u64 (w * 65536)) := by
 simpa using xShlG (K := K) (Q := Q) (k' := k') (s := 16) h0 (by simpa using h1) (by decide)
theorem or16 {K : Value → Prop} {Q : EqK} {a c : Int} (h0 : 0 ≤ a) (h1 : a < 65536) (h2 : 0 ≤ c) (h3 : a + c * 65536 < 18446744073709551616) : xF (fBin .or Q) [.int .u64 a, .int .u64 (c * 65536)] K = K (.int .u64 (a + c * 65536)) := by
 simpa using xOrG (K := K) (Q := Q) (s := 16) h0 (by simpa using h1) h2 (by simpa using h3)
theorem shr17 {K : Value → Prop} {Q : EqK} {k' : IntKind} {w : Int} (h0 : 0 ≤ w) : xF (fBin .shr Q) [.int .u64 w, .int k' 17] K = K (.int .u64 (w / 131072)) := by
 simpa using xShrG (K := K) (Q := Q) (k' := k') (s := 17) h0 (by decide)
theorem shl17 {K : Value → Prop} {Q : EqK} {k' : IntKind} {w : Int} (h0 : 0 ≤ w) (h1 : w * 131072 < 18446744073709551616) : xF (fBin .shl Q) [.int .u64 w, .int k' 17] K = K (.int .u64 (w * 131072)) := by
 simpa using xShlG (K := K) (Q := Q) (k' := k') (s := 17) h0 (by simpa using h1) (by decide)
theorem or17 {K : Value → Prop} {Q : EqK} {a c : Int} (h0 : 0 ≤ a) (h1 : a < 131072) (h2 : 0 ≤ c) (h3 : a + c * 131072 < 18446744073709551616) : xF (fBin .or Q) [.int .u64 a, .int .u64 (c * 131072)] K = K (.int .u64 (a + c * 131072)) := by
 simpa using xOrG (K := K) (Q := Q) (s := 17) h0 (by simpa using h1) h2 (by simpa using h3)
theorem shr18 {K : Value → Prop} {Q : EqK} {k' : IntKind} {w : Int} (h0 : 0 ≤ w) : xF (fBin .shr Q) [.int .u64 w, .int k' 18] K = K (.int .u64 (w / 262144)) := by
 simpa using xShrG (K := K) (Q := Q) (k' := k') (s := 18) h0 (by decide)
theorem shl18 {K : Value → Prop} {Q : EqK} {k' : IntKind} {w : Int} (h0 : 0 ≤ w) (h1 : w * 262144 < 18446744073709551616) : xF (fBin .shl Q) [.int .u64 w, .int k' 18] K = K (.int .u64 (w * 262144)) := by
 simpa using xShlG (K := K) (Q := Q) (k' := k') (s := 18) h0 (by simpa using h1) (by decide)
theorem or18 {K : Value → Prop} {Q : EqK} {a c : Int} (h0 : 0 ≤ a) (h1 : a < 262144) (h2 : 0 ≤ c) (h3 : a + c * 262144 < 18446744073709551616) : xF (fBin .or Q) [.int .u64 a, .int .u64 (c * 262144)] K = K (.int .u64 (a + c * 262144)) := by
 simpa using xOrG (K := K) (Q := Q) (s := 18) h0 (by simpa using h1) h2 (by simpa using h3)
theorem shr23 {K : Value → Prop} {Q : EqK} {k' : IntKind} {w : Int} (h0 : 0 ≤ w) : xF (fBin .shr Q) [.int .u64 w, .int k' 23] K = K (.int .u64 (w / 8388608)) := by
 simpa using xShrG (K := K) (Q := Q) (k' := k') (s := 23) h0 (by decide)
theorem shl23 {K : Value → Prop} {Q : EqK} {k' : IntKind} {w : Int} (h0 : 0 ≤ w) (h1 : w * 8388608 < 18446744073709551616) : xF (fBin .shl Q) [.int .u64 w, .int k' 23] K = K (.int .u64 (w * 8388608)) := by
 simpa using xShlG (K := K) (Q := Q) (k' := k') (s := 23) h0 (by simpa using h1) (by decide)
theorem or23 {K : Value → Prop} {Q : EqK} {a c : Int} (h0 : 0 ≤ a) (h1 : a < 8388608) (h2 : 0 ≤ c) (h3 : a + c * 8388608 < 18446744073709551616) : xF (fBin .or Q) [.int .u64 a, .int .u64 (c * 8388608)] K = K (.int .u64 (a + c * 8388608)) := by
 simpa using xOrG (K := K) (Q := Q) (s := 23) h0 (by simpa using h1) h2 (by simpa using h3)
theorem shr28 {K : Value → Prop} {Q : EqK} {k' : IntKind} {w : Int} (h0 : 0 ≤ w) : xF (fBin .shr Q) [.int .u64 w, .int k' 28] K = K (.int .u64 (w / 268435456)) := by
 simpa using xShrG (K := K) (Q := Q) (k' := k') (s := 28) h0 (by decide)
theorem shl28 {K : Value → Prop} {Q : EqK} {k' : IntKind} {w : Int} (h0 : 0 ≤ w) (h1 : w * 268435456 < 18446744073709551616) : xF (fBin .shl Q) [.int .u64 w, .int k' 28] K = K (.int .u64 (w * 268435456)) := by
 simpa using xShlG (K := K) (Q := Q) (k' := k') (s := 28) h0 (by simpa using h1) (by decide)
theorem or28 {K : Value → Prop} {Q : EqK} {a c : Int} (h0 : 0 ≤ a) (h1 : a < 268435456) (h2 : 0 ≤ c) (h3 : a + c * 268435456 < 18446744073709551616) : xF (fBin .or Q) [.int .u64 a, .int .u64 (c * 268435456)] K = K (.int .u64 (a + c * 268435456)) := by
 simpa using xOrG (K := K) (Q := Q) (s := 28) h0 (by simpa using h1) h2 (by simpa using h3)
theorem shr32 {K : Value → Prop} {Q : EqK} {k' : IntKind} {w : Int} (h0 : 0 ≤ w) : xF (fBin .shr Q) [.int .u64 w, .int k' 32] K = K (.int .u64 (w / 4294967296)) := by
 simpa using xShrG (K := K) (Q := Q) (k' := k') (s := 32) h0 (by decide)
theorem shr34 {K : Value → Prop} {Q : EqK} {k' : IntKind} {w : Int} (h0 : 0 ≤ w) : xF (fBin .shr Q) [.int .u64 w, .int k' 34] K = K (.int .u64 (w / 17179869184)) := by
 simpa using xShrG (K := K) (Q := Q) (k' := k') (s := 34) h0 (by decide)
theorem shl34 {K : Value → Prop} {Q : EqK} {k' : IntKind} {w : Int} (h0 : 0 ≤ w) (h1 : w * 17179869184 < 18446744073709551616) : xF (fBin .shl Q) [.int .u64 w, .int k' 34] K = K (.int .u64 (w * 17179869184)) := by
 simpa using xShlG (K := K) (Q := Q) (k' := k') (s := 34) h0 (by simpa using h1) (by decide)
theorem or34 {K : Value → Prop} {Q : EqK} {a c : Int} (h0 : 0 ≤ a) (h1 : a < 17179869184) (h2 : 0 ≤ c) (h3 : a + c * 17179869184 < 18446744073709551616) : xF (fBin .or Q) [.int .u64 a, .int .u64 (c * 17179869184)] K = K (.int .u64 (a + c * 17179869184)) := by
 simpa using xOrG (K := K) (Q := Q) (s := 34) h0 (by simpa using h1) h2 (by simpa using h3)
theorem shr39 {K : Value → Prop} {Q : EqK} {k' : IntKind} {w : Int} (h0 : 0 ≤ w) : xF (fBin .shr Q) [.int .u64 w, .int k' 39] K = K (.int .u64 (w / 549755813888)) := by
 simpa using xShrG (K := K) (Q := Q) (k' := k') (s := 39) h0 (by decide)
theorem shl39 {K : Value → Prop} {Q : EqK} {k' : IntKind} {w : Int} (h0 : 0 ≤ w) (h1 : w * 549755813888 < 18446744073709551616) : xF (fBin .shl Q) [.int .u64 w, .int k' 39] K = K (.int .u64 (w * 549755813888)) := by
 simpa using xShlG (K := K) (Q := Q) (k' := k') (s := 39) h0 (by simpa using h1) (by decide)
theorem or39 {K : Value → Prop} {Q : EqK} {a c : Int} (h0 : 0 ≤ a) (h1 : a < 549755813888) (h2 : 0 ≤ c) (h3 : a + c * 549755813888 < 18446744073709551616) : xF (fBin .or Q) [.int .u64 a, .int .u64 (c * 549755813888)] K = K (.int .u64 (a + c * 549755813888)) := by
 simpa using xOrG (K := K) (Q := Q) (s := 39) h0 (by simpa using h1) h2 (by simpa using h3)
theorem shr40 {K : Value → Prop} {Q : EqK} {k' : IntKind} {w : Int} (h0 : 0 ≤ w) : xF (fBin .shr Q) [.int .u64 w, .int k' 40] K = K (.int .u64 (w / 1099511627776)) := by
 simpa using xShrG (K := K) (Q := Q) (k' := k') (s := 40) h0 (by decide)
theorem shl40 {K : Value → Prop} {Q : EqK} {k' : IntKind} {w : Int} (h0 : 0 ≤ w) (h1 : w * 1099511627776 < 18446744073709551616) : xF (fBin .shl Q) [.int .u64 w, .int k' 40] K = K (.int .u64 (w * 1099511627776)) := by
 simpa using xShlG (K := K) (Q := Q) (k' := k') (s := 40) h0 (by simpa using h1) (by decide)
theorem or40 {K : Value → Prop} {Q : EqK} {a c : Int} (h0 : 0 ≤ a) (h1 : a < 1099511627776) (h2 : 0 ≤ c) (h3 : a + c * 1099511627776 < 18446744073709551616) : xF (fBin .or Q) [.int .u64 a, .int .u64 (c * 1099511627776)] K = K (.int .u64 (a + c * 1099511627776)) := by
 simpa using xOrG (K := K) (Q := Q) (s := 40) h0 (by simpa using h1) h2 (by simpa using h3)
theorem shr50 {K : Value → Prop} {Q : EqK} {k' : IntKind} {w : Int} (h0 : 0 ≤ w) : xF (fBin .shr Q) [.int .u64 w, .int k' 50] K = K (.int .u64 (w / 1125899906842624)) := by
 simpa using xShrG (K := K) (Q := Q) (k' := k') (s := 50) h0 (by decide)
theorem or50 {K : Value → Prop} {Q : EqK} {a c : Int} (h0 : 0 ≤ a) (h1 : a < 1125899906842624) (h2 : 0 ≤ c) (h3 : a + c * 1125899906842624 < 18446744073709551616) : xF (fBin .or Q) [.int .u64 a, .int .u64 (c * 1125899906842624)] K = K (.int .u64 (a + c * 1125899906842624)) := by
 simpa using xOrG (K := K) (Q := Q) (s := 50) h0 (by simpa using h1) h2 (by simpa using h3)
theorem shr63 {K : Value → Prop} {Q : EqK} {k' : IntKind} {w : Int} (h0 : 0 ≤ w) : xF (fBin .shr Q) [.int .u64 w, .int k' 63] K = K (.int .u64 (w / 9223372036854775808)) := by
 simpa using xShrG (K := K) (Q := Q) (k' := k') (s := 63) h0 (by decide)
def cl (n m : Int) : Int := min (max n 0) m
theorem cl_nn {n m : Int} (h : 0 ≤ m) : 0 ≤ cl n m := by unfold cl; omega
theorem cl_le {n m : Int} : cl n m ≤ m := by unfold cl; omega
theorem cl_in {n m : Int} (h0 : 0 ≤ n) (h1 : n ≤ m) : cl n m = n := by unfold cl; omega
theorem c_fit {n m : Int} (h0 : 0 ≤ m) (h1 : m < 18446744073709551616) : s_cq [.int .i64 n, .int .i64 m] K σ = K (.int .u64 (cl n m)) σ := by
 simp only [s_cq, w_cq, ruS, Nat.reduceAdd, reduceIte, Int.reduceLT, Int.reduceLE, Int.reduceEq, Int.reduceNeg, Int.reduceAdd, Int.reduceSub]
 rw [IntWalk.u64_in _ (by omega)]; rfl
def putTop (s c : Int) : Int := cl (min s 65535 + 1) 65536 + cl c 68719476735 * 131072
theorem putTop_in (s c : Int) : 0 ≤ putTop s c ∧ putTop s c < 18446744073709551616 := by unfold putTop cl; omega
theorem c_PutTop {s c : Int} (h : -9223372036854775808 ≤ s) : s_cn [.int .i64 s, .int .i64 c] K σ = K (.int .u64 (putTop s c)) σ := by
 simp only [s_cn, w_cn, ruS, Nat.reduceAdd, reduceIte, Int.reduceLT, Int.reduceLE, Int.reduceEq, Int.reduceNeg, Int.reduceAdd, Int.reduceSub]
 have h1 := @cl_le (min s 65535 + 1) 65536
 have h2 := @cl_nn (min s 65535 + 1) 65536 (by decide)
 have h3 := @cl_le c 68719476735
 have h4 := @cl_nn c 68719476735 (by decide)
 rw [IntWalk.i64_in _ (by omega), c_fit (by decide) (by decide), c_fit (by decide) (by decide), shl17 h4 (by omega), or17 h2 (by omega) h4 (by omega)]
 rfl
def topS (w : Int) : Int := w % 131072 - 1
def topN (w : Int) : Int := w / 131072 % 68719476736
theorem c_Top {w : Int} (h0 : 0 ≤ w) (h1 : w < 18446744073709551616) : s_cp [.int .u64 w] K σ = K (.tuple #[.int .i64 (topS w), .int .i64 (topN w)]) σ := by
 simp only [s_cp, w_cp, ruS, Nat.reduceAdd, reduceIte, Int.reduceLT, Int.reduceLE, Int.reduceEq, Int.reduceNeg, Int.reduceAdd, Int.reduceSub]
 rw [and17 h0 h1]
 simp only [ruS, Nat.reduceAdd, reduceIte, Int.reduceLT, Int.reduceLE, Int.reduceEq, Int.reduceNeg, Int.reduceAdd, Int.reduceSub]
 rw [shr17 h0, and36 (by omega) (by omega)]
 simp only [ruS, Nat.reduceAdd, reduceIte, Int.reduceLT, Int.reduceLE, Int.reduceEq, Int.reduceNeg, Int.reduceAdd, Int.reduceSub]
 rw [IntWalk.i64_in (w % 131072) (by omega), IntWalk.i64_in (w % 131072 - 1) (by omega), IntWalk.i64_in (w / 131072 % 68719476736) (by omega)]
 rfl
def putSlot (st ad ge ve : Int) : Int := cl st 7 + cl ad 1048575 * 8 + cl ge 65535 * 8388608 + cl ve 4194303 * 549755813888
theorem putSlot_in (st ad ge ve : Int) : 0 ≤ putSlot st ad ge ve ∧ putSlot st ad ge ve < 18446744073709551616 := by unfold putSlot cl; omega
theorem c_PutSlot {st ad ge ve : Int} : s_cm [.agg #[.int .i64 st, .int .i64 ad, .int .i64 ge, .int .i64 ve]] K σ = K (.int .u64 (putSlot st ad ge ve)) σ := by
 simp only [s_cm, w_cm, ruS, ruL, ruX, Nat.reduceAdd, reduceIte, Int.reduceLT, Int.reduceLE, Int.reduceEq, Int.reduceNeg, Int.reduceAdd, Int.reduceSub, Nat.reduceLeDiff]
 have h1 := @cl_le st 7
 have h2 := @cl_nn st 7 (by decide)
 have h3 := @cl_le ad 1048575
 have h4 := @cl_nn ad 1048575 (by decide)
 have h5 := @cl_le ge 65535
 have h6 := @cl_nn ge 65535 (by decide)
 have h7 := @cl_le ve 4194303
 have h8 := @cl_nn ve 4194303 (by decide)
 rw [c_fit (by decide) (by decide), c_fit (by decide) (by decide), shl3 h4 (by omega), or3 h2 (by omega) h4 (by omega), c_fit (by decide) (by decide), shl23 h6 (by omega), or23 (by omega) (by omega) h6 (by omega),
  c_fit (by decide) (by decide), shl39 h8 (by omega), or39 (by omega) (by omega) h8 (by omega)]
 rfl
structure isA (N : Nm) (A : Ar) (σ : Mem) : Prop where
 m : σ.get N.m = some ⟨A.mc N, true⟩
 w : σ.get N.w = some A.wb
 t : σ.get N.t = some A.tb
def Ext (σ τ : Mem) : Prop := ∀ i b, σ.get i = some b → τ.get i = some b
def Keep (L : List Nat) (σ τ : Mem) : Prop := ∀ i b, σ.get i = some b → i ∉ L → τ.get i = some b
theorem Ext.refl : Ext σ σ := fun _ _ h => h
theorem Ext.trans {τ υ : Mem} (h : Ext σ τ) (k : Ext τ υ) : Ext σ υ := fun i b q => k i b (h i b q)
theorem Keep.refl {L : List Nat} : Keep L σ σ := fun _ _ h _ => h
theorem Keep.trans {L : List Nat} {τ υ : Mem} (h : Keep L σ τ) (k : Keep L τ υ) : Keep L σ υ := fun i b q n => k i b (h i b q n) n
theorem Keep.mono {L L' : List Nat} {τ : Mem} (h : Keep L σ τ) (hl : ∀ i ∈ L, i ∈ L') : Keep L' σ τ := fun i b q n => h i b q fun hi => n (hl i hi)
theorem Ext.keep {L : List Nat} {τ : Mem} (h : Ext σ τ) : Keep L σ τ := fun i b q _ => h i b q
theorem Ext.fresh {id : Nat} {b : Blk} (h : σ.get id = none) : Ext σ (σ.set id b) := by
 intro i c hi
 rw [Mem.get_set_ne _ _ (by rintro rfl; rw [h] at hi; cases hi)]
 exact hi
theorem isA_put (h : N.ok) : isA N A (putA N A σ) := ⟨putA_m, putA_w h, putA_t h⟩
theorem isA.eq (h : isA N A σ) : σ = putA N A σ := by
 unfold putA
 rw [Mem.set_self h.t, Mem.set_self h.w, Mem.set_self h.m]
theorem isA.ext {τ : Mem} (h : isA N A σ) (k : Ext σ τ) : isA N A τ := ⟨k _ _ h.m, k _ _ h.w, k _ _ h.t⟩
def Nm.l (N : Nm) : List Nat := [N.m, N.w, N.t]
theorem isA.keep {L : List Nat} {τ : Mem} (h : isA N A σ) (k : Keep L σ τ) (hd : N.m ∉ L ∧ N.w ∉ L ∧ N.t ∉ L) : isA N A τ := ⟨k _ _ h.m hd.1, k _ _ h.w hd.2.1, k _ _ h.t hd.2.2⟩
theorem Keep.put : Keep N.l σ (putA N A σ) := by
 intro i b hi hn
 simp only [Nm.l, List.mem_cons, List.not_mem_nil, or_false, not_or] at hn
 rw [putA_ne hn.1 hn.2.1 hn.2.2]; exact hi
theorem isA.fresh (h : isA N A σ) {id : Nat} (hid : σ.get id = none) : id ≠ N.m ∧ id ≠ N.w ∧ id ≠ N.t :=
 ⟨fun e => (by rw [e, h.m] at hid; cases hid), fun e => (by rw [e, h.w] at hid; cases hid), fun e => (by rw [e, h.t] at hid; cases hid)⟩
structure Cf.ok (c : Cf) : Prop where
 T : 1 ≤ c.T ∧ c.T ≤ 8
 S : 1 ≤ c.S ∧ c.S ≤ 65536
 C : 1 ≤ c.C ∧ c.C ≤ 64
 W : 17 ≤ c.W ∧ c.W ≤ 256
 G : 1 ≤ c.G ∧ c.G ≤ 65535
 P : 0 ≤ c.P ∧ c.P ≤ 1000
 R : 1 ≤ c.R ∧ c.R ≤ 16
def Cf.slot (c : Cf) (s : Int) : Int := 6 + c.T + 2 * s
def Cf.chunk (c : Cf) (k : Int) : Int := 6 + c.T + 2 * c.S + 3 * k
def Cf.base (c : Cf) (k : Int) : Int := 6 + c.T + 2 * c.S + 3 * c.C + c.W * k
def Cf.len (c : Cf) : Int := c.base c.C
theorem mulW {c : Cf} (h : c.ok) {k : Int} (h0 : 0 ≤ k) (h1 : k ≤ 1048576) : 0 ≤ c.W * k ∧ c.W * k ≤ 268435456 := by
 have hW := h.W
 refine ⟨Int.mul_nonneg (by omega) h0, ?_⟩
 calc c.W * k ≤ 256 * k := Int.mul_le_mul_of_nonneg_right hW.2 h0
  _ ≤ 268435456 := by omega
theorem c_Epoch : s_bi [] K σ = K (.int .i64 0) σ := by simp only [s_bi, w_bi, ruS, Nat.reduceAdd, reduceIte, Int.reduceLT, Int.reduceLE, Int.reduceEq, Int.reduceNeg, Int.reduceAdd, Int.reduceSub]
theorem c_lTop : s_bq [] K σ = K (.int .i64 1) σ := by simp only [s_bq, w_bq, ruS, Nat.reduceAdd, reduceIte, Int.reduceLT, Int.reduceLE, Int.reduceEq, Int.reduceNeg, Int.reduceAdd, Int.reduceSub]
theorem c_Open {k : Int} (h0 : 0 ≤ k) (h1 : k ≤ 65536) : s_bm [.int .i64 k] K σ = K (.int .i64 (2 + k)) σ := by
 simp only [s_bm, w_bm, ruS, Nat.reduceAdd, reduceIte, Int.reduceLT, Int.reduceLE, Int.reduceEq, Int.reduceNeg, Int.reduceAdd, Int.reduceSub]
 rw [IntWalk.i64_in _ (by omega)]
theorem c_Pin {k : Int} (h0 : 0 ≤ k) (h1 : k ≤ 65536) : s_bn [.int .i64 k] K σ = K (.int .i64 (6 + k)) σ := by
 simp only [s_bn, w_bn, ruS, Nat.reduceAdd, reduceIte, Int.reduceLT, Int.reduceLE, Int.reduceEq, Int.reduceNeg, Int.reduceAdd, Int.reduceSub]
 rw [IntWalk.i64_in _ (by omega)]
theorem c_Slot (h : C.ok) {s : Int} (h0 : 0 ≤ s) (h1 : s ≤ 65536) : s_bp [C.v, .int .i64 s] K σ = K (.int .i64 (C.slot s)) σ := by
 have := h.T
 simp only [s_bp, w_bp, Cf.v, ruS, ruL, ruX, Nat.reduceAdd, reduceIte, Int.reduceLT, Int.reduceLE, Int.reduceEq, Int.reduceNeg, Int.reduceAdd, Int.reduceSub, Nat.reduceLeDiff]
 rw [IntWalk.i64_in (6 + C.T) (by omega), IntWalk.i64_in (2 * s) (by omega), IntWalk.i64_in _ (by omega)]; rfl
theorem c_Chunk (h : C.ok) {s : Int} (h0 : 0 ≤ s) (h1 : s ≤ 65536) : s_bb [C.v, .int .i64 s] K σ = K (.int .i64 (C.chunk s)) σ := by
 have := h.T
 have := h.S
 simp only [s_bb, w_bb, Cf.v, ruS, ruL, ruX, Nat.reduceAdd, reduceIte, Int.reduceLT, Int.reduceLE, Int.reduceEq, Int.reduceNeg, Int.reduceAdd, Int.reduceSub, Nat.reduceLeDiff]
 rw [IntWalk.i64_in (6 + C.T) (by omega), IntWalk.i64_in (2 * C.S) (by omega), IntWalk.i64_in (3 * s) (by omega), IntWalk.i64_in (6 + C.T + 2 * C.S) (by omega), IntWalk.i64_in _ (by omega)]; rfl
theorem c_Base (h : C.ok) {s : Int} (h0 : 0 ≤ s) (h1 : s ≤ 65536) : s_a9 [C.v, .int .i64 s] K σ = K (.int .i64 (C.base s)) σ := by
 have := h.T
 have := h.S
 have := h.C
 have := mulW h h0 (by omega)
 simp only [s_a9, w_a9, Cf.v, ruS, ruL, ruX, Nat.reduceAdd, reduceIte, Int.reduceLT, Int.reduceLE, Int.reduceEq, Int.reduceNeg, Int.reduceAdd, Int.reduceSub, Nat.reduceLeDiff]
 rw [IntWalk.i64_in (6 + C.T) (by omega), IntWalk.i64_in (2 * C.S) (by omega), IntWalk.i64_in (3 * C.C) (by omega), IntWalk.i64_in (6 + C.T + 2 * C.S) (by omega), IntWalk.i64_in (6 + C.T + 2 * C.S + 3 * C.C) (by omega), IntWalk.i64_in (C.W * s) (by omega), IntWalk.i64_in _ (by omega)]; rfl
theorem c_lLen (h : C.ok) : s_bk [C.v] K σ = K (.int .i64 C.len) σ := by
 have := h.C
 have e := fun (K : Value → Mem → Prop) σ => c_Base (K := K) (σ := σ) h (s := C.C) (by omega) (by omega)
 simp only [s_bk, w_bk, Cf.v, ruS, ruL, ruX, Nat.reduceAdd, reduceIte, Int.reduceLT, Int.reduceLE, Int.reduceEq, Int.reduceNeg, Int.reduceAdd, Int.reduceSub, Nat.reduceLeDiff] at e ⊢
 rw [e]; rfl
section
variable {K : Value → Prop}
theorem shl2_0 : xF (fBin .shl .no) [.int .i64 2, .int .i64 0] K = K (.int .i64 2) := nr rfl
theorem shl2_1 : xF (fBin .shl .no) [.int .i64 2, .int .i64 1] K = K (.int .i64 4) := nr rfl
theorem shl2_2 : xF (fBin .shl .no) [.int .i64 2, .int .i64 2] K = K (.int .i64 8) := nr rfl
theorem shl2_3 : xF (fBin .shl .no) [.int .i64 2, .int .i64 3] K = K (.int .i64 16) := nr rfl
end
theorem i64_1 : IntKind.i64.wrap 1 = 1 := nr rfl
theorem i64_2 : IntKind.i64.wrap 2 = 2 := nr rfl
theorem i64_3 : IntKind.i64.wrap 3 = 3 := nr rfl
theorem i64_4 : IntKind.i64.wrap 4 = 4 := nr rfl
theorem i64_5 : IntKind.i64.wrap 5 = 5 := nr rfl
theorem i64_9 : IntKind.i64.wrap 9 = 9 := nr rfl
theorem i64_17 : IntKind.i64.wrap 17 = 17 := nr rfl
def classOf (n : Int) : Int := if n < 1 then -1 else if n ≤ 2 then 0 else if n ≤ 4 then 1 else if n ≤ 8 then 2 else if n ≤ 16 then 3 else -1
theorem c_Class {n : Int} (hk : K (.int .i64 (classOf n)) σ) : s_bc [.int .i64 n] K σ := by
 simp only [s_bc, w_bc, ruS, Nat.reduceAdd, reduceIte, Int.reduceLT, Int.reduceLE, Int.reduceEq, Int.reduceNeg, Int.reduceAdd, Int.reduceSub]
 by_cases h : 1 ≤ n
 ·unfold classOf at hk
  rw [if_neg (by omega)] at hk
  refine xLoop_fold ?_
  simp only [w_layout_Class_l3, w_layout_Class_l3b, w_bc_j2, w_bc_j2b, w_bc_j1, w_bc_j1b, ruS, Nat.reduceAdd, reduceIte, Int.reduceLT, Int.reduceLE, Int.reduceEq, Int.reduceNeg, Int.reduceAdd, Int.reduceSub, h, shl2_0, i64_1]
  by_cases h1 : n ≤ 2
  ·rw [if_pos h1] at hk ⊢; exact hk
  rw [if_neg h1] at hk ⊢
  refine xLoop_fold ?_
  simp only [w_layout_Class_l3, w_layout_Class_l3b, w_bc_j2, w_bc_j2b, w_bc_j1, w_bc_j1b, ruS, Nat.reduceAdd, reduceIte, Int.reduceLT, Int.reduceLE, Int.reduceEq, Int.reduceNeg, Int.reduceAdd, Int.reduceSub, h, shl2_1, i64_2]
  by_cases h1 : n ≤ 4
  ·rw [if_pos h1] at hk ⊢; exact hk
  rw [if_neg h1] at hk ⊢
  refine xLoop_fold ?_
  simp only [w_layout_Class_l3, w_layout_Class_l3b, w_bc_j2, w_bc_j2b, w_bc_j1, w_bc_j1b, ruS, Nat.reduceAdd, reduceIte, Int.reduceLT, Int.reduceLE, Int.reduceEq, Int.reduceNeg, Int.reduceAdd, Int.reduceSub, h, shl2_2, i64_3]
  by_cases h1 : n ≤ 8
  ·rw [if_pos h1] at hk ⊢; exact hk
  rw [if_neg h1] at hk ⊢
  refine xLoop_fold ?_
  simp only [w_layout_Class_l3, w_layout_Class_l3b, w_bc_j2, w_bc_j2b, w_bc_j1, w_bc_j1b, ruS, Nat.reduceAdd, reduceIte, Int.reduceLT, Int.reduceLE, Int.reduceEq, Int.reduceNeg, Int.reduceAdd, Int.reduceSub, h, shl2_3, i64_4]
  by_cases h1 : n ≤ 16
  ·rw [if_pos h1] at hk ⊢; exact hk
  rw [if_neg h1] at hk ⊢
  refine xLoop_fold ?_
  simp only [w_layout_Class_l3, w_layout_Class_l3b, w_bc_j2, w_bc_j2b, w_bc_j1, w_bc_j1b, ruS, Nat.reduceAdd, reduceIte, Int.reduceLT, Int.reduceLE, Int.reduceEq, Int.reduceNeg, Int.reduceAdd, Int.reduceSub]
  exact hk
 ·unfold classOf at hk
  rw [if_pos (by omega)] at hk
  refine xLoop_fold ?_
  simp only [w_layout_Class_l3, w_layout_Class_l3b, w_bc_j2, w_bc_j2b, w_bc_j1, w_bc_j1b, ruS, Nat.reduceAdd, reduceIte, Int.reduceLT, Int.reduceLE, Int.reduceEq, Int.reduceNeg, Int.reduceAdd, Int.reduceSub, h, i64_1]
  refine xLoop_fold ?_
  simp only [w_layout_Class_l3, w_layout_Class_l3b, w_bc_j2, w_bc_j2b, w_bc_j1, w_bc_j1b, ruS, Nat.reduceAdd, reduceIte, Int.reduceLT, Int.reduceLE, Int.reduceEq, Int.reduceNeg, Int.reduceAdd, Int.reduceSub, h, i64_2]
  refine xLoop_fold ?_
  simp only [w_layout_Class_l3, w_layout_Class_l3b, w_bc_j2, w_bc_j2b, w_bc_j1, w_bc_j1b, ruS, Nat.reduceAdd, reduceIte, Int.reduceLT, Int.reduceLE, Int.reduceEq, Int.reduceNeg, Int.reduceAdd, Int.reduceSub, h, i64_3]
  refine xLoop_fold ?_
  simp only [w_layout_Class_l3, w_layout_Class_l3b, w_bc_j2, w_bc_j2b, w_bc_j1, w_bc_j1b, ruS, Nat.reduceAdd, reduceIte, Int.reduceLT, Int.reduceLE, Int.reduceEq, Int.reduceNeg, Int.reduceAdd, Int.reduceSub, h, i64_4]
  refine xLoop_fold ?_
  simp only [w_layout_Class_l3, w_layout_Class_l3b, w_bc_j2, w_bc_j2b, w_bc_j1, w_bc_j1b, ruS, Nat.reduceAdd, reduceIte, Int.reduceLT, Int.reduceLE, Int.reduceEq, Int.reduceNeg, Int.reduceAdd, Int.reduceSub]
  exact hk
def roomOf (k : Int) : Int := if k = 0 then 3 else if k = 1 then 5 else if k = 2 then 9 else 17
theorem c_Room {k : Int} (h0 : 0 ≤ k) (h1 : k ≤ 3) : s_bo [.int .i64 k] K σ = K (.int .i64 (roomOf k)) σ := by
 simp only [s_bo, w_bo, ruS, Nat.reduceAdd, reduceIte, Int.reduceLT, Int.reduceLE, Int.reduceEq, Int.reduceNeg, Int.reduceAdd, Int.reduceSub]
 rcases (show k = 0 ∨ k = 1 ∨ k = 2 ∨ k = 3 by omega) with rfl | rfl | rfl | rfl <;>
  simp only [shl2_0, shl2_1, shl2_2, shl2_3, ruS, Nat.reduceAdd, reduceIte, Int.reduceLT, Int.reduceLE, Int.reduceEq, Int.reduceNeg, Int.reduceAdd, Int.reduceSub, i64_3, i64_5, i64_9, i64_17] <;> rfl
end Go.Fl
namespace Go.Fl
open Go
set_option linter.unusedVariables false
set_option linter.unusedSimpArgs false
variable {N : Nm} {A B : Ar} {σ : Mem} {K : Value → Mem → Prop} {C : Cf} {who : Int}
def Cf.okB (c : Cf) : Bool :=
 (decide (1 ≤ c.T) && decide (c.T ≤ 8) && decide (1 ≤ c.S) && decide (c.S ≤ 65536)) && (decide (1 ≤ c.C) && decide (c.C ≤ 64) && decide (17 ≤ c.W) && decide (c.W ≤ 256)) &&
 (decide (1 ≤ c.G) && decide (c.G ≤ 65535) && decide (0 ≤ c.P) && decide (c.P ≤ 1000) && decide (1 ≤ c.R) && decide (c.R ≤ 16))
theorem Cf.okB_iff {c : Cf} : c.okB = true ↔ c.ok := by
 simp only [Cf.okB, Bool.and_eq_true, decide_eq_true_eq]
 constructor
 ·rintro ⟨⟨⟨⟨⟨a, b⟩, d⟩, e⟩, ⟨⟨f, g⟩, h⟩, i⟩, ⟨⟨⟨⟨j, k⟩, l⟩, m⟩, n⟩, o⟩
  exact ⟨⟨a, b⟩, ⟨d, e⟩, ⟨f, g⟩, ⟨h, i⟩, ⟨j, k⟩, ⟨l, m⟩, ⟨n, o⟩⟩
 ·rintro ⟨⟨a, b⟩, ⟨d, e⟩, ⟨f, g⟩, ⟨h, i⟩, ⟨j, k⟩, ⟨l, m⟩, ⟨n, o⟩⟩
  exact ⟨⟨⟨⟨⟨a, b⟩, d⟩, e⟩, ⟨⟨f, g⟩, h⟩, i⟩, ⟨⟨⟨⟨j, k⟩, l⟩, m⟩, n⟩, o⟩
theorem check_j3 {x y z : Bool} : w_ba_j3b K (.bool x) (.bool y) (.bool z) σ = K (.bool (x && y && z)) σ := by
 simp only [w_ba_j3b, ruS, ruL, ruX, Nat.reduceAdd, reduceIte, Int.reduceLT, Int.reduceLE, Int.reduceEq, Int.reduceNeg, Int.reduceAdd, Int.reduceSub, Nat.reduceLeDiff]
 cases x <;> cases y <;> cases z <;> simp only [ruS, ruL, ruX, Nat.reduceAdd, reduceIte, Int.reduceLT, Int.reduceLE, Int.reduceEq, Int.reduceNeg, Int.reduceAdd, Int.reduceSub, Nat.reduceLeDiff, Bool.and_true, Bool.and_false, Bool.false_and, Bool.true_and]
theorem check_j2 {x y : Bool} : w_ba_j2b K (.bool x) (.bool y) C.l σ = K (.bool (x && y && (decide (1 ≤ C.G) && decide (C.G ≤ 65535) && decide (0 ≤ C.P) && decide (C.P ≤ 1000) && decide (1 ≤ C.R) && decide (C.R ≤ 16)))) σ := by
 simp only [w_ba_j2b, w_ba_j3, Cf.l, ruS, ruL, ruX, Nat.reduceAdd, reduceIte, Int.reduceLT, Int.reduceLE, Int.reduceEq, Int.reduceNeg, Int.reduceAdd, Int.reduceSub, Nat.reduceLeDiff, check_j3]
 by_cases h1 : 1 ≤ C.G <;> by_cases h2 : C.G ≤ 65535 <;> by_cases h3 : 0 ≤ C.P <;> by_cases h4 : C.P ≤ 1000 <;> by_cases h5 : 1 ≤ C.R <;>
  simp only [h1, h2, h3, h4, h5, ruS, ruL, ruX, Nat.reduceAdd, reduceIte, Int.reduceLT, Int.reduceLE, Int.reduceEq, Int.reduceNeg, Int.reduceAdd, Int.reduceSub, Nat.reduceLeDiff, check_j3, Bool.and_true, Bool.and_false, Bool.false_and, Bool.true_and]
theorem c_Check : s_ba [C.v] K σ = K (.bool C.okB) σ := by
 have j1 : ∀ {x : Bool}, w_ba_j1b K (.bool x) C.l σ = K (.bool (x && (decide (1 ≤ C.C) && decide (C.C ≤ 64) && decide (17 ≤ C.W) && decide (C.W ≤ 256)) && (decide (1 ≤ C.G) && decide (C.G ≤ 65535) && decide (0 ≤ C.P) && decide (C.P ≤ 1000) && decide (1 ≤ C.R) && decide (C.R ≤ 16)))) σ := by
  intro x
  have e := @check_j2 σ K C
  simp only [Cf.l] at e
  simp only [w_ba_j1b, w_ba_j2, Cf.l, ruS, ruL, ruX, Nat.reduceAdd, reduceIte, Int.reduceLT, Int.reduceLE, Int.reduceEq, Int.reduceNeg, Int.reduceAdd, Int.reduceSub, Nat.reduceLeDiff]
  by_cases h1 : 1 ≤ C.C <;> by_cases h2 : C.C ≤ 64 <;> by_cases h3 : 17 ≤ C.W <;>
   simp only [h1, h2, h3, ruS, ruL, ruX, Nat.reduceAdd, reduceIte, Int.reduceLT, Int.reduceLE, Int.reduceEq, Int.reduceNeg, Int.reduceAdd, Int.reduceSub, Nat.reduceLeDiff, e, Bool.and_true, Bool.and_false, Bool.false_and, Bool.true_and]
 simp only [Cf.l] at j1
 simp only [s_ba, w_ba, w_ba_j1, Cf.v, ruS, ruL, ruX, Nat.reduceAdd, reduceIte, Int.reduceLT, Int.reduceLE, Int.reduceEq, Int.reduceNeg, Int.reduceAdd, Int.reduceSub, Nat.reduceLeDiff]
 unfold Cf.okB
 by_cases h1 : 1 ≤ C.T <;> by_cases h2 : C.T ≤ 8 <;> by_cases h3 : 1 ≤ C.S <;>
  simp only [h1, h2, h3, ruS, ruL, ruX, Nat.reduceAdd, reduceIte, Int.reduceLT, Int.reduceLE, Int.reduceEq, Int.reduceNeg, Int.reduceAdd, Int.reduceSub, Nat.reduceLeDiff, j1, Bool.and_true, Bool.and_false, Bool.false_and, Bool.true_and]
theorem hMakeS_eq {es by' : Nat} {z : List Value} {n : Int} {K : Value → Mem → Prop} {σ : Mem} (h0 : 0 ≤ n) (h1 : n ≤ 1073741824) (hb : by' ≤ 1024) :
  hMakeS es by' z [.int .i64 n, .int .i64 n] K σ = newB (List.replicate n.toNat z).flatten (fun id => .slice (some ⟨id, 0, none⟩) n.toNat es) K σ := by
 simp only [hMakeS]
 rw [if_pos ⟨trivial, h0, h1, hb⟩]
theorem hBox_a {cs : List Value} {sz : Nat} {K : Value → Mem → Prop} {σ : Mem} (h : cs.length = sz) :
  hBox sz [.agg cs.toArray] K σ = newB cs (fun id => .pointer (some ⟨id, 0, none⟩)) K σ := by
 subst h
 have : cellsOf (.agg cs.toArray) cs.length = some cs := by simp [cellsOf]
 simp only [hBox, this]
def Ar.new (n : Nat) : Ar := ⟨n, fun _ => 0, fun _ => 0, 0, 0, 0, 0, false⟩
structure Nm.fr (N : Nm) (σ : Mem) : Prop where
 m : σ.get N.m = none
 w : σ.get N.w = none
 t : σ.get N.t = none
theorem xBuildMem {a b : Value} {K : Value → Prop} (ha : cellsOf a 1 = some [a]) (hb : cellsOf b 1 = some [b]) :
  xF (fBuild [(0, 1), (1, 1), (2, 1), (3, 1), (4, 3)] [.slice none 0 0, .slice none 0 0, .int .i64 0, .int .i64 0, .int .i64 0, .int .i64 0, .bool false] [0, 1]) [a, b] K =
   K (.agg #[a, b, .int .i64 0, .int .i64 0, .int .i64 0, .int .i64 0, .bool false]) := by
 simp [xF, fBuild, fillL, ha, hb, lay]
theorem c_New {n : Int} (h0 : 1 ≤ n) (h1 : n ≤ 1048576) (hk : ∀ N τ, N.ok → isA N (.new n.toNat) τ → Ext σ τ → N.fr σ → K (.tuple #[N.p, .int .i64 0]) τ) : s_b1 [.int .i64 n] K σ := by
 simp only [s_b1, w_b1, w_b1_j1, w_b1_j1b, ruS, Nat.reduceAdd, reduceIte, Int.reduceLT, Int.reduceLE, Int.reduceEq, Int.reduceNeg, Int.reduceAdd, Int.reduceSub]
 rw [if_neg (by omega), if_neg (by omega)]
 rw [hMakeS_eq (by omega) (by omega) (by decide)]
 intro w hw
 rw [hMakeS_eq (by omega) (by omega) (by decide)]
 intro t ht
 rw [xBuildMem rfl rfl]
 refine (hBox_a (cs := [_, _, _, _, _, _, _]) rfl).mpr ?_
 intro m hm
 simp only [ruS, Nat.reduceAdd, reduceIte, Int.reduceLT, Int.reduceLE, Int.reduceEq, Int.reduceNeg, Int.reduceAdd, Int.reduceSub]
 have hwt : w ≠ t := by rintro rfl; simp at ht
 have hmt : m ≠ t := by rintro rfl; simp at hm
 have hmw : m ≠ w := by
  rintro rfl
  rw [Mem.get_set_ne _ _ hwt, Mem.get_set_same] at hm; cases hm
 refine hk ⟨m, w, t⟩ _ ⟨hmw, hmt, hwt⟩ ⟨?_, ?_, ?_⟩ ?_ ⟨?_, hw, ?_⟩
 ·rw [Mem.get_set_same]; rfl
 ·rw [Mem.get_set_ne _ _ hmw.symm, Mem.get_set_ne _ _ hwt, Mem.get_set_same, cells_repl]; rfl
 ·rw [Mem.get_set_ne _ _ hmt.symm, Mem.get_set_same, cells_repl]; rfl
 ·exact ((Ext.fresh hw).trans (Ext.fresh ht)).trans (Ext.fresh hm)
 ·rw [Mem.get_set_ne _ _ hmt, Mem.get_set_ne _ _ hmw] at hm; exact hm
 ·rw [Mem.get_set_ne _ _ hwt.symm] at ht; exact ht
def Nm.el (N : Nm) (c : Cf) (who : Int) : List Value := [.int .i64 c.T, .int .i64 c.S, .int .i64 c.C, .int .i64 c.W, .int .i64 c.G, .int .i64 c.P, .int .i64 c.R, N.p, .int .i64 who]
section
variable {c : Cf} {l : List Value}
theorem gBoxC : gBox 7 [c.v] l = some c.l := nr rfl
theorem subC : sub c.l 0 7 true = some c.v := nr rfl
theorem subC0 : sub c.l 0 1 false = some (.int .i64 c.T) := nr rfl
theorem subC1 : sub c.l 1 1 false = some (.int .i64 c.S) := nr rfl
theorem subC2 : sub c.l 2 1 false = some (.int .i64 c.C) := nr rfl
theorem subC3 : sub c.l 3 1 false = some (.int .i64 c.W) := nr rfl
theorem subC4 : sub c.l 4 1 false = some (.int .i64 c.G) := nr rfl
theorem subC5 : sub c.l 5 1 false = some (.int .i64 c.P) := nr rfl
theorem subC6 : sub c.l 6 1 false = some (.int .i64 c.R) := nr rfl
theorem gBoxE : gBox 9 [N.env c who] l = some (N.el c who) := nr rfl
theorem subE : sub (N.el c who) 0 9 true = some (N.env c who) := nr rfl
theorem subEC : sub (N.el c who) 0 7 true = some c.v := nr rfl
theorem subE0 : sub (N.el c who) 0 1 false = some (.int .i64 c.T) := nr rfl
theorem subE1 : sub (N.el c who) 1 1 false = some (.int .i64 c.S) := nr rfl
theorem subE2 : sub (N.el c who) 2 1 false = some (.int .i64 c.C) := nr rfl
theorem subE3 : sub (N.el c who) 3 1 false = some (.int .i64 c.W) := nr rfl
theorem subE4 : sub (N.el c who) 4 1 false = some (.int .i64 c.G) := nr rfl
theorem subE6 : sub (N.el c who) 6 1 false = some (.int .i64 c.R) := nr rfl
theorem subE7 : sub (N.el c who) 7 1 false = some N.p := nr rfl
theorem subE8 : sub (N.el c who) 8 1 false = some (.int .i64 who) := nr rfl
end
section
variable {a o v d : Int}
@[simp] theorem by_n : (A.by who).n = A.n := rfl
@[simp] theorem by_w : (A.by who).w = A.w := rfl
@[simp] theorem by_t : (A.by who).t = A.t := rfl
@[simp] theorem by_s : (A.by who).s = A.s := rfl
@[simp] theorem load_n : (A.load a).n = A.n := rfl
@[simp] theorem load_w : (A.load a).w = A.w := rfl
@[simp] theorem load_t : (A.load a).t = A.t := rfl
@[simp] theorem load_s : (A.load a).s = IntKind.i64.wrap (A.s + 1) := rfl
@[simp] theorem load_la : (A.load a).la = a := rfl
@[simp] theorem load_lc : (A.load a).lc = false := rfl
@[simp] theorem store_n : (A.store a v).n = A.n := rfl
@[simp] theorem store_w : (A.store a v).w = upd A.w a v := rfl
@[simp] theorem store_s : (A.store a v).s = IntKind.i64.wrap (A.s + 1) := rfl
@[simp] theorem store_la : (A.store a v).la = a := rfl
@[simp] theorem store_lc : (A.store a v).lc = decide (A.w a ≠ v) := rfl
theorem store_t : (A.store a v).t = if A.w a ≠ v then upd A.t a (IntKind.i64.wrap (A.s + 1)) else A.t := rfl
@[simp] theorem cas_n : (A.cas a o v).n = A.n := by unfold Ar.cas; split <;> rfl
@[simp] theorem cas_s : (A.cas a o v).s = IntKind.i64.wrap (A.s + 1) := by unfold Ar.cas; split <;> rfl
@[simp] theorem cas_la : (A.cas a o v).la = a := by unfold Ar.cas; split <;> rfl
theorem cas_no (h : A.w a ≠ o) : A.cas a o v = A.load a := by unfold Ar.cas; rw [if_neg h]; rfl
theorem cas_yes (h : A.w a = o) : A.cas a o v = A.store a v := by unfold Ar.cas; rw [if_pos h]; rfl
theorem add_eq : A.add a d = A.store a (IntKind.u64.wrap (A.w a + d)) := rfl
end
structure Ar.ok (A : Ar) (b : Int) : Prop where
 w : ∀ i, 0 ≤ A.w i ∧ A.w i < 18446744073709551616
 s : 0 ≤ A.s ∧ A.s ≤ b
 t : ∀ i, 0 ≤ A.t i ∧ A.t i ≤ A.s
theorem Ar.ok.s1 {b : Int} (h : A.ok b) (hb : b < 9223372036854775807) : IntKind.i64.wrap (A.s + 1) = A.s + 1 := IntWalk.i64_in _ (by have := h.s; omega)
theorem Ar.ok.by {b : Int} (h : A.ok b) : (A.by who).ok b := ⟨h.w, h.s, h.t⟩
theorem Ar.ok.load {b a : Int} (h : A.ok b) (hb : b < 9223372036854775807) : (A.load a).ok (b + 1) := by
 refine ⟨h.w, ?_, fun i => ?_⟩
 ·rw [load_s, h.s1 hb]; have := h.s; omega
 ·rw [load_s, h.s1 hb, load_t]; have := h.t i; omega
theorem upd_cases {f : Int → Int} {a v i : Int} {P : Int → Prop} (h1 : P v) (h2 : P (f i)) : P (upd f a v i) := by unfold upd; split <;> assumption
theorem Ar.ok.store {b a v : Int} (h : A.ok b) (hb : b < 9223372036854775807) (hv : 0 ≤ v ∧ v < 18446744073709551616) : (A.store a v).ok (b + 1) := by
 refine ⟨fun i => upd_cases (P := fun x => 0 ≤ x ∧ x < 18446744073709551616) hv (h.w i), ?_, fun i => ?_⟩
 ·rw [store_s, h.s1 hb]; have := h.s; omega
 ·rw [store_s, h.s1 hb, store_t]
  have := h.t i
  have := h.s
  split
  ·rw [h.s1 hb]; exact upd_cases (P := fun x => 0 ≤ x ∧ x ≤ A.s + 1) (by omega) (by omega)
  ·omega
theorem Ar.ok.cas {b a o v : Int} (h : A.ok b) (hb : b < 9223372036854775807) (hv : 0 ≤ v ∧ v < 18446744073709551616) : (A.cas a o v).ok (b + 1) := by
 by_cases hc : A.w a = o
 ·rw [cas_yes hc]; exact h.store hb hv
 ·rw [cas_no hc]; exact h.load hb
theorem wrap_in (n : Int) : 0 ≤ IntKind.u64.wrap n ∧ IntKind.u64.wrap n < 18446744073709551616 := by rw [IntKind.wrap_u64]; omega
theorem Ar.ok.add {b a d : Int} (h : A.ok b) (hb : b < 9223372036854775807) : (A.add a d).ok (b + 1) := h.store hb (wrap_in _)
def Cf.fr (c : Cf) (i : Int) (a : Int) : Int :=
 if c.slot 0 ≤ a ∧ a < c.slot i then (if (a - c.slot 0) % 2 = 0 then putSlot 0 0 1 0 else putTop ((a - c.slot 0) / 2 + 1) 0) else 0
def Cf.w0 (c : Cf) (a : Int) : Int := if a = 1 then putTop 0 0 else if a = c.slot (c.S - 1) + 1 then putTop (-1) 0 else c.fr c.S a
structure FrI (N : Nm) (C : Cf) (σ0 : Mem) (i : Int) (A : Ar) (σ : Mem) : Prop where
 i0 : 0 ≤ i
 i1 : i ≤ C.S
 n : A.n = C.len.toNat
 w : A.w = C.fr i
 s : A.s = 2 * i
 who : A.who = 0
 ok : A.ok (2 * i)
 isA : isA N A σ
 ext : Ext σ0 σ
 fr : N.fr σ0
theorem Ext.put {σ0 : Mem} (h : Ext σ0 σ) (f : N.fr σ0) : Ext σ0 (putA N A σ) := by
 intro i b hi
 rw [putA_ne (fun e => by rw [e, f.m] at hi; cases hi) (fun e => by rw [e, f.w] at hi; cases hi) (fun e => by rw [e, f.t] at hi; cases hi)]
 exact h i b hi
theorem len_eq : C.len = 6 + C.T + 2 * C.S + 3 * C.C + C.W * C.C := rfl
theorem len_bd (h : C.ok) : C.chunk C.C + 17 ≤ C.len ∧ C.len ≤ 200000 := by
 have hW := h.W
 have hC := h.C
 have hS := h.S
 have hT := h.T
 have h1 : 17 * 1 ≤ C.W * C.C := Int.mul_le_mul hW.1 hC.1 (by omega) (by omega)
 have h2 : C.W * C.C ≤ 256 * 64 := Int.mul_le_mul hW.2 hC.2 (by omega) (by omega)
 rw [len_eq]; unfold Cf.chunk
 omega
theorem xBuildSlotG {K : Value → Prop} {g : Int} : xF (fBuild [(0, 1), (1, 1), (2, 1), (3, 1)] [.int .i64 0, .int .i64 0, .int .i64 0, .int .i64 0] [2]) [.int .i64 g] K = K (.agg #[.int .i64 0, .int .i64 0, .int .i64 g, .int .i64 0]) := nr rfl
theorem c_Fresh_round (hC : C.ok) (hN : N.ok) {σ0 : Mem} {J1 R1 : List Value → List (List Value) → Mem → Prop} {i : Int} (h : FrI N C σ0 i A σ)
  (hj : i = C.S → J1 [N.p] [C.l] σ) (hr : i < C.S → ∀ A' τ, FrI N C σ0 (i + 1) A' τ → R1 [N.p, .int .i64 C.S, .int .i64 (i + 1)] [C.l] τ) :
  w_layout_Fresh_l8 K J1 R1 [N.p, .int .i64 C.S, .int .i64 i] [C.l] σ := by
 have hS := hC.S
 have hT := hC.T
 have hl := len_bd hC
 simp only [w_layout_Fresh_l8, w_layout_Fresh_l8b, ruS, Nat.reduceAdd, reduceIte, Int.reduceLT, Int.reduceLE, Int.reduceEq, Int.reduceNeg, Int.reduceAdd, Int.reduceSub, locP_e, gLoad_s, subC]
 by_cases hi : i < C.S
 ·simp only [hi, ruS, Nat.reduceAdd, reduceIte, Int.reduceLT, Int.reduceLE, Int.reduceEq, Int.reduceNeg, Int.reduceAdd, Int.reduceSub]
  have hn : C.slot i + 1 < A.n := by rw [h.n]; unfold Cf.slot; unfold Cf.chunk at hl; have := hC.C; omega
  have hs0 : 0 ≤ C.slot i := by unfold Cf.slot; have := h.i0; omega
  have i0 := h.i0
  rw [c_Slot hC h.i0 (by omega)]
  rw [xBuildSlotG, c_PutSlot, h.isA.eq, c_mStore hN hs0 (by omega), c_Slot hC h.i0 (by omega)]
  simp only [xAdd]
  rw [IntWalk.i64_in (i + 1) (by omega), c_PutTop (by omega), IntWalk.i64_in (C.slot i + 1) (by unfold Cf.slot; omega), c_mStore hN (by omega) (by rw [store_n]; omega)]
  have ok1 := h.ok.store (a := C.slot i) (by omega) (putSlot_in 0 0 1 0)
  have ok2 := ok1.store (a := C.slot i + 1) (by omega) (putTop_in (i + 1) 0)
  have s1 := h.ok.s1 (by omega)
  have s2 := ok1.s1 (by omega)
  refine hr hi ((A.store (C.slot i) (putSlot 0 0 1 0)).store (C.slot i + 1) (putTop (i + 1) 0)) _ ⟨by omega, by omega, h.n, ?_, ?_, h.who, ?_, isA_put hN, h.ext.put h.fr, h.fr⟩
  ·funext a
   rw [store_w, store_w, h.w]
   unfold upd Cf.fr Cf.slot
   have := hC.C
   by_cases e1 : a = 6 + C.T + 2 * i + 1
   ·subst e1
    rw [if_pos rfl, if_pos (by omega), if_neg (by omega)]
    congr 1; omega
   ·rw [if_neg e1]
    by_cases e2 : a = 6 + C.T + 2 * i
    ·subst e2
     rw [if_pos rfl, if_pos (by omega), if_pos (by omega)]
    ·rw [if_neg e2]
     by_cases e3 : 6 + C.T + 2 * 0 ≤ a ∧ a < 6 + C.T + 2 * i
     ·rw [if_pos e3, if_pos (show 6 + C.T + 2 * 0 ≤ a ∧ a < 6 + C.T + 2 * (i + 1) by omega)]
     ·rw [if_neg e3, if_neg (show ¬ (6 + C.T + 2 * 0 ≤ a ∧ a < 6 + C.T + 2 * (i + 1)) by omega)]
  ·rw [store_s, s2, store_s, s1, h.s]; omega
  ·rw [show 2 * (i + 1) = 2 * i + 1 + 1 by omega]; exact ok2
 ·rw [if_neg hi]
  exact hj (by have := h.i1; omega)
structure Frsh (N : Nm) (C : Cf) (A : Ar) : Prop where
 ok : A.ok (2 * C.S + 2)
 n : A.n = C.len.toNat
 w : A.w = C.w0
 s : A.s = 2 * C.S + 2
 who : A.who = 0
 la : A.la = 1
theorem Ar.new_ok {n : Nat} : (Ar.new n).ok (2 * 0) := ⟨fun _ => ⟨Int.le_refl 0, (by decide : (0 : Int) < 18446744073709551616)⟩, ⟨Int.le_refl 0, Int.le_refl 0⟩, fun _ => ⟨Int.le_refl 0, Int.le_refl 0⟩⟩
theorem c_Fresh (hC : C.ok) (hk : ∀ N A τ, N.ok → Frsh N C A → isA N A τ → Ext σ τ → N.fr σ → K (.tuple #[N.p, .int .i64 0]) τ) : s_bj [C.v] K σ := by
 have hl := len_bd hC
 have hS := hC.S
 have hT := hC.T
 have hCC := hC.C
 have hch : C.chunk C.C = 6 + C.T + 2 * C.S + 3 * C.C := rfl
 have hok : C.okB = true := Cf.okB_iff.2 hC
 simp only [s_bj, w_bj, ruS, Nat.reduceAdd, reduceIte, Int.reduceLT, Int.reduceLE, Int.reduceEq, Int.reduceNeg, Int.reduceAdd, Int.reduceSub, locP_e, gBoxC, gLoad_s, subC, subC1, c_Check, hok, c_lLen hC]
 refine c_New (by omega) (by omega) fun N τ hN hA hE hf => ?_
 simp only [ruS, Nat.reduceAdd, reduceIte, Int.reduceLT, Int.reduceLE, Int.reduceEq, Int.reduceNeg, Int.reduceAdd, Int.reduceSub]
 refine xLoop_inv (fun k ts ls τ => ∃ i A, k = (C.S - i).toNat ∧ ts = [N.p, .int .i64 C.S, .int .i64 i] ∧ ls = [C.l] ∧ FrI N C σ i A τ) ?_ (n := (C.S - 0).toNat)
  ⟨0, _, rfl, rfl, rfl, ⟨by omega, by omega, rfl, ?_, rfl, rfl, Ar.new_ok, hA, hE, hf⟩⟩
 ·rintro k ts ls τ ⟨i, A, rfl, rfl, rfl, h⟩
  refine c_Fresh_round hC hN h (fun e => ?_) fun hi A' τ' h' => ⟨_, by have := h.i0; omega, i + 1, A', rfl, rfl, rfl, h'⟩
  subst e
  simp only [w_bj_j1, w_bj_j1b, ruS, Nat.reduceAdd, reduceIte, Int.reduceLT, Int.reduceLE, Int.reduceEq, Int.reduceNeg, Int.reduceAdd, Int.reduceSub, locP_e, gLoad_s, subC, subC1]
  have n2 : C.slot (C.S - 1) + 1 < A.n := by rw [h.n]; unfold Cf.slot; omega
  have hs0 : 0 ≤ C.slot (C.S - 1) := by unfold Cf.slot; omega
  rw [IntWalk.i64_in (C.S - 1) (by omega), c_Slot hC (by omega) (by omega)]
  simp only [xAdd]
  rw [IntWalk.i64_in (C.slot (C.S - 1) + 1) (by unfold Cf.slot; omega), c_PutTop (by omega), h.isA.eq, c_mStore hN (by omega) n2, c_lTop, c_PutTop (by omega), c_mStore hN (by omega) (by rw [store_n]; omega)]
  have ok1 := h.ok.store (a := C.slot (C.S - 1) + 1) (by omega) (putTop_in (-1) 0)
  have ok2 := ok1.store (a := 1) (by omega) (putTop_in 0 0)
  have s1 := h.ok.s1 (by omega)
  have s2 := ok1.s1 (by omega)
  refine hk N ((A.store (C.slot (C.S - 1) + 1) (putTop (-1) 0)).store 1 (putTop 0 0)) _ hN ⟨by rw [show 2 * C.S + 2 = 2 * C.S + 1 + 1 by omega]; exact ok2, h.n, ?_, ?_, h.who, rfl⟩ (isA_put hN) (h.ext.put h.fr) h.fr
  ·rw [store_w, store_w, h.w]; rfl
  ·rw [store_s, s2, store_s, s1, h.s]; omega
 ·funext a
  unfold Cf.fr
  rw [if_neg (by omega)]; rfl
theorem c_Arena (hC : C.ok) (hG : C.G = 100) (hP : C.P = 600) (hR : C.R = 3) (hk : ∀ N A τ, N.ok → Frsh N C A → isA N A τ → Ext σ τ → N.fr σ → K (.tuple #[N.env C 0, .bool true]) τ) :
  s_a0 [.int .i64 C.T, .int .i64 C.S, .int .i64 C.C, .int .i64 C.W] K σ := by
 simp only [s_a0, w_a0, ruS, Nat.reduceAdd, reduceIte, Int.reduceLT, Int.reduceLE, Int.reduceEq, Int.reduceNeg, Int.reduceAdd, Int.reduceSub]
 have b1 : ∀ K : Value → Prop, xF (fBuild [(0, 1), (1, 1), (2, 1), (3, 1), (4, 1), (5, 1), (6, 1)] [.int .i64 0, .int .i64 0, .int .i64 0, .int .i64 0, .int .i64 0, .int .i64 0, .int .i64 0] [0, 1, 2, 3, 4, 5, 6])
   [.int .i64 C.T, .int .i64 C.S, .int .i64 C.C, .int .i64 C.W, .int .i64 100, .int .i64 600, .int .i64 3] K = K C.v := by
  intro K; unfold Cf.v; rw [hG, hP, hR]; exact nr rfl
 have b2 : ∀ K : List Value → Prop, xC (gStore 7 [locP 10, C.v] [.int .i64 0, .int .i64 0, .int .i64 0, .int .i64 0, .int .i64 0, .int .i64 0, .int .i64 0]) K = K C.l := fun K => nr rfl
 rw [b1, b2]
 simp only [locP_e, gLoad_s, subC, xOs]
 refine c_Fresh hC fun N A τ hN hF hA hE hf => ?_
 simp only [ruS, Nat.reduceAdd, reduceIte, Int.reduceLT, Int.reduceLE, Int.reduceEq, Int.reduceNeg, Int.reduceAdd, Int.reduceSub, locP_e, gLoad_s, subC]
 exact hk N A τ hN hF hA hE hf
theorem ruE : type_of% ((And.intro (And.intro (And.intro (And.intro @Nat.lt_irrefl @Nat.zero_lt_one) (And.intro @gBoxE (And.intro @gBoxC @subE))) (And.intro (And.intro @subEC (And.intro @subE0 @subE1)) (And.intro @subE2 (And.intro @subE3 @subE4)))) (And.intro (And.intro (And.intro @subE6 @subE7) (And.intro @subE8 (And.intro @subC @subC0))) (And.intro (And.intro @subC1 (And.intro @subC2 @subC3)) (And.intro @subC4 (And.intro @subC5 @subC6)))))) := (And.intro (And.intro (And.intro (And.intro @Nat.lt_irrefl @Nat.zero_lt_one) (And.intro @gBoxE (And.intro @gBoxC @subE))) (And.intro (And.intro @subEC (And.intro @subE0 @subE1)) (And.intro @subE2 (And.intro @subE3 @subE4)))) (And.intro (And.intro (And.intro @subE6 @subE7) (And.intro @subE8 (And.intro @subC @subC0))) (And.intro (And.intro @subC1 (And.intro @subC2 @subC3)) (And.intro @subC4 (And.intro @subC5 @subC6)))))
end Go.Fl
namespace Go.Fl
open Go
set_option linter.unusedVariables false
set_option linter.unusedSimpArgs false
variable {N : Nm} {A B : Ar} {σ : Mem} {K : Value → Mem → Prop} {C : Cf} {who : Int}
theorem notin {p : Nat} (h : p ∉ N.l) : p ≠ N.m ∧ p ≠ N.w ∧ p ≠ N.t := by simpa [Nm.l] using h
theorem putA_get {p : Nat} (h : p ∉ N.l) : (putA N A σ).get p = σ.get p := putA_ne (notin h).1 (notin h).2.1 (notin h).2.2
theorem putA_setP {p : Nat} {c : Blk} (h : p ∉ N.l) : (putA N A σ).set p c = putA N A (σ.set p c) := putA_set (notin h).1 (notin h).2.1 (notin h).2.2
theorem isA.obj {p : Nat} {c : Blk} (h : isA N A σ) (hp : σ.get p = some c) : σ = putA N A (σ.set p c) := by rw [Mem.set_self hp]; exact h.eq
section
variable {p o k sz : Nat} {pre L post : List Value} {ag : Bool}
theorem sub_app (hz : 0 < sz) (hk : k + sz ≤ L.length) : sub (pre ++ L ++ post) (pre.length + k) sz ag = sub L k sz ag := by
 have h1 : pre.length + k + sz ≤ (pre ++ L ++ post).length := by simp; omega
 simp only [sub, if_pos h1, if_pos hk]
 cases ag
 ·simp only [Bool.false_eq_true, if_false]
  rw [List.append_assoc, List.getElem?_append_right (by omega), Nat.add_sub_cancel_left, List.getElem?_append_left (by omega)]
 ·simp only [if_true]
  rw [List.append_assoc, List.drop_append, List.drop_of_length_le (by omega), List.nil_append, Nat.add_sub_cancel_left, List.drop_append_of_le_length (by omega), List.take_append_of_le_length (by simp; omega)]
theorem lay_app {vs : List Value} (hk : k + vs.length ≤ L.length) : lay (pre ++ L ++ post) (pre.length + k) vs = pre ++ lay L k vs ++ post := by
 have e : pre.length + k + vs.length = pre.length + (k + vs.length) := by omega
 simp only [lay, e]
 rw [List.append_assoc pre, List.take_append, List.take_of_length_le (by omega), Nat.add_sub_cancel_left, List.take_append_of_le_length (by omega),
  List.drop_append, List.drop_of_length_le (by omega), List.nil_append, Nat.add_sub_cancel_left, List.drop_append_of_le_length (by omega)]
 simp only [List.append_assoc]
theorem ldO (hd : p ∉ N.l) (hz : 0 < sz) (hk : k + sz ≤ L.length) : hLoad sz ag [.pointer (some ⟨p, pre.length + k, none⟩)] K (putA N A (σ.set p ⟨pre ++ L ++ post, true⟩)) =
  xO (sub L k sz ag) (fun v => K v (putA N A (σ.set p ⟨pre ++ L ++ post, true⟩))) := by
 rw [hLoad_eq ((putA_get hd).trans (Mem.get_set_same _ _ _)), sub_app hz hk]
theorem stO (hd : p ∉ N.l) {x : Value} {c : List Value} (hc : cellsOf x sz = some c) (hl : c.length = sz) (hk : k + sz ≤ L.length) (ho : c.all oneB = true) :
  hStore sz [.pointer (some ⟨p, pre.length + k, none⟩), x] K (putA N A (σ.set p ⟨pre ++ L ++ post, true⟩)) = K undef (putA N A (σ.set p ⟨pre ++ lay L k c ++ post, true⟩)) := by
 rw [hStore_eq ((putA_get hd).trans (Mem.get_set_same _ _ _)) hc (by simp; omega) ho, putA_setP hd, Mem.set_set, lay_app (by omega)]
theorem stOi (hd : p ∉ N.l) {kd : IntKind} {n : Int} (hk : k + 1 ≤ L.length) :
  hStore 1 [.pointer (some ⟨p, pre.length + k, none⟩), .int kd n] K (putA N A (σ.set p ⟨pre ++ L ++ post, true⟩)) = K undef (putA N A (σ.set p ⟨pre ++ lay L k [.int kd n] ++ post, true⟩)) := stO hd rfl rfl hk rfl
theorem stOb (hd : p ∉ N.l) {b : Bool} (hk : k + 1 ≤ L.length) :
  hStore 1 [.pointer (some ⟨p, pre.length + k, none⟩), .bool b] K (putA N A (σ.set p ⟨pre ++ L ++ post, true⟩)) = K undef (putA N A (σ.set p ⟨pre ++ lay L k [.bool b] ++ post, true⟩)) := stO hd rfl rfl hk rfl
theorem stOp (hd : p ∉ N.l) {b : Option Addr} (hk : k + 1 ≤ L.length) :
  hStore 1 [.pointer (some ⟨p, pre.length + k, none⟩), .pointer b] K (putA N A (σ.set p ⟨pre ++ L ++ post, true⟩)) = K undef (putA N A (σ.set p ⟨pre ++ lay L k [.pointer b] ++ post, true⟩)) := stO hd rfl rfl hk rfl
theorem stOa (hd : p ∉ N.l) {c : List Value} (hl : c.length = sz) (hk : k + sz ≤ L.length) (ho : c.all oneB = true) :
  hStore sz [.pointer (some ⟨p, pre.length + k, none⟩), .agg c.toArray] K (putA N A (σ.set p ⟨pre ++ L ++ post, true⟩)) = K undef (putA N A (σ.set p ⟨pre ++ lay L k c ++ post, true⟩)) :=
 stO hd (by subst hl; simp [cellsOf]) hl hk ho
theorem behind (hN : N.ok) (hd : p ∉ N.l) {c : Blk} {v : Value} (hk : ∀ τ, isA N A τ → τ.get p = some c → Keep (p :: N.l) σ τ → K v τ) : K v (putA N A (σ.set p c)) := by
 refine hk _ (isA_put hN) ((putA_get hd).trans (Mem.get_set_same _ _ _)) fun i b hi hn => ?_
 simp only [List.mem_cons, not_or] at hn
 rw [putA_get hn.2, Mem.get_set_ne _ _ hn.1]
 exact hi
end
structure Tk where
 pc : Int
 top : Int
 next : Int
 slot : Int
 ok : Bool
def Tk.l (t : Tk) : List Value := [.int .i64 t.pc, .int .u64 t.top, .int .i64 t.next, .int .i64 t.slot, .bool t.ok]
def Tk.new : Tk := ⟨0, 0, 0, 0, false⟩
def Tk.step (C : Cf) (who : Int) (A : Ar) (t : Tk) : Bool × Tk × Ar :=
 if t.pc = 0 then (decide (topS (A.w 1) < 0), ⟨1, A.w 1, t.next, topS (A.w 1), t.ok⟩, (A.by who).load 1)
 else if t.pc = 1 then (t.ok, ⟨2, t.top, topS (A.w (C.slot t.slot + 1)), t.slot, t.ok⟩, (A.by who).load (C.slot t.slot + 1))
 else (decide (A.w 1 = t.top), ⟨0, t.top, t.next, t.slot, decide (A.w 1 = t.top)⟩, (A.by who).cas 1 t.top (putTop t.next (topN t.top + 1)))
theorem c_Take_Step (hN : N.ok) (hC : C.ok) (hA : isA N A σ) {p : Nat} {pre post : List Value} {t : Tk} (hp : σ.get p = some ⟨pre ++ t.l ++ post, true⟩) (hd : p ∉ N.l)
  (hw : ∀ i, 0 ≤ A.w i ∧ A.w i < 18446744073709551616) (hn : C.len ≤ A.n) (h0 : 0 ≤ t.top ∧ t.top < 18446744073709551616) (h1 : t.pc = 1 → 0 ≤ t.slot ∧ t.slot < C.S) (h2 : 0 ≤ t.next + 1)
  (hk : ∀ τ, isA N (t.step C who A).2.2 τ → τ.get p = some ⟨pre ++ (t.step C who A).2.1.l ++ post, true⟩ → Keep (p :: N.l) σ τ → K (.bool (t.step C who A).1) τ) :
  s_cd [.pointer (some ⟨p, pre.length, none⟩), N.env C who] K σ := by
 rw [hA.obj hp]
 have hl := len_bd hC
 have hT := hC.T
 have hS := hC.S
 have hCC := hC.C
 have hch : C.chunk C.C = 6 + C.T + 2 * C.S + 3 * C.C := rfl
 simp only [s_cd, w_cd, w_cd_j1, w_cd_j1b, Tk.l, ldO hd, c_lTop, ruS, ruL, ruE, Nat.reduceAdd, reduceIte, Int.reduceLT, Int.reduceLE, Int.reduceEq, Int.reduceNeg, Int.reduceAdd, Int.reduceSub, Nat.reduceLeDiff, Nat.reduceLT]
 by_cases c0 : t.pc = 0
 ·rw [if_pos c0, c_Load hN (by omega) (by omega)]
  simp only [stOi hd, ldO hd, ruS, ruL, ruE, Nat.reduceAdd, reduceIte, Int.reduceLT, Int.reduceLE, Int.reduceEq, Int.reduceNeg, Int.reduceAdd, Int.reduceSub, Nat.reduceLeDiff, Nat.reduceLT]
  rw [c_Top (hw 1).1 (hw 1).2]
  simp only [stOi hd, ldO hd, ruS, ruL, ruE, Nat.reduceAdd, reduceIte, Int.reduceLT, Int.reduceLE, Int.reduceEq, Int.reduceNeg, Int.reduceAdd, Int.reduceSub, Nat.reduceLeDiff, Nat.reduceLT]
  simp only [Tk.step, if_pos c0] at hk
  exact behind hN hd hk
 ·by_cases c1 : t.pc = 1
  ·have := h1 c1
   have ha : 0 ≤ C.slot t.slot + 1 ∧ C.slot t.slot + 1 < A.n := by unfold Cf.slot; unfold Cf.chunk at hl; have := hC.C; omega
   rw [if_neg c0, if_pos c1, c_Slot hC (by omega) (by omega)]
   simp only [xAdd]
   rw [IntWalk.i64_in (C.slot t.slot + 1) (by unfold Cf.slot; omega), c_Load hN ha.1 ha.2, c_Top (hw _).1 (hw _).2]
   simp only [stOi hd, ldO hd, ruS, ruL, ruE, Nat.reduceAdd, reduceIte, Int.reduceLT, Int.reduceLE, Int.reduceEq, Int.reduceNeg, Int.reduceAdd, Int.reduceSub, Nat.reduceLeDiff, Nat.reduceLT]
   simp only [Tk.step, if_neg c0, if_pos c1] at hk
   exact behind hN hd hk
  ·rw [if_neg c0, if_neg c1, c_Top h0.1 h0.2]
   simp only [stOi hd, ldO hd, c_lTop, ruS, ruL, ruE, Nat.reduceAdd, reduceIte, Int.reduceLT, Int.reduceLE, Int.reduceEq, Int.reduceNeg, Int.reduceAdd, Int.reduceSub, Nat.reduceLeDiff, Nat.reduceLT]
   have hN2 : 0 ≤ topN t.top ∧ topN t.top < 68719476736 := by unfold topN; omega
   rw [IntWalk.i64_in (topN t.top + 1) (by omega), c_PutTop (by omega), c_Cas hN (by omega) (by omega)]
   simp only [stOb hd, ldO hd, ruS, ruL, ruE, Nat.reduceAdd, reduceIte, Int.reduceLT, Int.reduceLE, Int.reduceEq, Int.reduceNeg, Int.reduceAdd, Int.reduceSub, Nat.reduceLeDiff, Nat.reduceLT]
   simp only [Tk.step, if_neg c0, if_neg c1] at hk
   exact behind hN hd hk
theorem c_Take_Slot (hA : isA N A σ) {p : Nat} {pre post : List Value} {t : Tk} (hp : σ.get p = some ⟨pre ++ t.l ++ post, true⟩) (hd : p ∉ N.l)
  (hk : K (.tuple #[.int .i64 (if t.ok = true then t.slot else 0), .bool t.ok]) σ) : s_cc [.pointer (some ⟨p, pre.length, none⟩)] K σ := by
 have e := hA.obj hp
 generalize hq : σ = υ at *
 rw [e] at hk ⊢
 simp only [s_cc, w_cc, w_cc_j1, w_cc_j1b, Tk.l, ldO hd, ruS, ruL, ruE, Nat.reduceAdd, reduceIte, Int.reduceLT, Int.reduceLE, Int.reduceEq, Int.reduceNeg, Int.reduceAdd, Int.reduceSub, Nat.reduceLeDiff, Nat.reduceLT] at hk ⊢
 cases h : t.ok <;> simp only [h, xIfB, ldO hd, ruS, ruL, ruE, Nat.reduceAdd, reduceIte, Int.reduceLT, Int.reduceLE, Int.reduceEq, Int.reduceNeg, Int.reduceAdd, Int.reduceSub, Nat.reduceLeDiff, Nat.reduceLT] at hk ⊢ <;> exact hk
structure Gv where
 pc : Int
 slot : Int
 top : Int
def Gv.l (g : Gv) : List Value := [.int .i64 g.pc, .int .i64 g.slot, .int .u64 g.top]
def Gv.step (C : Cf) (who : Int) (A : Ar) (g : Gv) : Bool × Gv × Ar :=
 if g.pc = 0 then (false, ⟨1, g.slot, A.w 1⟩, (A.by who).load 1)
 else if g.pc = 1 then (false, ⟨2, g.slot, g.top⟩, (A.by who).store (C.slot g.slot + 1) (putTop (topS g.top) 0))
 else (decide (A.w 1 = g.top), ⟨0, g.slot, g.top⟩, (A.by who).cas 1 g.top (putTop g.slot (topN g.top + 1)))
theorem c_Give_Step (hN : N.ok) (hC : C.ok) (hA : isA N A σ) {p : Nat} {pre post : List Value} {t : Gv} (hp : σ.get p = some ⟨pre ++ t.l ++ post, true⟩) (hd : p ∉ N.l)
  (hw : ∀ i, 0 ≤ A.w i ∧ A.w i < 18446744073709551616) (hn : C.len ≤ A.n) (h0 : 0 ≤ t.top ∧ t.top < 18446744073709551616) (h1 : 0 ≤ t.slot ∧ t.slot < C.S)
  (hk : ∀ τ, isA N (t.step C who A).2.2 τ → τ.get p = some ⟨pre ++ (t.step C who A).2.1.l ++ post, true⟩ → Keep (p :: N.l) σ τ → K (.bool (t.step C who A).1) τ) :
  s_ca [.pointer (some ⟨p, pre.length, none⟩), N.env C who] K σ := by
 rw [hA.obj hp]
 have hl := len_bd hC
 have hT := hC.T
 have hS := hC.S
 have hCC := hC.C
 have hch : C.chunk C.C = 6 + C.T + 2 * C.S + 3 * C.C := rfl
 simp only [s_ca, w_ca, w_ca_j1, w_ca_j1b, Gv.l, ldO hd, c_lTop, ruS, ruL, ruE, Nat.reduceAdd, reduceIte, Int.reduceLT, Int.reduceLE, Int.reduceEq, Int.reduceNeg, Int.reduceAdd, Int.reduceSub, Nat.reduceLeDiff, Nat.reduceLT]
 rw [c_Top h0.1 h0.2]
 simp only [ldO hd, c_lTop, ruS, ruL, ruE, Nat.reduceAdd, reduceIte, Int.reduceLT, Int.reduceLE, Int.reduceEq, Int.reduceNeg, Int.reduceAdd, Int.reduceSub, Nat.reduceLeDiff, Nat.reduceLT]
 by_cases c0 : t.pc = 0
 ·rw [if_pos c0, c_Load hN (by omega) (by omega)]
  simp only [stOi hd, ldO hd, ruS, ruL, ruE, Nat.reduceAdd, reduceIte, Int.reduceLT, Int.reduceLE, Int.reduceEq, Int.reduceNeg, Int.reduceAdd, Int.reduceSub, Nat.reduceLeDiff, Nat.reduceLT]
  simp only [Gv.step, if_pos c0] at hk
  exact behind hN hd hk
 ·by_cases c1 : t.pc = 1
  ·have ha : 0 ≤ C.slot t.slot + 1 ∧ C.slot t.slot + 1 < A.n := by unfold Cf.slot; omega
   have hN1 : -1 ≤ topS t.top := by unfold topS; omega
   rw [if_neg c0, if_pos c1, c_Slot hC (by omega) (by omega)]
   simp only [xAdd]
   rw [IntWalk.i64_in (C.slot t.slot + 1) (by unfold Cf.slot; omega), c_PutTop (by omega), c_Store hN ha.1 ha.2]
   simp only [stOi hd, ldO hd, ruS, ruL, ruE, Nat.reduceAdd, reduceIte, Int.reduceLT, Int.reduceLE, Int.reduceEq, Int.reduceNeg, Int.reduceAdd, Int.reduceSub, Nat.reduceLeDiff, Nat.reduceLT]
   simp only [Gv.step, if_neg c0, if_pos c1] at hk
   exact behind hN hd hk
  ·rw [if_neg c0, if_neg c1]
   simp only [stOi hd, ldO hd, c_lTop, ruS, ruL, ruE, Nat.reduceAdd, reduceIte, Int.reduceLT, Int.reduceLE, Int.reduceEq, Int.reduceNeg, Int.reduceAdd, Int.reduceSub, Nat.reduceLeDiff, Nat.reduceLT]
   have hN2 : 0 ≤ topN t.top ∧ topN t.top < 68719476736 := by unfold topN; omega
   rw [IntWalk.i64_in (topN t.top + 1) (by omega), c_PutTop (by omega), c_Cas hN (by omega) (by omega)]
   simp only [Gv.step, if_neg c0, if_neg c1] at hk
   exact behind hN hd hk
theorem hBox_i {cs : List Value} {sz : Nat} {K : Value → Mem → Prop} {σ : Mem} (h : cs.length = sz) (hk : ∀ id τ, σ.get id = none → τ.get id = some ⟨cs, true⟩ → Ext σ τ → K (.pointer (some ⟨id, 0, none⟩)) τ) :
  hBox sz [.agg cs.toArray] K σ := by
 rw [hBox_a h]
 exact fun id hid => hk id _ hid (Mem.get_set_same _ _ _) (Ext.fresh hid)
theorem Keep.fresh {L : List Nat} {τ υ : Mem} {id : Nat} (h : σ.get id = none) (e : Ext σ τ) (k : Keep (id :: L) τ υ) : Keep L σ υ := by
 intro i b hi hn
 refine k i b (e i b hi) ?_
 simp only [List.mem_cons, not_or]
 exact ⟨fun e' => (by rw [e', h] at hi; cases hi), hn⟩
theorem isA.new (h : isA N A σ) {id : Nat} (hid : σ.get id = none) : id ∉ N.l := by
 have := h.fresh hid
 simpa [Nm.l] using this
theorem c_NewGive {s : Int} (hk : ∀ id τ, σ.get id = none → τ.get id = some ⟨(Gv.mk 0 s 0).l, true⟩ → Ext σ τ → K (.pointer (some ⟨id, 0, none⟩)) τ) : s_cb [.int .i64 s] K σ := by
 have b : ∀ K : Value → Prop, xF (fBuild [(0, 1), (1, 1), (2, 1)] [.int .i64 0, .int .i64 0, .int .u64 0] [1]) [.int .i64 s] K = K (.agg #[.int .i64 0, .int .i64 s, .int .u64 0]) := fun K => nr rfl
 simp only [s_cb, w_cb, b, ruS, Nat.reduceAdd, reduceIte, Int.reduceLT, Int.reduceLE, Int.reduceEq, Int.reduceNeg, Int.reduceAdd, Int.reduceSub]
 exact hBox_i (cs := [_, _, _]) rfl hk
theorem xLoop_i {F : (List Value → List (List Value) → Mem → Prop) → List Value → List (List Value) → Mem → Prop} (enc : Int → List Value) (ls : List (List Value)) (m : Int) (I : Int → Mem → Prop)
  (hr : ∀ i σ, I i σ → ∀ R : List Value → List (List Value) → Mem → Prop, (∀ τ, i < m → I (i + 1) τ → R (enc (i + 1)) ls τ) → F R (enc i) ls σ) {i : Int} {σ : Mem} (h0 : I i σ) : xLoop F (enc i) ls σ := by
 refine xLoop_inv (fun k ts l τ => ∃ i, k = (m - i).toNat ∧ ts = enc i ∧ l = ls ∧ I i τ) ?_ (n := (m - i).toNat) ⟨i, rfl, rfl, rfl, h0⟩
 rintro k ts l τ ⟨i, rfl, rfl, rfl, h⟩
 exact hr i τ h _ fun υ hi h' => ⟨_, by omega, i + 1, rfl, rfl, rfl, h'⟩
theorem xLoop_r {F : (List Value → List (List Value) → Mem → Prop) → List Value → List (List Value) → Mem → Prop} (I : Nat → List Value → List (List Value) → Mem → Prop)
  (hr : ∀ n ts ls σ, I n ts ls σ → ∀ R : List Value → List (List Value) → Mem → Prop, (∀ m ts' ls' σ', m < n → I m ts' ls' σ' → R ts' ls' σ') → F R ts ls σ)
  {n : Nat} {ts : List Value} {ls : List (List Value)} {σ : Mem} (h0 : I n ts ls σ) : xLoop F ts ls σ :=
 xLoop_inv I (fun n ts ls σ h => hr n ts ls σ h _ fun m ts' ls' σ' hm h' => ⟨m, hm, h'⟩) h0
theorem xAndI {K : Value → Prop} {Q : EqK} {k : Nat} {a : Int} (hk : k ≤ 62) : xF (fBin .and Q) [.int .i64 a, .int .i64 (2 ^ k - 1)] K = K (.int .i64 (a % 2 ^ k)) := by
 have e : ((2 : Int) ^ k - 1) = ((2 ^ k - 1 : Nat) : Int) := by
  push_cast [Nat.one_le_two_pow]
  rfl
 have hp : 0 < 2 ^ k := Nat.two_pow_pos k
 have e2 : ((2 ^ k : Nat) : Int) = 2 ^ k := by push_cast; rfl
 have hb : 2 ^ k ≤ 2 ^ 62 := Nat.pow_le_pow_right (by decide) hk
 have hd : (2 ^ k : Nat) ∣ 2 ^ 64 := Nat.pow_dvd_pow 2 (by omega)
 have q : ((BitVec.ofInt 64 a &&& BitVec.ofInt 64 ((2 ^ k - 1 : Nat) : Int)).toNat : Int) = a % 2 ^ k := by
  rw [BitVec.toNat_and, BitVec.toNat_ofInt, BitVec.toNat_ofInt]
  have h4 : (((2 ^ k - 1 : Nat) : Int) % ((2 ^ 64 : Nat) : Int)).toNat = 2 ^ k - 1 := by omega
  rw [h4, Nat.and_two_pow_sub_one_eq_mod, Int.natCast_emod, Int.toNat_of_nonneg (by omega), Int.emod_emod_of_dvd a (Int.natCast_dvd_natCast.2 hd), e2]
 simp only [xF, fBin, isSh, binI, Bool.false_eq_true, if_false, if_true]
 show K (.int .i64 (IntKind.i64.wrap ((BitVec.ofInt 64 a &&& BitVec.ofInt 64 (2 ^ k - 1)).toNat : Int))) = _
 rw [e, q]
 have h1 : 0 ≤ a % 2 ^ k := by rw [← e2]; exact Int.emod_nonneg _ (by omega)
 have h2 : a % 2 ^ k < 2 ^ k := by rw [← e2]; exact Int.emod_lt_of_pos _ (by omega)
 have h3 : (2 : Int) ^ k ≤ 4611686018427387904 := by rw [← e2]; omega
 rw [IntWalk.i64_in _ (by omega)]
theorem andI40 {K : Value → Prop} {Q : EqK} {a : Int} : xF (fBin .and Q) [.int .i64 a, .int .i64 1099511627775] K = K (.int .i64 (a % 1099511627776)) := by simpa using xAndI (K := K) (Q := Q) (k := 40) (a := a) (by decide)
theorem gStoreE {k : Nat} : gStore 9 [.pointer (some ⟨k, 0, some 0⟩), N.env C who] [.int .i64 0, .int .i64 0, .int .i64 0, .int .i64 0, .int .i64 0, .int .i64 0, .int .i64 0, .pointer none, .int .i64 0] = some (N.el C who) := nr rfl
def cA (T S Ch W : Int) : Cf := ⟨T, S, Ch, W, 100, 600, 3⟩
theorem cA_ok {T S Ch W : Int} (h1 : 1 ≤ T ∧ T ≤ 8) (h2 : 1 ≤ S ∧ S ≤ 65536) (h3 : 1 ≤ Ch ∧ Ch ≤ 64) (h4 : 17 ≤ W ∧ W ≤ 256) : (cA T S Ch W).ok :=
 ⟨h1, h2, h3, h4, ⟨by show (1 : Int) ≤ 100; decide, by show (100 : Int) ≤ 65535; decide⟩, ⟨by show (0 : Int) ≤ 600; decide, by show (600 : Int) ≤ 1000; decide⟩, ⟨by show (1 : Int) ≤ 3; decide, by show (3 : Int) ≤ 16; decide⟩⟩
theorem Keep.get {L : List Nat} {τ : Mem} {i : Nat} {b : Blk} (k : Keep L σ τ) (h : σ.get i = some b) (hn : i ∉ L) : τ.get i = some b := k i b h hn
theorem c_NowA (hA : isA N A σ) : s_bg [N.env C who] K σ = K (.int .i64 A.s) σ := by
 have := c_Now (N := N) (A := A) (σ := σ) (K := K) (C := C) (who := who)
 rwa [← hA.eq] at this
structure Aft (A A' : Ar) (k : Int) (w : Int → Int) : Prop where
 n : A'.n = A.n
 w : A'.w = w
 s : A'.s = A.s + k
 t : ∀ i, A'.t i = A.t i ∨ A.s < A'.t i ∧ A'.t i ≤ A'.s
theorem Aft.ok {A' : Ar} {k b : Int} {w : Int → Int} (h : Aft A A' k w) (hk : 0 ≤ k) (ho : A.ok b) (hw : ∀ i, 0 ≤ w i ∧ w i < 18446744073709551616) : A'.ok (b + k) := by
 refine ⟨fun i => by rw [h.w]; exact hw i, ?_, fun i => ?_⟩
 ·have := ho.s; have := h.s; omega
 ·have := ho.s; have := h.s; have := ho.t i
  rcases h.t i with e | e <;> omega
theorem Aft.trans {A' A'' : Ar} {k k' : Int} {w w' : Int → Int} (h : Aft A A' k w) (h' : Aft A' A'' k' w') (hk : 0 ≤ k) (hk' : 0 ≤ k') : Aft A A'' (k + k') w' := by
 refine ⟨h'.n.trans h.n, h'.w, by rw [h'.s, h.s]; omega, fun i => ?_⟩
 have := h.s; have := h'.s
 rcases h'.t i with e | e
 ·rw [e]
  rcases h.t i with e | e <;> omega
 ·omega
theorem aft_load {b a : Int} (h : A.ok b) (hb : b < 9223372036854775807) : Aft A ((A.by who).load a) 1 A.w :=
 ⟨rfl, rfl, by rw [load_s, by_s, h.s1 hb], fun i => .inl rfl⟩
theorem aft_store {b a v : Int} (h : A.ok b) (hb : b < 9223372036854775807) : Aft A ((A.by who).store a v) 1 (upd A.w a v) := by
 refine ⟨rfl, rfl, by rw [store_s, by_s, h.s1 hb], fun i => ?_⟩
 rw [store_t, by_s, h.s1 hb, store_s, by_s, h.s1 hb]
 split
 ·unfold upd; split
  ·right; omega
  ·left; rfl
 ·left; rfl
theorem aft_cas {b a o v : Int} (h : A.ok b) (hb : b < 9223372036854775807) : Aft A ((A.by who).cas a o v) 1 (if A.w a = o then upd A.w a v else A.w) := by
 by_cases hc : A.w a = o
 ·rw [if_pos hc, cas_yes (by exact hc)]; exact aft_store h hb
 ·rw [if_neg hc, cas_no (by exact hc)]; exact aft_load h hb
end Go.Fl
