/- What the claim leans on, part 3: own readings of the program's functions, what they come to, laws of them. No condition. -/
import Derived.Test.YtedpfdkhebmocaaGreatZCompactStill2
namespace Go.Fl
open Go Go.Proofs
set_option linter.unusedVariables false
set_option maxRecDepth 10000000
def w_bl_j1b (K : Value → Mem → Prop) (v5 : Value) (σ : Mem) : Prop :=xF fMove [v5] fun v27 =>xF fMove [v27] fun v4 =>K v4 σ
def w_bl_j1 (K : Value → Mem → Prop) (ts : List Value) (ls : List (List Value)) (σ : Mem) : Prop := w_bl_j1b K (ts.getD 0 poison) σ
def w_bl_j2b (K : Value → Mem → Prop) (J1 : List Value → List (List Value) → Mem → Prop) (R1 : List Value → List (List Value) → Mem → Prop) (v1 v5 v6 : Value) (c2 : List Value) (σ : Mem) : Prop :=xF fMove [v6] fun v12 =>xF (fBin .add .no) [v12, .int .i64 1] fun v13 =>xF fMove [v13] fun v6 =>R1 [v1, v5, v6] [c2] σ
def w_bl_j2 (K : Value → Mem → Prop) (J1 : List Value → List (List Value) → Mem → Prop) (R1 : List Value → List (List Value) → Mem → Prop) (ts : List Value) (ls : List (List Value)) (σ : Mem) : Prop := w_bl_j2b K J1 R1 (ts.getD 0 poison) (ts.getD 1 poison) (ts.getD 2 poison) (ls.getD 0 []) σ
def w_law14_many_l4b (K : Value → Mem → Prop) (J1 : List Value → List (List Value) → Mem → Prop) (R1 : List Value → List (List Value) → Mem → Prop) (v1 v5 v6 : Value) (c2 : List Value) (σ : Mem) : Prop :=xF fMove [v6] fun v7 =>xF (fFld 0) [(locP 2)] fun v8 =>xF (fFld 2) [v8] fun v9 =>xO (gLoad 1 false [v9] c2) fun v10 =>xF (fBin .lss .no) [v7, v10] fun v11 =>xIf v11
 (xJoin (w_bl_j2 K J1 R1) fun J2 =>xF (fFld 7) [(locP 2)] fun v14 =>xO (gLoad 1 false [v14] c2) fun v15 =>xF (fFld 0) [(locP 2)] fun v16 =>xO (gLoad 7 true [v16] c2) fun v17 =>xF fMove [v6] fun v18 =>s_br [v17, v18] (fun v19 σ =>s_cd [v15, v19] (fun v20 σ =>s_da [v20] (fun v21 σ =>xF (fFldV 0 1 false) [v21] fun v22 =>xF fMove [v1] fun v23 =>xF (fBin .eql .no) [v22, v23] fun v24 =>xIf v24
 (xF fMove [v5] fun v25 =>xF (fBin .add .no) [v25, .int .i64 1] fun v26 =>xF fMove [v26] fun v5 =>J2 [v1, v5, v6] [c2] σ)
 (J2 [v1, v5, v6] [c2] σ)) σ) σ) σ)
 (J1 [v5] [] σ)
def w_law14_many_l4 (K : Value → Mem → Prop) (J1 : List Value → List (List Value) → Mem → Prop) (R1 : List Value → List (List Value) → Mem → Prop) (ts : List Value) (ls : List (List Value)) (σ : Mem) : Prop := w_law14_many_l4b K J1 R1 (ts.getD 0 poison) (ts.getD 1 poison) (ts.getD 2 poison) (ls.getD 0 []) σ
def w_bl (a0 a1 : Value) (K : Value → Mem → Prop) (σ : Mem) : Prop :=xC (gBox 9 [a0] []) fun c2 =>xF fMove [.int .i64 0] fun v4 =>xF fMove [.int .i64 0] fun v5 =>xJoin (w_bl_j1 K) fun J1 =>xF fMove [.int .i64 0] fun v6 =>xLoop (w_law14_many_l4 K J1) [a1, v5, v6] [c2] σ
def s_bl : Spec := fun args K σ => match args with
  | [a0, a1] => w_bl a0 a1 K σ
  | _ => False
noncomputable def cx_bl : Cx := { P := Tryz.prog, T := [(23, .none, s_br), (13, .read, s_cd), (22, .none, s_da)], loc := [(2, 2), (8, 2), (9, 2), (14, 2), (16, 2)], eqt := [], n := 28, keep := [(4, [1, 5, 6], [2]), (1000005, [1, 5, 6], [2]), (1000008, [5], [])] }
theorem q_bl : FnS cx_bl Tryz.f28 (bodyOf Tryz.f28) 2 = s_bl := by
  funext args K σ
  rcases args with _ | ⟨a0, _ | ⟨a1, _ | ⟨b, r⟩⟩⟩ <;> kernel_rfl
theorem e_bl : Entry Tryz.prog 28 .write s_bl :=
  entry (C := cx_bl) (TOk.cons e_br (TOk.cons e_cd (TOk.cons e_da TOk.nil))) mixedOk Tryz.func28 (by kernel_rfl) (by kernel_rfl) (by kernel_rfl) q_bl
attribute [irreducible] w_bl_j1b w_bl_j1 w_bl_j2b w_bl_j2 w_law14_many_l4b w_law14_many_l4 w_bl s_bl
def w_ap (a0 : Value) (K : Value → Mem → Prop) (σ : Mem) : Prop :=xF fMove [a0] fun v3 =>xF (fBin .eql .ptr) [v3, .pointer none] fun v4 =>xIf v4
 (xF (fBuild [(0, 1), (1, 1), (2, 1), (3, 1), (4, 1)] [.int .i64 0, .int .i64 0, .int .i64 0, .int .i64 0, .int .i64 0] []) [] fun v5 =>xC (gStore 5 [(locP 2), v5] [.int .i64 0, .int .i64 0, .int .i64 0, .int .i64 0, .int .i64 0]) fun c2 =>xO (gLoad 5 true [(locP 2)] c2) fun r2 =>K r2 σ)
 (xF fMove [a0] fun v6 =>xF fNil [v6] fun v7 =>xF (fFld 9) [v7] fun v8 =>hLoad 5 true [v8] (fun v9 σ =>xC (gStore 5 [(locP 2), v9] [.int .i64 0, .int .i64 0, .int .i64 0, .int .i64 0, .int .i64 0]) fun c2 =>xO (gLoad 5 true [(locP 2)] c2) fun r2 =>K r2 σ) σ)
def s_ap : Spec := fun args K σ => match args with
  | [a0] => w_ap a0 K σ
  | _ => False
noncomputable def cx_ap : Cx := { P := Tryz.prog, T := [], loc := [(2, 2)], eqt := [(39, .ptr)], n := 10, keep := [] }
theorem q_ap : FnS cx_ap Tryz.f16 (bodyOf Tryz.f16) 1 = s_ap := by
  funext args K σ
  rcases args with _ | ⟨a0, _ | ⟨b, r⟩⟩ <;> kernel_rfl
theorem e_ap : Entry Tryz.prog 16 .read s_ap :=
  entry (C := cx_ap) TOk.nil mixedOk Tryz.func16 (by kernel_rfl) (by kernel_rfl) (by kernel_rfl) q_ap
attribute [irreducible] w_ap s_ap
def w_c3 (a0 a1 : Value) (K : Value → Mem → Prop) (σ : Mem) : Prop :=xC (gBox 7 [a0] []) fun c2 =>xC (gBox 6 [a1] []) fun c3 =>xF fMove [.bool false] fun v4 =>xF (fFld 0) [(locP 3)] fun v5 =>xF (fFld 0) [v5] fun v6 =>xO (gLoad 1 false [v6] c3) fun v7 =>xF (fBin .eql .no) [v7, .int .i64 1] fun v8 =>xF fMove [v8] fun v9 =>xIf v9
 (xF (fFld 5) [(locP 3)] fun v10 =>xO (gLoad 1 false [v10] c3) fun v11 =>xF (fUn .not) [v11] fun v12 =>xF fPick [.bool true, v12, .bool false] fun v13 =>xF fMove [v13] fun v14 =>xIf v14
 (xF (fFld 0) [(locP 3)] fun v15 =>xF (fFld 2) [v15] fun v16 =>xO (gLoad 1 false [v16] c3) fun v17 =>xF (fBin .gtr .no) [v17, .int .i64 0] fun v18 =>xF fPick [.bool true, v18, .bool false] fun v19 =>xF fMove [v19] fun v20 =>xIf v20
 (xF (fFld 4) [(locP 3)] fun v21 =>xO (gLoad 1 false [v21] c3) fun v22 =>xF (fBin .leq .no) [v22, .int .i64 0] fun v23 =>xF fMove [v23] fun v24 =>xIf v24
 (xF fPick [.bool true, .bool true, undef] fun v35 =>xF fPick [.bool true, v35, .bool false] fun v36 =>xF fMove [v36] fun v4 =>K v4 σ)
 (xF (fFld 4) [(locP 3)] fun v25 =>xO (gLoad 1 false [v25] c3) fun v26 =>xF (fBin .mul .no) [.int .i64 1000, v26] fun v27 =>xF (fFld 5) [(locP 2)] fun v28 =>xO (gLoad 1 false [v28] c2) fun v29 =>xF (fFld 0) [(locP 3)] fun v30 =>xF (fFld 2) [v30] fun v31 =>xO (gLoad 1 false [v31] c3) fun v32 =>xF (fBin .mul .no) [v29, v32] fun v33 =>xF (fBin .lss .no) [v27, v33] fun v34 =>xF fPick [.bool false, .bool true, v34] fun v35 =>xF fPick [.bool true, v35, .bool false] fun v36 =>xF fMove [v36] fun v4 =>K v4 σ))
 (xF fPick [.bool false, undef, .bool false] fun v36 =>xF fMove [v36] fun v4 =>K v4 σ))
 (xF fPick [.bool false, undef, .bool false] fun v19 =>xF fMove [v19] fun v20 =>xIf v20
 (xF (fFld 4) [(locP 3)] fun v21 =>xO (gLoad 1 false [v21] c3) fun v22 =>xF (fBin .leq .no) [v22, .int .i64 0] fun v23 =>xF fMove [v23] fun v24 =>xIf v24
 (xF fPick [.bool true, .bool true, undef] fun v35 =>xF fPick [.bool true, v35, .bool false] fun v36 =>xF fMove [v36] fun v4 =>K v4 σ)
 (xF (fFld 4) [(locP 3)] fun v25 =>xO (gLoad 1 false [v25] c3) fun v26 =>xF (fBin .mul .no) [.int .i64 1000, v26] fun v27 =>xF (fFld 5) [(locP 2)] fun v28 =>xO (gLoad 1 false [v28] c2) fun v29 =>xF (fFld 0) [(locP 3)] fun v30 =>xF (fFld 2) [v30] fun v31 =>xO (gLoad 1 false [v31] c3) fun v32 =>xF (fBin .mul .no) [v29, v32] fun v33 =>xF (fBin .lss .no) [v27, v33] fun v34 =>xF fPick [.bool false, .bool true, v34] fun v35 =>xF fPick [.bool true, v35, .bool false] fun v36 =>xF fMove [v36] fun v4 =>K v4 σ))
 (xF fPick [.bool false, undef, .bool false] fun v36 =>xF fMove [v36] fun v4 =>K v4 σ)))
 (xF fPick [.bool false, undef, .bool false] fun v13 =>xF fMove [v13] fun v14 =>xIf v14
 (xF (fFld 0) [(locP 3)] fun v15 =>xF (fFld 2) [v15] fun v16 =>xO (gLoad 1 false [v16] c3) fun v17 =>xF (fBin .gtr .no) [v17, .int .i64 0] fun v18 =>xF fPick [.bool true, v18, .bool false] fun v19 =>xF fMove [v19] fun v20 =>xIf v20
 (xF (fFld 4) [(locP 3)] fun v21 =>xO (gLoad 1 false [v21] c3) fun v22 =>xF (fBin .leq .no) [v22, .int .i64 0] fun v23 =>xF fMove [v23] fun v24 =>xIf v24
 (xF fPick [.bool true, .bool true, undef] fun v35 =>xF fPick [.bool true, v35, .bool false] fun v36 =>xF fMove [v36] fun v4 =>K v4 σ)
 (xF (fFld 4) [(locP 3)] fun v25 =>xO (gLoad 1 false [v25] c3) fun v26 =>xF (fBin .mul .no) [.int .i64 1000, v26] fun v27 =>xF (fFld 5) [(locP 2)] fun v28 =>xO (gLoad 1 false [v28] c2) fun v29 =>xF (fFld 0) [(locP 3)] fun v30 =>xF (fFld 2) [v30] fun v31 =>xO (gLoad 1 false [v31] c3) fun v32 =>xF (fBin .mul .no) [v29, v32] fun v33 =>xF (fBin .lss .no) [v27, v33] fun v34 =>xF fPick [.bool false, .bool true, v34] fun v35 =>xF fPick [.bool true, v35, .bool false] fun v36 =>xF fMove [v36] fun v4 =>K v4 σ))
 (xF fPick [.bool false, undef, .bool false] fun v36 =>xF fMove [v36] fun v4 =>K v4 σ))
 (xF fPick [.bool false, undef, .bool false] fun v19 =>xF fMove [v19] fun v20 =>xIf v20
 (xF (fFld 4) [(locP 3)] fun v21 =>xO (gLoad 1 false [v21] c3) fun v22 =>xF (fBin .leq .no) [v22, .int .i64 0] fun v23 =>xF fMove [v23] fun v24 =>xIf v24
 (xF fPick [.bool true, .bool true, undef] fun v35 =>xF fPick [.bool true, v35, .bool false] fun v36 =>xF fMove [v36] fun v4 =>K v4 σ)
 (xF (fFld 4) [(locP 3)] fun v25 =>xO (gLoad 1 false [v25] c3) fun v26 =>xF (fBin .mul .no) [.int .i64 1000, v26] fun v27 =>xF (fFld 5) [(locP 2)] fun v28 =>xO (gLoad 1 false [v28] c2) fun v29 =>xF (fFld 0) [(locP 3)] fun v30 =>xF (fFld 2) [v30] fun v31 =>xO (gLoad 1 false [v31] c3) fun v32 =>xF (fBin .mul .no) [v29, v32] fun v33 =>xF (fBin .lss .no) [v27, v33] fun v34 =>xF fPick [.bool false, .bool true, v34] fun v35 =>xF fPick [.bool true, v35, .bool false] fun v36 =>xF fMove [v36] fun v4 =>K v4 σ))
 (xF fPick [.bool false, undef, .bool false] fun v36 =>xF fMove [v36] fun v4 =>K v4 σ)))
def s_c3 : Spec := fun args K σ => match args with
  | [a0, a1] => w_c3 a0 a1 K σ
  | _ => False
noncomputable def cx_c3 : Cx := { P := Tryz.prog, T := [], loc := [(2, 2), (3, 3), (5, 3), (6, 3), (10, 3), (15, 3), (16, 3), (21, 3), (25, 3), (28, 2), (30, 3), (31, 3)], eqt := [], n := 37, keep := [] }
theorem q_c3 : FnS cx_c3 Tryz.f121 (bodyOf Tryz.f121) 2 = s_c3 := by
  funext args K σ
  rcases args with _ | ⟨a0, _ | ⟨a1, _ | ⟨b, r⟩⟩⟩ <;> kernel_rfl
theorem e_c3 : Entry Tryz.prog 121 .none s_c3 :=
  entry (C := cx_c3) TOk.nil mixedOk Tryz.func121 (by kernel_rfl) (by kernel_rfl) (by kernel_rfl) q_c3
attribute [irreducible] w_c3 s_c3
def w_c4_j1b (K : Value → Mem → Prop) (v1 v2 v21 : Value) (σ : Mem) : Prop :=xIf v21
 (xF fMove [v1] fun v22 =>xF fMove [v22] fun v6 =>K v6 σ)
 (xF fMove [v2] fun v23 =>xF fMove [v23] fun v6 =>K v6 σ)
def w_c4_j1 (K : Value → Mem → Prop) (ts : List Value) (ls : List (List Value)) (σ : Mem) : Prop := w_c4_j1b K (ts.getD 0 poison) (ts.getD 1 poison) (ts.getD 2 poison) σ
def w_c4 (a0 a1 a2 : Value) (K : Value → Mem → Prop) (σ : Mem) : Prop :=xF fMove [.int .i64 0] fun v6 =>xJoin (w_c4_j1 K) fun J1 =>xF fMove [a1] fun v7 =>xF (fBin .geq .no) [v7, .int .i64 0] fun v8 =>xF fMove [v8] fun v9 =>xIf v9
 (xF fMove [a0] fun v10 =>xF fMove [a1] fun v11 =>xF (fIxS 6) [v10, v11] fun v12 =>xF (fFld 4) [v12] fun v13 =>hLoad 1 false [v13] (fun v14 σ =>xF fMove [a0] fun v15 =>xF fMove [a2] fun v16 =>xF (fIxS 6) [v15, v16] fun v17 =>xF (fFld 4) [v17] fun v18 =>hLoad 1 false [v18] (fun v19 σ =>xF (fBin .leq .no) [v14, v19] fun v20 =>xF fPick [.bool true, v20, .bool false] fun v21 =>J1 [a1, a2, v21] [] σ) σ) σ)
 (xF fPick [.bool false, undef, .bool false] fun v21 =>J1 [a1, a2, v21] [] σ)
def s_c4 : Spec := fun args K σ => match args with
  | [a0, a1, a2] => w_c4 a0 a1 a2 K σ
  | _ => False
noncomputable def cx_c4 : Cx := { P := Tryz.prog, T := [], loc := [], eqt := [], n := 24, keep := [(1000003, [1, 2, 21], [])] }
theorem q_c4 : FnS cx_c4 Tryz.f122 (bodyOf Tryz.f122) 3 = s_c4 := by
  funext args K σ
  rcases args with _ | ⟨a0, _ | ⟨a1, _ | ⟨a2, _ | ⟨b, r⟩⟩⟩⟩ <;> kernel_rfl
theorem e_c4 : Entry Tryz.prog 122 .read s_c4 :=
  entry (C := cx_c4) TOk.nil mixedOk Tryz.func122 (by kernel_rfl) (by kernel_rfl) (by kernel_rfl) q_c4
attribute [irreducible] w_c4_j1b w_c4_j1 w_c4 s_c4
def w_c2_j1b (K : Value → Mem → Prop) (v5 : Value) (σ : Mem) : Prop :=xF fMove [v5] fun v46 =>xF fMove [v46] fun v4 =>K v4 σ
def w_c2_j1 (K : Value → Mem → Prop) (ts : List Value) (ls : List (List Value)) (σ : Mem) : Prop := w_c2_j1b K (ts.getD 0 poison) σ
def w_c2_j2b (K : Value → Mem → Prop) (J1 : List Value → List (List Value) → Mem → Prop) (R1 : List Value → List (List Value) → Mem → Prop) (v1 v5 v9 v10 v11 : Value) (c2 : List Value) (σ : Mem) : Prop :=xF (fBin .add .no) [v11, .int .i64 1] fun v45 =>xF fMove [v45] fun v11 =>R1 [v1, v5, v9, v10, v11] [c2] σ
def w_c2_j2 (K : Value → Mem → Prop) (J1 : List Value → List (List Value) → Mem → Prop) (R1 : List Value → List (List Value) → Mem → Prop) (ts : List Value) (ls : List (List Value)) (σ : Mem) : Prop := w_c2_j2b K J1 R1 (ts.getD 0 poison) (ts.getD 1 poison) (ts.getD 2 poison) (ts.getD 3 poison) (ts.getD 4 poison) (ls.getD 0 []) σ
def w_c2_j3b (K : Value → Mem → Prop) (J1 : List Value → List (List Value) → Mem → Prop) (R1 : List Value → List (List Value) → Mem → Prop) (J2 : List Value → List (List Value) → Mem → Prop) (v1 v5 v6 v9 v10 v11 : Value) (c2 : List Value) (σ : Mem) : Prop :=xF fMove [v1] fun v41 =>xF fMove [v5] fun v42 =>xF fMove [v6] fun v43 =>s_c4 [v41, v42, v43] (fun v44 σ =>xF fMove [v44] fun v5 =>J2 [v1, v5, v9, v10, v11] [c2] σ) σ
def w_c2_j3 (K : Value → Mem → Prop) (J1 : List Value → List (List Value) → Mem → Prop) (R1 : List Value → List (List Value) → Mem → Prop) (J2 : List Value → List (List Value) → Mem → Prop) (ts : List Value) (ls : List (List Value)) (σ : Mem) : Prop := w_c2_j3b K J1 R1 J2 (ts.getD 0 poison) (ts.getD 1 poison) (ts.getD 2 poison) (ts.getD 3 poison) (ts.getD 4 poison) (ts.getD 5 poison) (ls.getD 0 []) σ
def w_c2_j4b (K : Value → Mem → Prop) (J1 : List Value → List (List Value) → Mem → Prop) (R1 : List Value → List (List Value) → Mem → Prop) (J2 : List Value → List (List Value) → Mem → Prop) (J3 : List Value → List (List Value) → Mem → Prop) (R4 : List Value → List (List Value) → Mem → Prop) (v1 v5 v6 v9 v10 v11 v20 v21 : Value) (c2 c7 : List Value) (σ : Mem) : Prop :=xF (fBin .add .no) [v21, .int .i64 1] fun v40 =>xF fMove [v40] fun v21 =>R4 [v1, v5, v6, v9, v10, v11, v20, v21] [c2, c7] σ
def w_c2_j4 (K : Value → Mem → Prop) (J1 : List Value → List (List Value) → Mem → Prop) (R1 : List Value → List (List Value) → Mem → Prop) (J2 : List Value → List (List Value) → Mem → Prop) (J3 : List Value → List (List Value) → Mem → Prop) (R4 : List Value → List (List Value) → Mem → Prop) (ts : List Value) (ls : List (List Value)) (σ : Mem) : Prop := w_c2_j4b K J1 R1 J2 J3 R4 (ts.getD 0 poison) (ts.getD 1 poison) (ts.getD 2 poison) (ts.getD 3 poison) (ts.getD 4 poison) (ts.getD 5 poison) (ts.getD 6 poison) (ts.getD 7 poison) (ls.getD 0 []) (ls.getD 1 []) σ
def w_policy_Choose_l8b (K : Value → Mem → Prop) (J1 : List Value → List (List Value) → Mem → Prop) (R1 : List Value → List (List Value) → Mem → Prop) (J2 : List Value → List (List Value) → Mem → Prop) (J3 : List Value → List (List Value) → Mem → Prop) (R4 : List Value → List (List Value) → Mem → Prop) (v1 v5 v6 v9 v10 v11 v20 v21 : Value) (c2 c7 : List Value) (σ : Mem) : Prop :=xF (fBin .lss .no) [v21, v20] fun v22 =>xIf v22
 (xJoin (w_c2_j4 K J1 R1 J2 J3 R4) fun J4 =>xF fMove [v21] fun v23 =>xF fMove [v23] fun v8 =>xO (gLoad 7 true [(locP 2)] c2) fun v24 =>xF fMove [v1] fun v25 =>xF fMove [v8] fun v26 =>xF (fIxS 6) [v25, v26] fun v27 =>hLoad 6 true [v27] (fun v28 σ =>s_c3 [v24, v28] (fun v29 σ =>xF fMove [v29] fun v30 =>xIf v30
 (xF fMove [v1] fun v31 =>xF fMove [v8] fun v32 =>xF (fIxS 6) [v31, v32] fun v33 =>xF (fFld 4) [v33] fun v34 =>hLoad 1 false [v34] (fun v35 σ =>xF (fFld 4) [(locP 7)] fun v36 =>xO (gLoad 1 false [v36] c7) fun v37 =>xF (fBin .leq .no) [v35, v37] fun v38 =>xF fPick [.bool true, v38, .bool false] fun v39 =>xIf v39
 (J2 [v1, v5, v9, v10, v11] [c2] σ)
 (J4 [v1, v5, v6, v9, v10, v11, v20, v21] [c2, c7] σ)) σ)
 (xF fPick [.bool false, undef, .bool false] fun v39 =>xIf v39
 (J2 [v1, v5, v9, v10, v11] [c2] σ)
 (J4 [v1, v5, v6, v9, v10, v11, v20, v21] [c2, c7] σ))) σ) σ)
 (J3 [v1, v5, v6, v9, v10, v11] [c2] σ)
def w_policy_Choose_l8 (K : Value → Mem → Prop) (J1 : List Value → List (List Value) → Mem → Prop) (R1 : List Value → List (List Value) → Mem → Prop) (J2 : List Value → List (List Value) → Mem → Prop) (J3 : List Value → List (List Value) → Mem → Prop) (R4 : List Value → List (List Value) → Mem → Prop) (ts : List Value) (ls : List (List Value)) (σ : Mem) : Prop := w_policy_Choose_l8b K J1 R1 J2 J3 R4 (ts.getD 0 poison) (ts.getD 1 poison) (ts.getD 2 poison) (ts.getD 3 poison) (ts.getD 4 poison) (ts.getD 5 poison) (ts.getD 6 poison) (ts.getD 7 poison) (ls.getD 0 []) (ls.getD 1 []) σ
def w_policy_Choose_l4b (K : Value → Mem → Prop) (J1 : List Value → List (List Value) → Mem → Prop) (R1 : List Value → List (List Value) → Mem → Prop) (v1 v5 v9 v10 v11 : Value) (c2 : List Value) (σ : Mem) : Prop :=xF (fBin .lss .no) [v11, v10] fun v12 =>xIf v12
 (xJoin (w_c2_j2 K J1 R1) fun J2 =>xF fMove [v11] fun v13 =>xF (fIxS 6) [v9, v11] fun v14 =>hLoad 6 true [v14] (fun v15 σ =>xF fMove [v13] fun v6 =>xC (gStore 6 [(locP 7), v15] [.int .i64 0, .int .i64 0, .int .i64 0, .int .i64 0, .int .i64 0, .bool false]) fun c7 =>xO (gLoad 7 true [(locP 2)] c2) fun v16 =>xO (gLoad 6 true [(locP 7)] c7) fun v17 =>s_c3 [v16, v17] (fun v18 σ =>xF (fUn .not) [v18] fun v19 =>xIf v19
 (J2 [v1, v5, v9, v10, v11] [c2] σ)
 (xJoin (w_c2_j3 K J1 R1 J2) fun J3 =>xF fMove [v6] fun v20 =>xF fMove [.int .i64 0] fun v21 =>xLoop (w_policy_Choose_l8 K J1 R1 J2 J3) [v1, v5, v6, v9, v10, v11, v20, v21] [c2, c7] σ)) σ) σ)
 (J1 [v5] [] σ)
def w_policy_Choose_l4 (K : Value → Mem → Prop) (J1 : List Value → List (List Value) → Mem → Prop) (R1 : List Value → List (List Value) → Mem → Prop) (ts : List Value) (ls : List (List Value)) (σ : Mem) : Prop := w_policy_Choose_l4b K J1 R1 (ts.getD 0 poison) (ts.getD 1 poison) (ts.getD 2 poison) (ts.getD 3 poison) (ts.getD 4 poison) (ls.getD 0 []) σ
def w_c2 (a0 a1 : Value) (K : Value → Mem → Prop) (σ : Mem) : Prop :=xC (gBox 7 [a0] []) fun c2 =>xF fMove [.int .i64 0] fun v4 =>xF fMove [(.int .i64 (-1))] fun v5 =>xJoin (w_c2_j1 K) fun J1 =>xF fMove [a1] fun v9 =>xF fLen [v9] fun v10 =>xF fMove [.int .i64 0] fun v11 =>xLoop (w_policy_Choose_l4 K J1) [a1, v5, v9, v10, v11] [c2] σ
def s_c2 : Spec := fun args K σ => match args with
  | [a0, a1] => w_c2 a0 a1 K σ
  | _ => False
noncomputable def cx_c2 : Cx := { P := Tryz.prog, T := [(121, .none, s_c3), (122, .read, s_c4)], loc := [(2, 2), (7, 7), (36, 7)], eqt := [], n := 47, keep := [(4, [1, 5, 9, 10, 11], [2]), (8, [1, 5, 6, 9, 10, 11, 20, 21], [2, 7]), (1000011, [1, 5, 6, 9, 10, 11, 20, 21], [2, 7]), (1000012, [1, 5, 6, 9, 10, 11], [2]), (1000013, [1, 5, 9, 10, 11], [2]), (1000014, [5], [])] }
theorem q_c2 : FnS cx_c2 Tryz.f90 (bodyOf Tryz.f90) 2 = s_c2 := by
  funext args K σ
  rcases args with _ | ⟨a0, _ | ⟨a1, _ | ⟨b, r⟩⟩⟩ <;> kernel_rfl
theorem e_c2 : Entry Tryz.prog 90 .write s_c2 :=
  entry (C := cx_c2) (TOk.cons e_c3 (TOk.cons e_c4 TOk.nil)) mixedOk Tryz.func90 (by kernel_rfl) (by kernel_rfl) (by kernel_rfl) q_c2
attribute [irreducible] w_c2_j1b w_c2_j1 w_c2_j2b w_c2_j2 w_c2_j3b w_c2_j3 w_c2_j4b w_c2_j4 w_policy_Choose_l8b w_policy_Choose_l8 w_policy_Choose_l4b w_policy_Choose_l4 w_c2 s_c2
def w_ar_j2b (K : Value → Mem → Prop) (v0 : Value) (σ : Mem) : Prop :=xF fMove [v0] fun v105 =>xF fNil [v105] fun v106 =>xF (fFld 0) [v106] fun v107 =>hStore 1 [v107, .int .i64 1] (fun _v σ =>K (.tuple #[]) σ) σ
def w_ar_j2 (K : Value → Mem → Prop) (ts : List Value) (ls : List (List Value)) (σ : Mem) : Prop := w_ar_j2b K (ts.getD 0 poison) σ
def w_ar_j1b (K : Value → Mem → Prop) (v0 : Value) (c3 : List Value) (σ : Mem) : Prop :=xJoin (w_ar_j2 K) fun J2 =>
(xF fMove [v0] fun v85 =>xF fMove [v0] fun v86 =>xF fNil [v86] fun v87 =>xF (fFld 1) [v87] fun v88 =>hLoad 1 false [v88] (fun v89 σ =>xO (gLoad 9 true [(locP 3)] c3) fun v90 =>xF (fFld 0) [(locP 3)] fun v91 =>xO (gLoad 7 true [v91] c3) fun v92 =>xF fMove [v0] fun v93 =>xF fNil [v93] fun v94 =>xF (fFld 2) [v94] fun v95 =>hLoad 1 false [v95] (fun v96 σ =>s_br [v92, v96] (fun v97 σ =>s_bv [v90, v97] (fun v98 σ =>s_da [v98] (fun v99 σ =>xF (fBuild [(0, 4), (4, 1), (5, 1)] [.int .i64 0, .int .i64 0, .int .i64 0, .int .i64 0, .int .i64 0, .bool false] [0]) [v99] fun v100 =>xC (gBuildS 6 1 [.int .i64 0, .int .i64 0, .int .i64 0, .int .i64 0, .int .i64 0, .bool false] [0] [v100] []) fun c101 =>hAppendL 6 48 c101 [v89, (locS 101 1 6)] (fun v102 σ =>xF fNil [v85] fun v103 =>xF (fFld 1) [v103] fun v104 =>hStore 1 [v104, v102] (fun _v σ =>J2 [v0] [] σ) σ) σ) σ) σ) σ) σ) σ) ∧
(xO (gLoad 9 true [(locP 3)] c3) fun v90 =>xF (fFld 0) [(locP 3)] fun v91 =>xO (gLoad 7 true [v91] c3) fun v92 =>xF fMove [v0] fun v93 =>xF fNil [v93] fun v94 =>xF (fFld 2) [v94] fun v95 =>hLoad 1 false [v95] (fun v96 σ =>s_br [v92, v96] (fun v97 σ =>s_bv [v90, v97] (fun v98 σ =>xF fMove [v0] fun v85 =>xF fMove [v0] fun v86 =>xF fNil [v86] fun v87 =>xF (fFld 1) [v87] fun v88 =>hLoad 1 false [v88] (fun v89 σ =>s_da [v98] (fun v99 σ =>xF (fBuild [(0, 4), (4, 1), (5, 1)] [.int .i64 0, .int .i64 0, .int .i64 0, .int .i64 0, .int .i64 0, .bool false] [0]) [v99] fun v100 =>xC (gBuildS 6 1 [.int .i64 0, .int .i64 0, .int .i64 0, .int .i64 0, .int .i64 0, .bool false] [0] [v100] []) fun c101 =>hAppendL 6 48 c101 [v89, (locS 101 1 6)] (fun v102 σ =>xF fNil [v85] fun v103 =>xF (fFld 1) [v103] fun v104 =>hStore 1 [v104, v102] (fun _v σ =>J2 [v0] [] σ) σ) σ) σ) σ) σ) σ) σ)
def w_ar_j1 (K : Value → Mem → Prop) (ts : List Value) (ls : List (List Value)) (σ : Mem) : Prop := w_ar_j1b K (ts.getD 0 poison) (ls.getD 0 []) σ
def w_ar_j3b (K : Value → Mem → Prop) (v0 : Value) (c3 : List Value) (σ : Mem) : Prop :=xF fMove [v0] fun v131 =>xF fMove [v0] fun v132 =>xF fMove [v0] fun v133 =>xF fNil [v133] fun v134 =>xF (fFld 2) [v134] fun v135 =>hLoad 1 false [v135] (fun v136 σ =>xF (fBin .add .no) [v136, .int .i64 1] fun v137 =>xF fNil [v131] fun v138 =>xF (fFld 2) [v138] fun v139 =>hStore 1 [v139, v137] (fun _v σ =>xF fNil [v132] fun v140 =>xF (fFld 0) [v140] fun v141 =>hStore 1 [v141, .int .i64 0] (fun _v σ =>xF fMove [v0] fun v142 =>xF fNil [v142] fun v143 =>xF (fFld 2) [v143] fun v144 =>hLoad 1 false [v144] (fun v145 σ =>xF (fFld 0) [(locP 3)] fun v146 =>xF (fFld 2) [v146] fun v147 =>xO (gLoad 1 false [v147] c3) fun v148 =>xF (fBin .geq .no) [v145, v148] fun v149 =>xIf v149
 (xF fMove [v0] fun v150 =>xF fMove [v0] fun v151 =>xF fNil [v150] fun v152 =>xF (fFld 2) [v152] fun v153 =>hStore 1 [v153, .int .i64 0] (fun _v σ =>xF fNil [v151] fun v154 =>xF (fFld 0) [v154] fun v155 =>hStore 1 [v155, .int .i64 2] (fun _v σ =>K (.tuple #[]) σ) σ) σ)
 (K (.tuple #[]) σ)) σ) σ) σ) σ
def w_ar_j3 (K : Value → Mem → Prop) (ts : List Value) (ls : List (List Value)) (σ : Mem) : Prop := w_ar_j3b K (ts.getD 0 poison) (ls.getD 0 []) σ
def w_ar_j4b (K : Value → Mem → Prop) (v0 : Value) (c3 : List Value) (σ : Mem) : Prop :=xF fMove [v0] fun v27 =>xF fNil [v27] fun v28 =>xF (fFld 2) [v28] fun v29 =>hLoad 1 false [v29] (fun v30 σ =>xF (fBin .add .no) [v30, .int .i64 1] fun v31 =>xF fNil [v27] fun v32 =>xF (fFld 2) [v32] fun v33 =>hStore 1 [v33, v31] (fun _v σ =>xF fMove [v0] fun v34 =>xF fNil [v34] fun v35 =>xF (fFld 2) [v35] fun v36 =>hLoad 1 false [v36] (fun v37 σ =>xF (fBin .lss .no) [v37, .int .i64 4] fun v38 =>xIf v38
 (K (.tuple #[]) σ)
 (xF fMove [v0] fun v39 =>xF fMove [v0] fun v40 =>xF (fFld 0) [(locP 3)] fun v41 =>xO (gLoad 7 true [v41] c3) fun v42 =>xF fMove [v0] fun v43 =>xF fNil [v43] fun v44 =>xF (fFld 1) [v44] fun v45 =>hLoad 1 false [v45] (fun v46 σ =>s_c2 [v42, v46] (fun v47 σ =>xF fNil [v39] fun v48 =>xF (fFld 2) [v48] fun v49 =>hStore 1 [v49, v47] (fun _v σ =>xF fNil [v40] fun v50 =>xF (fFld 0) [v50] fun v51 =>hStore 1 [v51, .int .i64 3] (fun _v σ =>xF fMove [v0] fun v52 =>xF fNil [v52] fun v53 =>xF (fFld 2) [v53] fun v54 =>hLoad 1 false [v54] (fun v55 σ =>xF (fBin .lss .no) [v55, .int .i64 0] fun v56 =>xIf v56
 (xF fMove [v0] fun v57 =>xF fNil [v57] fun v58 =>xF (fFld 0) [v58] fun v59 =>hStore 1 [v59, .int .i64 10] (fun _v σ =>K (.tuple #[]) σ) σ)
 (xF fMove [v0] fun v60 =>xF fMove [v0] fun v61 =>xF fNil [v61] fun v62 =>xF (fFld 1) [v62] fun v63 =>hLoad 1 false [v63] (fun v64 σ =>xF fMove [v0] fun v65 =>xF fNil [v65] fun v66 =>xF (fFld 2) [v66] fun v67 =>hLoad 1 false [v67] (fun v68 σ =>xF (fIxS 6) [v64, v68] fun v69 =>xF (fFld 0) [v69] fun v70 =>hLoad 4 true [v70] (fun v71 σ =>s_de [v71] (fun v72 σ =>xF fNil [v60] fun v73 =>xF (fFld 4) [v73] fun v74 =>hStore 1 [v74, v72] (fun _v σ =>K (.tuple #[]) σ) σ) σ) σ) σ) σ)) σ) σ) σ) σ) σ)) σ) σ) σ
def w_ar_j4 (K : Value → Mem → Prop) (ts : List Value) (ls : List (List Value)) (σ : Mem) : Prop := w_ar_j4b K (ts.getD 0 poison) (ls.getD 0 []) σ
def w_ar (a0 a1 : Value) (K : Value → Mem → Prop) (σ : Mem) : Prop :=xC (gBox 9 [a1] []) fun c3 =>xF fMove [a0] fun v5 =>xF fNil [v5] fun v6 =>xF (fFld 0) [v6] fun v7 =>hLoad 1 false [v7] (fun v8 σ =>xF (fBin .eql .no) [v8, .int .i64 0] fun v76 =>xF fMove [v76] fun v75 =>xIf v75
 (xJoin (w_ar_j1 K) fun J1 =>xF fMove [a0] fun v77 =>xF fNil [v77] fun v78 =>xF (fFld 2) [v78] fun v79 =>hLoad 1 false [v79] (fun v80 σ =>xF (fBin .eql .no) [v80, .int .i64 0] fun v81 =>xIf v81
 (xF fMove [a0] fun v82 =>xF fNil [v82] fun v83 =>xF (fFld 1) [v83] fun v84 =>hStore 1 [v84, (.slice none 0 0)] (fun _v σ =>J1 [a0] [c3] σ) σ)
 (J1 [a0] [c3] σ)) σ)
 (xF (fBin .eql .no) [v8, .int .i64 1] fun v109 =>xF fMove [v109] fun v108 =>xIf v108
 (xJoin (w_ar_j3 K) fun J3 =>
(xF fMove [a0] fun v110 =>xF fNil [v110] fun v111 =>xF (fFld 1) [v111] fun v112 =>hLoad 1 false [v112] (fun v113 σ =>xF fMove [a0] fun v114 =>xF fNil [v114] fun v115 =>xF (fFld 2) [v115] fun v116 =>hLoad 1 false [v116] (fun v117 σ =>xO (gLoad 9 true [(locP 3)] c3) fun v118 =>xF (fFld 0) [(locP 3)] fun v119 =>xO (gLoad 7 true [v119] c3) fun v120 =>xF fMove [a0] fun v121 =>xF fNil [v121] fun v122 =>xF (fFld 2) [v122] fun v123 =>hLoad 1 false [v123] (fun v124 σ =>s_br [v120, v124] (fun v125 σ =>xF (fBin .add .no) [v125, .int .i64 1] fun v126 =>s_bv [v118, v126] (fun v127 σ =>xF (fConv .i64) [v127] fun v128 =>xF (fIxS 6) [v113, v117] fun v129 =>xF (fFld 4) [v129] fun v130 =>hStore 1 [v130, v128] (fun _v σ =>J3 [a0] [c3] σ) σ) σ) σ) σ) σ) σ) ∧
(xF fMove [a0] fun v110 =>xF fNil [v110] fun v111 =>xF (fFld 1) [v111] fun v112 =>hLoad 1 false [v112] (fun v113 σ =>xO (gLoad 9 true [(locP 3)] c3) fun v118 =>xF (fFld 0) [(locP 3)] fun v119 =>xO (gLoad 7 true [v119] c3) fun v120 =>xF fMove [a0] fun v121 =>xF fNil [v121] fun v122 =>xF (fFld 2) [v122] fun v123 =>hLoad 1 false [v123] (fun v124 σ =>s_br [v120, v124] (fun v125 σ =>xF (fBin .add .no) [v125, .int .i64 1] fun v126 =>s_bv [v118, v126] (fun v127 σ =>xF fMove [a0] fun v114 =>xF fNil [v114] fun v115 =>xF (fFld 2) [v115] fun v116 =>hLoad 1 false [v116] (fun v117 σ =>xF (fConv .i64) [v127] fun v128 =>xF (fIxS 6) [v113, v117] fun v129 =>xF (fFld 4) [v129] fun v130 =>hStore 1 [v130, v128] (fun _v σ =>J3 [a0] [c3] σ) σ) σ) σ) σ) σ) σ) ∧
(xF fMove [a0] fun v114 =>xF fNil [v114] fun v115 =>xF (fFld 2) [v115] fun v116 =>hLoad 1 false [v116] (fun v117 σ =>xO (gLoad 9 true [(locP 3)] c3) fun v118 =>xF (fFld 0) [(locP 3)] fun v119 =>xO (gLoad 7 true [v119] c3) fun v120 =>xF fMove [a0] fun v121 =>xF fNil [v121] fun v122 =>xF (fFld 2) [v122] fun v123 =>hLoad 1 false [v123] (fun v124 σ =>s_br [v120, v124] (fun v125 σ =>xF (fBin .add .no) [v125, .int .i64 1] fun v126 =>s_bv [v118, v126] (fun v127 σ =>xF fMove [a0] fun v110 =>xF fNil [v110] fun v111 =>xF (fFld 1) [v111] fun v112 =>hLoad 1 false [v112] (fun v113 σ =>xF (fConv .i64) [v127] fun v128 =>xF (fIxS 6) [v113, v117] fun v129 =>xF (fFld 4) [v129] fun v130 =>hStore 1 [v130, v128] (fun _v σ =>J3 [a0] [c3] σ) σ) σ) σ) σ) σ) σ) ∧
(xO (gLoad 9 true [(locP 3)] c3) fun v118 =>xF (fFld 0) [(locP 3)] fun v119 =>xO (gLoad 7 true [v119] c3) fun v120 =>xF fMove [a0] fun v121 =>xF fNil [v121] fun v122 =>xF (fFld 2) [v122] fun v123 =>hLoad 1 false [v123] (fun v124 σ =>s_br [v120, v124] (fun v125 σ =>xF (fBin .add .no) [v125, .int .i64 1] fun v126 =>s_bv [v118, v126] (fun v127 σ =>xF fMove [a0] fun v110 =>xF fNil [v110] fun v111 =>xF (fFld 1) [v111] fun v112 =>hLoad 1 false [v112] (fun v113 σ =>xF fMove [a0] fun v114 =>xF fNil [v114] fun v115 =>xF (fFld 2) [v115] fun v116 =>hLoad 1 false [v116] (fun v117 σ =>xF (fConv .i64) [v127] fun v128 =>xF (fIxS 6) [v113, v117] fun v129 =>xF (fFld 4) [v129] fun v130 =>hStore 1 [v130, v128] (fun _v σ =>J3 [a0] [c3] σ) σ) σ) σ) σ) σ) σ))
 (xJoin (w_ar_j4 K) fun J4 =>xO (gLoad 9 true [(locP 3)] c3) fun v9 =>xF fMove [a0] fun v10 =>xF fNil [v10] fun v11 =>xF (fFld 2) [v11] fun v12 =>hLoad 1 false [v12] (fun v13 σ =>s_b2 [v13] (fun v14 σ =>s_bv [v9, v14] (fun v15 σ =>xF (fConv .i64) [v15] fun v16 =>xF fMove [v16] fun v4 =>xF fMove [v4] fun v17 =>xF (fBin .gtr .no) [v17, .int .i64 0] fun v18 =>xIf v18
 (xF fMove [a0] fun v19 =>xF fNil [v19] fun v20 =>xF (fFld 1) [v20] fun v21 =>hLoad 1 false [v21] (fun v22 σ =>xF fMove [v4] fun v23 =>xF (fBin .sub .no) [v23, .int .i64 1] fun v24 =>xF (fIxS 6) [v22, v24] fun v25 =>xF (fFld 5) [v25] fun v26 =>hStore 1 [v26, .bool true] (fun _v σ =>J4 [a0] [c3] σ) σ) σ)
 (J4 [a0] [c3] σ)) σ) σ) σ))) σ
def s_ar : Spec := fun args K σ => match args with
  | [a0, a1] => w_ar a0 a1 K σ
  | _ => False
noncomputable def cx_ar : Cx := { P := Tryz.prog, T := [(23, .none, s_br), (54, .write, s_bv), (22, .none, s_da), (35, .none, s_b2), (90, .write, s_c2), (91, .none, s_de)], loc := [(3, 3), (41, 3), (91, 3), (101, 101), (119, 3), (146, 3), (147, 3)], eqt := [], n := 156, keep := [(1000006, [0], [3]), (1000015, [0], [3]), (1000016, [0], []), (1000019, [0], [3])], alt := [(14, 13, [4], [([4], [0, 1, 2, 3, 4, 5, 6, 7, 8, 9, 10, 11, 12, 13, 14, 15, 16, 17, 18, 19, 20]), ([], [5, 6, 7, 8, 9, 10, 11, 12, 13, 0, 1, 2, 3, 4, 14, 15, 16, 17, 18, 19, 20])]), (17, 17, [3, 7], [([3, 7], [0, 1, 2, 3, 4, 5, 6, 7, 8, 9, 10, 11, 12, 13, 14, 15, 16, 17, 18, 19, 20, 21]), ([3], [0, 1, 2, 3, 8, 9, 10, 11, 12, 13, 14, 15, 16, 17, 4, 5, 6, 7, 18, 19, 20, 21]), ([7], [4, 5, 6, 7, 8, 9, 10, 11, 12, 13, 14, 15, 16, 17, 0, 1, 2, 3, 18, 19, 20, 21]), ([], [8, 9, 10, 11, 12, 13, 14, 15, 16, 17, 0, 1, 2, 3, 4, 5, 6, 7, 18, 19, 20, 21])])] }
theorem q_ar : FnS cx_ar Tryz.f48 (bodyOf Tryz.f48) 2 = s_ar := by
  funext args K σ
  rcases args with _ | ⟨a0, _ | ⟨a1, _ | ⟨b, r⟩⟩⟩ <;> kernel_rfl
theorem e_ar : Entry Tryz.prog 48 .write s_ar :=
  entry (C := cx_ar) (TOk.cons e_br (TOk.cons e_bv (TOk.cons e_da (TOk.cons e_b2 (TOk.cons e_c2 (TOk.cons e_de TOk.nil)))))) mixedOk Tryz.func48 (by kernel_rfl) (by kernel_rfl) (by kernel_rfl) q_ar
attribute [irreducible] w_ar_j2b w_ar_j2 w_ar_j1b w_ar_j1 w_ar_j3b w_ar_j3 w_ar_j4b w_ar_j4 w_ar s_ar
def w_aq (a0 a1 : Value) (K : Value → Mem → Prop) (σ : Mem) : Prop :=xF fMove [.int .u64 0] fun v4 =>xF fMove [a0] fun v6 =>xF fNil [v6] fun v7 =>xF (fFld 4) [v7] fun v8 =>hLoad 1 false [v8] (fun v9 σ =>s_da [v9] (fun v10 σ =>xC (gStore 4 [(locP 5), v10] [.int .i64 0, .int .i64 0, .int .i64 0, .int .i64 0]) fun c5 =>xF fMove [a1] fun v11 =>xF (fFld 3) [(locP 5)] fun v12 =>xO (gLoad 1 false [v12] c5) fun v13 =>xF (fBin .add .no) [v13, .int .i64 1] fun v14 =>xF (fFld 0) [(locP 5)] fun v15 =>xC (gStore 1 [v15, v11] c5) fun c5 =>xF (fFld 3) [(locP 5)] fun v16 =>xC (gStore 1 [v16, v14] c5) fun c5 =>xO (gLoad 4 true [(locP 5)] c5) fun v17 =>s_de [v17] (fun v18 σ =>xF fMove [v18] fun v4 =>K v4 σ) σ) σ) σ
def s_aq : Spec := fun args K σ => match args with
  | [a0, a1] => w_aq a0 a1 K σ
  | _ => False
noncomputable def cx_aq : Cx := { P := Tryz.prog, T := [(22, .none, s_da), (91, .none, s_de)], loc := [(5, 5), (12, 5), (15, 5), (16, 5)], eqt := [], n := 19, keep := [] }
theorem q_aq : FnS cx_aq Tryz.f50 (bodyOf Tryz.f50) 2 = s_aq := by
  funext args K σ
  rcases args with _ | ⟨a0, _ | ⟨a1, _ | ⟨b, r⟩⟩⟩ <;> kernel_rfl
theorem e_aq : Entry Tryz.prog 50 .read s_aq :=
  entry (C := cx_aq) (TOk.cons e_da (TOk.cons e_de TOk.nil)) mixedOk Tryz.func50 (by kernel_rfl) (by kernel_rfl) (by kernel_rfl) q_aq
attribute [irreducible] w_aq s_aq
def w_at (a0 a1 : Value) (K : Value → Mem → Prop) (σ : Mem) : Prop :=xC (gBox 4 [a1] []) fun c3 =>xF fMove [a0] fun v4 =>xF fMove [a0] fun v5 =>xF fMove [a0] fun v6 =>xF fNil [v6] fun v7 =>xF (fFld 3) [v7] fun v8 =>hLoad 1 false [v8] (fun v9 σ =>xF (fFld 1) [(locP 3)] fun v10 =>xO (gLoad 1 false [v10] c3) fun v11 =>s_b4 [v11] (fun v12 σ =>xF (fBin .add .no) [v9, v12] fun v13 =>xF fNil [v4] fun v14 =>xF (fFld 3) [v14] fun v15 =>hStore 1 [v15, v13] (fun _v σ =>xF fNil [v5] fun v16 =>xF (fFld 0) [v16] fun v17 =>hStore 1 [v17, .int .i64 4] (fun _v σ =>xF fMove [a0] fun v18 =>xF fNil [v18] fun v19 =>xF (fFld 3) [v19] fun v20 =>hLoad 1 false [v20] (fun v21 σ =>xF (fFld 2) [(locP 3)] fun v22 =>xO (gLoad 1 false [v22] c3) fun v23 =>xF (fBin .geq .no) [v21, v23] fun v24 =>xIf v24
 (xF fMove [a0] fun v25 =>xF fNil [v25] fun v26 =>xF (fFld 0) [v26] fun v27 =>hStore 1 [v27, .int .i64 6] (fun _v σ =>K (.tuple #[]) σ) σ)
 (K (.tuple #[]) σ)) σ) σ) σ) σ) σ
def s_at : Spec := fun args K σ => match args with
  | [a0, a1] => w_at a0 a1 K σ
  | _ => False
noncomputable def cx_at : Cx := { P := Tryz.prog, T := [(80, .none, s_b4)], loc := [(3, 3), (10, 3), (22, 3)], eqt := [], n := 28, keep := [] }
theorem q_at : FnS cx_at Tryz.f94 (bodyOf Tryz.f94) 2 = s_at := by
  funext args K σ
  rcases args with _ | ⟨a0, _ | ⟨a1, _ | ⟨b, r⟩⟩⟩ <;> kernel_rfl
theorem e_at : Entry Tryz.prog 94 .write s_at :=
  entry (C := cx_at) (TOk.cons e_b4 TOk.nil) mixedOk Tryz.func94 (by kernel_rfl) (by kernel_rfl) (by kernel_rfl) q_at
attribute [irreducible] w_at s_at
def w_ct (a0 a1 : Value) (K : Value → Mem → Prop) (σ : Mem) : Prop :=xC (gBox 5 [a1] []) fun c3 =>xF fMove [.pointer none] fun v4 =>xF fMove [a0] fun v5 =>xO (gLoad 5 true [(locP 3)] c3) fun v6 =>xF (fBuild [(0, 1), (1, 5), (6, 1), (7, 1), (8, 1), (9, 2), (11, 1), (12, 1), (13, 1), (14, 1), (15, 1)] [.int .i64 0, .int .i64 0, .int .i64 0, .int .i64 0, .int .i64 0, .bool false, .int .i64 0, .int .u64 0, .pointer none, .int .i64 0, .int .i64 0, .bool false, .int .i64 0, .int .u64 0, .int .i64 0, .int .i64 0] [0, 1]) [v5, v6] fun v7 =>hBox 16 [v7] (fun v8 σ =>xF fMove [v8] fun v4 =>K v4 σ) σ
def s_ct : Spec := fun args K σ => match args with
  | [a0, a1] => w_ct a0 a1 K σ
  | _ => False
noncomputable def cx_ct : Cx := { P := Tryz.prog, T := [], loc := [(3, 3)], eqt := [], n := 9, keep := [] }
theorem q_ct : FnS cx_ct Tryz.f95 (bodyOf Tryz.f95) 2 = s_ct := by
  funext args K σ
  rcases args with _ | ⟨a0, _ | ⟨a1, _ | ⟨b, r⟩⟩⟩ <;> kernel_rfl
theorem e_ct : Entry Tryz.prog 95 .write s_ct :=
  entry (C := cx_ct) TOk.nil mixedOk Tryz.func95 (by kernel_rfl) (by kernel_rfl) (by kernel_rfl) q_ct
attribute [irreducible] w_ct s_ct
def w_av (a0 a1 : Value) (K : Value → Mem → Prop) (σ : Mem) : Prop :=xC (gBox 9 [a1] []) fun c3 =>xF fMove [a0] fun v7 =>xF fNil [v7] fun v8 =>xF (fFld 4) [v8] fun v9 =>hLoad 1 false [v9] (fun v10 σ =>s_da [v10] (fun v11 σ =>xC (gStore 4 [(locP 4), v11] [.int .i64 0, .int .i64 0, .int .i64 0, .int .i64 0]) fun c4 =>xF (fFld 0) [(locP 3)] fun v12 =>xO (gLoad 7 true [v12] c3) fun v13 =>xF fMove [a0] fun v14 =>xF fNil [v14] fun v15 =>xF (fFld 2) [v15] fun v16 =>hLoad 1 false [v16] (fun v17 σ =>s_bp [v13, v17] (fun v18 σ =>xF fMove [a0] fun v19 =>xF fNil [v19] fun v20 =>xF (fFld 3) [v20] fun v21 =>hLoad 1 false [v21] (fun v22 σ =>xF (fBin .add .no) [v18, v22] fun v23 =>xF fMove [v23] fun v5 =>xO (gLoad 9 true [(locP 3)] c3) fun v24 =>xF fMove [v5] fun v25 =>s_bv [v24, v25] (fun v26 σ =>s_dc [v26] (fun v27 σ =>xC (gStore 5 [(locP 6), v27] [.int .i64 0, .int .i64 0, .int .i64 0, .int .i64 0, .bool false]) fun c6 =>xF (fFld 0) [(locP 6)] fun v28 =>xO (gLoad 1 false [v28] c6) fun v29 =>xF (fBin .eql .no) [v29, .int .i64 3] fun v34 =>xF fMove [v34] fun v33 =>xIf v33
 (xF fMove [a0] fun v35 =>xO (gLoad 4 true [(locP 4)] c4) fun v36 =>s_at [v35, v36] (fun v37 σ =>K (.tuple #[]) σ) σ)
 (xF (fBin .eql .no) [v29, .int .i64 2] fun v39 =>xF fMove [v39] fun v38 =>xIf v38
 (xF fMove [a0] fun v40 =>xF fMove [a0] fun v41 =>xF fMove [v5] fun v42 =>xO (gLoad 5 true [(locP 6)] c6) fun v43 =>s_ct [v42, v43] (fun v44 σ =>xF fNil [v40] fun v45 =>xF (fFld 6) [v45] fun v46 =>hStore 1 [v46, v44] (fun _v σ =>xF fNil [v41] fun v47 =>xF (fFld 0) [v47] fun v48 =>hStore 1 [v48, .int .i64 5] (fun _v σ =>K (.tuple #[]) σ) σ) σ) σ)
 (xF fMove [a0] fun v30 =>xF fNil [v30] fun v31 =>xF (fFld 0) [v31] fun v32 =>hStore 1 [v32, .int .i64 9] (fun _v σ =>K (.tuple #[]) σ) σ))) σ) σ) σ) σ) σ) σ) σ
def s_av : Spec := fun args K σ => match args with
  | [a0, a1] => w_av a0 a1 K σ
  | _ => False
noncomputable def cx_av : Cx := { P := Tryz.prog, T := [(22, .none, s_da), (24, .none, s_bp), (54, .write, s_bv), (31, .none, s_dc), (94, .write, s_at), (95, .write, s_ct)], loc := [(3, 3), (4, 4), (6, 6), (12, 3), (28, 6)], eqt := [], n := 49, keep := [] }
theorem q_av : FnS cx_av Tryz.f51 (bodyOf Tryz.f51) 2 = s_av := by
  funext args K σ
  rcases args with _ | ⟨a0, _ | ⟨a1, _ | ⟨b, r⟩⟩⟩ <;> kernel_rfl
theorem e_av : Entry Tryz.prog 51 .write s_av :=
  entry (C := cx_av) (TOk.cons e_da (TOk.cons e_bp (TOk.cons e_bv (TOk.cons e_dc (TOk.cons e_at (TOk.cons e_ct TOk.nil)))))) mixedOk Tryz.func51 (by kernel_rfl) (by kernel_rfl) (by kernel_rfl) q_av
attribute [irreducible] w_av s_av
def w_cs (a0 a1 : Value) (K : Value → Mem → Prop) (σ : Mem) : Prop :=xC (gBox 9 [a1] []) fun c3 =>xF fMove [.int .i64 0] fun v4 =>xF (fFld 0) [(locP 3)] fun v5 =>xO (gLoad 7 true [v5] c3) fun v6 =>xF fMove [a0] fun v7 =>xF fNil [v7] fun v8 =>xF (fFld 1) [v8] fun v9 =>xF (fFld 2) [v9] fun v10 =>hLoad 1 false [v10] (fun v11 σ =>s_b5 [v6, v11] (fun v12 σ =>xF fMove [v12] fun v4 =>K v4 σ) σ) σ
def s_cs : Spec := fun args K σ => match args with
  | [a0, a1] => w_cs a0 a1 K σ
  | _ => False
noncomputable def cx_cs : Cx := { P := Tryz.prog, T := [(63, .none, s_b5)], loc := [(3, 3), (5, 3)], eqt := [], n := 13, keep := [] }
theorem q_cs : FnS cx_cs Tryz.f99 (bodyOf Tryz.f99) 2 = s_cs := by
  funext args K σ
  rcases args with _ | ⟨a0, _ | ⟨a1, _ | ⟨b, r⟩⟩⟩ <;> kernel_rfl
theorem e_cs : Entry Tryz.prog 99 .read s_cs :=
  entry (C := cx_cs) (TOk.cons e_b5 TOk.nil) mixedOk Tryz.func99 (by kernel_rfl) (by kernel_rfl) (by kernel_rfl) q_cs
attribute [irreducible] w_cs s_cs
def w_cp_j1b (K : Value → Mem → Prop) (v0 : Value) (σ : Mem) : Prop :=xF fMove [v0] fun v16 =>xF fNil [v16] fun v17 =>xF (fFld 11) [v17] fun v18 =>hLoad 1 false [v18] (fun v19 σ =>xF (fUn .not) [v19] fun v20 =>xF fMove [v20] fun v4 =>K v4 σ) σ
def w_cp_j1 (K : Value → Mem → Prop) (ts : List Value) (ls : List (List Value)) (σ : Mem) : Prop := w_cp_j1b K (ts.getD 0 poison) σ
def w_cp (a0 a1 : Value) (K : Value → Mem → Prop) (σ : Mem) : Prop :=xF fMove [.bool false] fun v4 =>xF fMove [a0] fun v5 =>xF fMove [a1] fun v6 =>xF fNil [v5] fun v7 =>xF (fFld 15) [v7] fun v8 =>hStore 1 [v8, v6] (fun _v σ =>xJoin (w_cp_j1 K) fun J1 =>xF fMove [a0] fun v9 =>xF fNil [v9] fun v10 =>xF (fFld 11) [v10] fun v11 =>hLoad 1 false [v11] (fun v12 σ =>xIf v12
 (xF fMove [a0] fun v13 =>xF fNil [v13] fun v14 =>xF (fFld 6) [v14] fun v15 =>hStore 1 [v15, .int .i64 11] (fun _v σ =>J1 [a0] [] σ) σ)
 (J1 [a0] [] σ)) σ) σ
def s_cp : Spec := fun args K σ => match args with
  | [a0, a1] => w_cp a0 a1 K σ
  | _ => False
noncomputable def cx_cp : Cx := { P := Tryz.prog, T := [], loc := [], eqt := [], n := 21, keep := [(1000005, [0], [])] }
theorem q_cp : FnS cx_cp Tryz.f97 (bodyOf Tryz.f97) 2 = s_cp := by
  funext args K σ
  rcases args with _ | ⟨a0, _ | ⟨a1, _ | ⟨b, r⟩⟩⟩ <;> kernel_rfl
theorem e_cp : Entry Tryz.prog 97 .write s_cp :=
  entry (C := cx_cp) TOk.nil mixedOk Tryz.func97 (by kernel_rfl) (by kernel_rfl) (by kernel_rfl) q_cp
attribute [irreducible] w_cp_j1b w_cp_j1 w_cp s_cp
def w_cq_j1b (K : Value → Mem → Prop) (σ : Mem) : Prop :=xF fMove [.bool false] fun v4 =>K v4 σ
def w_cq_j1 (K : Value → Mem → Prop) (ts : List Value) (ls : List (List Value)) (σ : Mem) : Prop := w_cq_j1b K σ
def w_cq_j3b (K : Value → Mem → Prop) (J1 : List Value → List (List Value) → Mem → Prop) (v0 v57 : Value) (c5 : List Value) (σ : Mem) : Prop :=xIf v57
 (xF fMove [v0] fun v80 =>s_cp [v80, .int .i64 2] (fun v81 σ =>xF fMove [v81] fun v4 =>K v4 σ) σ)
 (xF (fFld 3) [(locP 5)] fun v83 =>xO (gLoad 1 false [v83] c5) fun v84 =>xF (fBin .geq .no) [v84, .int .i64 4194302] fun v85 =>xF fMove [v85] fun v82 =>xIf v82
 (xF fMove [v0] fun v86 =>s_cp [v86, .int .i64 3] (fun v87 σ =>xF fMove [v87] fun v4 =>K v4 σ) σ)
 (xF fMove [v0] fun v89 =>xF fNil [v89] fun v90 =>xF (fFld 11) [v90] fun v91 =>hLoad 1 false [v91] (fun v92 σ =>xF fMove [v92] fun v88 =>xIf v88
 (xF fMove [v0] fun v93 =>xF fNil [v93] fun v94 =>xF (fFld 6) [v94] fun v95 =>hStore 1 [v95, .int .i64 3] (fun _v σ =>J1 [] [] σ) σ)
 (xF fMove [v0] fun v19 =>xF fMove [v0] fun v20 =>xF fMove [v0] fun v21 =>xF fNil [v21] fun v22 =>xF (fFld 1) [v22] fun v23 =>xF (fFld 1) [v23] fun v24 =>hLoad 1 false [v24] (fun v25 σ =>s_bs [v25] (fun v26 σ =>s_cw [v26] (fun v27 σ =>xF fNil [v19] fun v28 =>xF (fFld 8) [v28] fun v29 =>hStore 1 [v29, v27] (fun _v σ =>xF fNil [v20] fun v30 =>xF (fFld 6) [v30] fun v31 =>hStore 1 [v31, .int .i64 1] (fun _v σ =>J1 [] [] σ) σ) σ) σ) σ) σ)) σ))
def w_cq_j3 (K : Value → Mem → Prop) (J1 : List Value → List (List Value) → Mem → Prop) (ts : List Value) (ls : List (List Value)) (σ : Mem) : Prop := w_cq_j3b K J1 (ts.getD 0 poison) (ts.getD 1 poison) (ls.getD 0 []) σ
def w_cq_j2b (K : Value → Mem → Prop) (J1 : List Value → List (List Value) → Mem → Prop) (v0 v32 : Value) (c5 : List Value) (σ : Mem) : Prop :=xIf v32
 (xF fMove [v0] fun v55 =>s_cp [v55, .int .i64 3] (fun v56 σ =>xF fMove [v56] fun v4 =>K v4 σ) σ)
 (xJoin (w_cq_j3 K J1) fun J3 =>xF (fFld 0) [(locP 5)] fun v58 =>xO (gLoad 1 false [v58] c5) fun v59 =>xF (fBin .neq .no) [v59, .int .i64 1] fun v60 =>xF fMove [v60] fun v61 =>xIf v61
 (xF fPick [.bool true, .bool true, undef] fun v70 =>xF fMove [v70] fun v71 =>xIf v71
 (xF fPick [.bool true, .bool true, undef] fun v79 =>xF fMove [v79] fun v57 =>J3 [v0, v57] [c5] σ)
 (xF (fFld 1) [(locP 5)] fun v72 =>xO (gLoad 1 false [v72] c5) fun v73 =>xF fMove [v0] fun v74 =>xF fNil [v74] fun v75 =>xF (fFld 0) [v75] fun v76 =>hLoad 1 false [v76] (fun v77 σ =>xF (fBin .neq .no) [v73, v77] fun v78 =>xF fPick [.bool false, .bool true, v78] fun v79 =>xF fMove [v79] fun v57 =>J3 [v0, v57] [c5] σ) σ))
 (xF (fFld 2) [(locP 5)] fun v62 =>xO (gLoad 1 false [v62] c5) fun v63 =>xF fMove [v0] fun v64 =>xF fNil [v64] fun v65 =>xF (fFld 1) [v65] fun v66 =>xF (fFld 3) [v66] fun v67 =>hLoad 1 false [v67] (fun v68 σ =>xF (fBin .neq .no) [v63, v68] fun v69 =>xF fPick [.bool false, .bool true, v69] fun v70 =>xF fMove [v70] fun v71 =>xIf v71
 (xF fPick [.bool true, .bool true, undef] fun v79 =>xF fMove [v79] fun v57 =>J3 [v0, v57] [c5] σ)
 (xF (fFld 1) [(locP 5)] fun v72 =>xO (gLoad 1 false [v72] c5) fun v73 =>xF fMove [v0] fun v74 =>xF fNil [v74] fun v75 =>xF (fFld 0) [v75] fun v76 =>hLoad 1 false [v76] (fun v77 σ =>xF (fBin .neq .no) [v73, v77] fun v78 =>xF fPick [.bool false, .bool true, v78] fun v79 =>xF fMove [v79] fun v57 =>J3 [v0, v57] [c5] σ) σ)) σ))
def w_cq_j2 (K : Value → Mem → Prop) (J1 : List Value → List (List Value) → Mem → Prop) (ts : List Value) (ls : List (List Value)) (σ : Mem) : Prop := w_cq_j2b K J1 (ts.getD 0 poison) (ts.getD 1 poison) (ls.getD 0 []) σ
def w_cq (a0 a1 : Value) (K : Value → Mem → Prop) (σ : Mem) : Prop :=xC (gBox 9 [a1] []) fun c3 =>xF fMove [.bool false] fun v4 =>xF fMove [a0] fun v6 =>xO (gLoad 9 true [(locP 3)] c3) fun v7 =>xF fMove [a0] fun v8 =>xO (gLoad 9 true [(locP 3)] c3) fun v9 =>s_cs [v8, v9] (fun v10 σ =>s_bv [v7, v10] (fun v11 σ =>xF fNil [v6] fun v12 =>xF (fFld 7) [v12] fun v13 =>hStore 1 [v13, v11] (fun _v σ =>xF fMove [a0] fun v14 =>xF fNil [v14] fun v15 =>xF (fFld 7) [v15] fun v16 =>hLoad 1 false [v16] (fun v17 σ =>s_dj [v17] (fun v18 σ =>xC (gStore 4 [(locP 5), v18] [.int .i64 0, .int .i64 0, .int .i64 0, .int .i64 0]) fun c5 =>xJoin (w_cq_j1 K) fun J1 =>xJoin (w_cq_j2 K J1) fun J2 =>xF (fFld 0) [(locP 5)] fun v33 =>xO (gLoad 1 false [v33] c5) fun v34 =>xF (fBin .eql .no) [v34, .int .i64 4] fun v35 =>xF fMove [v35] fun v36 =>xIf v36
 (xF (fFld 2) [(locP 5)] fun v37 =>xO (gLoad 1 false [v37] c5) fun v38 =>xF fMove [a0] fun v39 =>xF fNil [v39] fun v40 =>xF (fFld 1) [v40] fun v41 =>xF (fFld 3) [v41] fun v42 =>hLoad 1 false [v42] (fun v43 σ =>xF (fBin .eql .no) [v38, v43] fun v44 =>xF fPick [.bool true, v44, .bool false] fun v45 =>xF fMove [v45] fun v46 =>xIf v46
 (xF (fFld 1) [(locP 5)] fun v47 =>xO (gLoad 1 false [v47] c5) fun v48 =>xF fMove [a0] fun v49 =>xF fNil [v49] fun v50 =>xF (fFld 0) [v50] fun v51 =>hLoad 1 false [v51] (fun v52 σ =>xF (fBin .eql .no) [v48, v52] fun v53 =>xF fPick [.bool true, v53, .bool false] fun v54 =>xF fMove [v54] fun v32 =>J2 [a0, v32] [c5] σ) σ)
 (xF fPick [.bool false, undef, .bool false] fun v54 =>xF fMove [v54] fun v32 =>J2 [a0, v32] [c5] σ)) σ)
 (xF fPick [.bool false, undef, .bool false] fun v45 =>xF fMove [v45] fun v46 =>xIf v46
 (xF (fFld 1) [(locP 5)] fun v47 =>xO (gLoad 1 false [v47] c5) fun v48 =>xF fMove [a0] fun v49 =>xF fNil [v49] fun v50 =>xF (fFld 0) [v50] fun v51 =>hLoad 1 false [v51] (fun v52 σ =>xF (fBin .eql .no) [v48, v52] fun v53 =>xF fPick [.bool true, v53, .bool false] fun v54 =>xF fMove [v54] fun v32 =>J2 [a0, v32] [c5] σ) σ)
 (xF fPick [.bool false, undef, .bool false] fun v54 =>xF fMove [v54] fun v32 =>J2 [a0, v32] [c5] σ))) σ) σ) σ) σ) σ
def s_cq : Spec := fun args K σ => match args with
  | [a0, a1] => w_cq a0 a1 K σ
  | _ => False
noncomputable def cx_cq : Cx := { P := Tryz.prog, T := [(99, .read, s_cs), (54, .write, s_bv), (62, .none, s_dj), (97, .write, s_cp), (36, .write, s_bs), (75, .write, s_cw)], loc := [(3, 3), (5, 5), (33, 5), (37, 5), (47, 5), (58, 5), (62, 5), (72, 5), (83, 5)], eqt := [], n := 96, keep := [(1000006, [0, 32], [5]), (1000008, [0, 57], [5]), (1000013, [], [])] }
theorem q_cq : FnS cx_cq Tryz.f96 (bodyOf Tryz.f96) 2 = s_cq := by
  funext args K σ
  rcases args with _ | ⟨a0, _ | ⟨a1, _ | ⟨b, r⟩⟩⟩ <;> kernel_rfl
theorem e_cq : Entry Tryz.prog 96 .write s_cq :=
  entry (C := cx_cq) (TOk.cons e_cs (TOk.cons e_bv (TOk.cons e_dj (TOk.cons e_cp (TOk.cons e_bs (TOk.cons e_cw TOk.nil)))))) mixedOk Tryz.func96 (by kernel_rfl) (by kernel_rfl) (by kernel_rfl) q_cq
attribute [irreducible] w_cq_j1b w_cq_j1 w_cq_j3b w_cq_j3 w_cq_j2b w_cq_j2 w_cq s_cq
def w_co (a0 a1 : Value) (K : Value → Mem → Prop) (σ : Mem) : Prop :=xF fMove [.int .u64 0] fun v4 =>xF fMove [a0] fun v6 =>xF fNil [v6] fun v7 =>xF (fFld 1) [v7] fun v8 =>hLoad 5 true [v8] (fun v9 σ =>xC (gStore 5 [(locP 5), v9] [.int .i64 0, .int .i64 0, .int .i64 0, .int .i64 0, .bool false]) fun c5 =>xF fMove [a1] fun v10 =>xF (fFld 0) [(locP 5)] fun v11 =>xC (gStore 1 [v11, v10] c5) fun c5 =>xO (gLoad 5 true [(locP 5)] c5) fun v12 =>s_dg [v12] (fun v13 σ =>xF fMove [v13] fun v4 =>K v4 σ) σ) σ
def s_co : Spec := fun args K σ => match args with
  | [a0, a1] => w_co a0 a1 K σ
  | _ => False
noncomputable def cx_co : Cx := { P := Tryz.prog, T := [(34, .none, s_dg)], loc := [(5, 5), (11, 5)], eqt := [], n := 14, keep := [] }
theorem q_co : FnS cx_co Tryz.f98 (bodyOf Tryz.f98) 2 = s_co := by
  funext args K σ
  rcases args with _ | ⟨a0, _ | ⟨a1, _ | ⟨b, r⟩⟩⟩ <;> kernel_rfl
theorem e_co : Entry Tryz.prog 98 .read s_co :=
  entry (C := cx_co) (TOk.cons e_dg TOk.nil) mixedOk Tryz.func98 (by kernel_rfl) (by kernel_rfl) (by kernel_rfl) q_co
attribute [irreducible] w_co s_co
def w_cm (a0 a1 a2 a3 : Value) (K : Value → Mem → Prop) (σ : Mem) : Prop :=xF fMove [.int .u64 0] fun v8 =>xF fMove [a0] fun v10 =>xF fNil [v10] fun v11 =>xF (fFld 7) [v11] fun v12 =>hLoad 1 false [v12] (fun v13 σ =>s_dj [v13] (fun v14 σ =>xC (gStore 4 [(locP 9), v14] [.int .i64 0, .int .i64 0, .int .i64 0, .int .i64 0]) fun c9 =>xF fMove [a1] fun v15 =>xF fMove [a2] fun v16 =>xF (fFld 2) [(locP 9)] fun v17 =>xO (gLoad 1 false [v17] c9) fun v18 =>xF (fFld 3) [(locP 9)] fun v19 =>xO (gLoad 1 false [v19] c9) fun v20 =>xF fMove [a3] fun v21 =>xF (fBin .add .no) [v20, v21] fun v22 =>xF (fBuild [(0, 1), (1, 1), (2, 1), (3, 1)] [.int .i64 0, .int .i64 0, .int .i64 0, .int .i64 0] [0, 1, 2, 3]) [v15, v16, v18, v22] fun v23 =>s_dh [v23] (fun v24 σ =>xF fMove [v24] fun v8 =>K v8 σ) σ) σ) σ
def s_cm : Spec := fun args K σ => match args with
  | [a0, a1, a2, a3] => w_cm a0 a1 a2 a3 K σ
  | _ => False
noncomputable def cx_cm : Cx := { P := Tryz.prog, T := [(62, .none, s_dj), (69, .none, s_dh)], loc := [(9, 9), (17, 9), (19, 9)], eqt := [], n := 25, keep := [] }
theorem q_cm : FnS cx_cm Tryz.f100 (bodyOf Tryz.f100) 4 = s_cm := by
  funext args K σ
  rcases args with _ | ⟨a0, _ | ⟨a1, _ | ⟨a2, _ | ⟨a3, _ | ⟨b, r⟩⟩⟩⟩⟩ <;> kernel_rfl
theorem e_cm : Entry Tryz.prog 100 .read s_cm :=
  entry (C := cx_cm) (TOk.cons e_dj (TOk.cons e_dh TOk.nil)) mixedOk Tryz.func100 (by kernel_rfl) (by kernel_rfl) (by kernel_rfl) q_cm
attribute [irreducible] w_cm s_cm
def w_cr (a0 a1 : Value) (K : Value → Mem → Prop) (σ : Mem) : Prop :=xC (gBox 9 [a1] []) fun c3 =>xF fMove [.bool false] fun v4 =>xO (gLoad 9 true [(locP 3)] c3) fun v5 =>xF fMove [a0] fun v6 =>xO (gLoad 9 true [(locP 3)] c3) fun v7 =>s_cs [v6, v7] (fun v8 σ =>xF fMove [a0] fun v9 =>xF fMove [a0] fun v10 =>xF fNil [v10] fun v11 =>xF (fFld 0) [v11] fun v12 =>hLoad 1 false [v12] (fun v13 σ =>s_cm [v9, .int .i64 2, v13, .int .i64 0] (fun v14 σ =>xF fMove [a0] fun v15 =>xF fMove [a0] fun v16 =>xF fNil [v16] fun v17 =>xF (fFld 9) [v17] fun v18 =>xF (fFld 0) [v18] fun v19 =>hLoad 1 false [v19] (fun v20 σ =>s_cm [v15, .int .i64 1, v20, .int .i64 1] (fun v21 σ =>s_bu [v5, v8, v14, v21] (fun v22 σ =>xIf v22
 (xF fMove [a0] fun v23 =>xF fNil [v23] fun v24 =>xF (fFld 6) [v24] fun v25 =>hStore 1 [v25, .int .i64 8] (fun _v σ =>xF fMove [.bool false] fun v4 =>K v4 σ) σ)
 (xF fMove [a0] fun v26 =>xF fNil [v26] fun v27 =>xF (fFld 6) [v27] fun v28 =>hStore 1 [v28, .int .i64 0] (fun _v σ =>xF fMove [a0] fun v29 =>xF fNil [v29] fun v30 =>xF (fFld 14) [v30] fun v31 =>hLoad 1 false [v31] (fun v32 σ =>xF (fBin .add .no) [v32, .int .i64 1] fun v33 =>xF fNil [v29] fun v34 =>xF (fFld 14) [v34] fun v35 =>hStore 1 [v35, v33] (fun _v σ =>xF fMove [a0] fun v36 =>xF fNil [v36] fun v37 =>xF (fFld 14) [v37] fun v38 =>hLoad 1 false [v38] (fun v39 σ =>xF (fFld 0) [(locP 3)] fun v40 =>xF (fFld 6) [v40] fun v41 =>xO (gLoad 1 false [v41] c3) fun v42 =>xF (fBin .geq .no) [v39, v42] fun v43 =>xIf v43
 (xF fMove [a0] fun v44 =>s_cp [v44, .int .i64 3] (fun v45 σ =>xF fMove [v45] fun v4 =>K v4 σ) σ)
 (xF fMove [.bool false] fun v4 =>K v4 σ)) σ) σ) σ) σ)) σ) σ) σ) σ) σ) σ
def s_cr : Spec := fun args K σ => match args with
  | [a0, a1] => w_cr a0 a1 K σ
  | _ => False
noncomputable def cx_cr : Cx := { P := Tryz.prog, T := [(99, .read, s_cs), (100, .read, s_cm), (49, .write, s_bu), (97, .write, s_cp)], loc := [(3, 3), (40, 3), (41, 3)], eqt := [], n := 46, keep := [] }
theorem q_cr : FnS cx_cr Tryz.f103 (bodyOf Tryz.f103) 2 = s_cr := by
  funext args K σ
  rcases args with _ | ⟨a0, _ | ⟨a1, _ | ⟨b, r⟩⟩⟩ <;> kernel_rfl
theorem e_cr : Entry Tryz.prog 103 .write s_cr :=
  entry (C := cx_cr) (TOk.cons e_cs (TOk.cons e_cm (TOk.cons e_bu (TOk.cons e_cp TOk.nil)))) mixedOk Tryz.func103 (by kernel_rfl) (by kernel_rfl) (by kernel_rfl) q_cr
attribute [irreducible] w_cr s_cr
def w_cn_j1b (K : Value → Mem → Prop) (σ : Mem) : Prop :=xF fMove [.bool false] fun v4 =>K v4 σ
def w_cn_j1 (K : Value → Mem → Prop) (ts : List Value) (ls : List (List Value)) (σ : Mem) : Prop := w_cn_j1b K σ
def w_cn (a0 a1 : Value) (K : Value → Mem → Prop) (σ : Mem) : Prop :=xC (gBox 9 [a1] []) fun c3 =>xF fMove [.bool false] fun v4 =>xF fMove [a0] fun v6 =>xF fNil [v6] fun v7 =>xF (fFld 1) [v7] fun v8 =>xF (fFld 1) [v8] fun v9 =>hLoad 1 false [v9] (fun v10 σ =>s_bs [v10] (fun v11 σ =>s_b4 [v11] (fun v12 σ =>xF fMove [v12] fun v5 =>xJoin (w_cn_j1 K) fun J1 =>xF fMove [a0] fun v13 =>xF fNil [v13] fun v14 =>xF (fFld 6) [v14] fun v15 =>hLoad 1 false [v15] (fun v16 σ =>xF (fBin .eql .no) [v16, .int .i64 8] fun v27 =>xF fMove [v27] fun v26 =>xIf v26
 (xO (gLoad 9 true [(locP 3)] c3) fun v28 =>xF fMove [a0] fun v29 =>xF fNil [v29] fun v30 =>xF (fFld 9) [v30] fun v31 =>xF (fFld 0) [v31] fun v32 =>hLoad 1 false [v32] (fun v33 σ =>xF fMove [a0] fun v34 =>s_co [v34, .int .i64 2] (fun v35 σ =>s_bx [v28, v33, v35] (fun v36 σ =>xF fMove [a0] fun v37 =>xF fNil [v37] fun v38 =>xF (fFld 6) [v38] fun v39 =>hStore 1 [v39, .int .i64 9] (fun _v σ =>J1 [] [] σ) σ) σ) σ) σ)
 (xF (fBin .eql .no) [v16, .int .i64 9] fun v41 =>xF fMove [v41] fun v40 =>xIf v40
 (xO (gLoad 9 true [(locP 3)] c3) fun v42 =>xF (fFld 0) [(locP 3)] fun v43 =>xO (gLoad 7 true [v43] c3) fun v44 =>xF fMove [a0] fun v45 =>xF fNil [v45] fun v46 =>xF (fFld 9) [v46] fun v47 =>xF (fFld 1) [v47] fun v48 =>hLoad 1 false [v48] (fun v49 σ =>s_br [v44, v49] (fun v50 σ =>xF (fBin .add .no) [v50, .int .i64 1] fun v51 =>xF fMove [v5] fun v52 =>s_bt [v42, v51, v52] (fun v53 σ =>xF fMove [a0] fun v54 =>xF fNil [v54] fun v55 =>xF (fFld 6) [v55] fun v56 =>hStore 1 [v56, .int .i64 10] (fun _v σ =>J1 [] [] σ) σ) σ) σ) σ)
 (xF (fBin .eql .no) [v16, .int .i64 10] fun v58 =>xF fMove [v58] fun v57 =>xIf v57
 (xO (gLoad 9 true [(locP 3)] c3) fun v59 =>xF (fFld 0) [(locP 3)] fun v60 =>xO (gLoad 7 true [v60] c3) fun v61 =>xF (fFld 0) [(locP 3)] fun v62 =>xO (gLoad 7 true [v62] c3) fun v63 =>xF fMove [a0] fun v64 =>xF fNil [v64] fun v65 =>xF (fFld 0) [v65] fun v66 =>hLoad 1 false [v66] (fun v67 σ =>s_b1 [v63, v67] (fun v68 σ =>s_br [v61, v68] (fun v69 σ =>xF (fBin .add .no) [v69, .int .i64 1] fun v70 =>xF fMove [v5] fun v71 =>xF (fUn .neg) [v71] fun v72 =>s_bt [v59, v70, v72] (fun v73 σ =>xF fMove [a0] fun v74 =>xF fNil [v74] fun v75 =>xF (fFld 15) [v75] fun v76 =>hStore 1 [v76, .int .i64 1] (fun _v σ =>xF fMove [.bool true] fun v4 =>K v4 σ) σ) σ) σ) σ) σ)
 (xO (gLoad 9 true [(locP 3)] c3) fun v17 =>xF fMove [a0] fun v18 =>xF fNil [v18] fun v19 =>xF (fFld 9) [v19] fun v20 =>xF (fFld 0) [v20] fun v21 =>hLoad 1 false [v21] (fun v22 σ =>xF fMove [a0] fun v23 =>s_co [v23, .int .i64 3] (fun v24 σ =>s_bx [v17, v22, v24] (fun v25 σ =>xF fMove [.bool true] fun v4 =>K v4 σ) σ) σ) σ)))) σ) σ) σ) σ
def s_cn : Spec := fun args K σ => match args with
  | [a0, a1] => w_cn a0 a1 K σ
  | _ => False
noncomputable def cx_cn : Cx := { P := Tryz.prog, T := [(36, .write, s_bs), (80, .none, s_b4), (98, .read, s_co), (56, .write, s_bx), (23, .none, s_br), (79, .write, s_bt), (21, .none, s_b1)], loc := [(3, 3), (43, 3), (60, 3), (62, 3)], eqt := [], n := 77, keep := [(1000016, [], [])] }
theorem q_cn : FnS cx_cn Tryz.f104 (bodyOf Tryz.f104) 2 = s_cn := by
  funext args K σ
  rcases args with _ | ⟨a0, _ | ⟨a1, _ | ⟨b, r⟩⟩⟩ <;> kernel_rfl
theorem e_cn : Entry Tryz.prog 104 .write s_cn :=
  entry (C := cx_cn) (TOk.cons e_bs (TOk.cons e_b4 (TOk.cons e_co (TOk.cons e_bx (TOk.cons e_br (TOk.cons e_bt (TOk.cons e_b1 TOk.nil))))))) mixedOk Tryz.func104 (by kernel_rfl) (by kernel_rfl) (by kernel_rfl) q_cn
attribute [irreducible] w_cn_j1b w_cn_j1 w_cn s_cn
def w_cl_j1b (K : Value → Mem → Prop) (σ : Mem) : Prop :=xF fMove [.bool false] fun v4 =>K v4 σ
def w_cl_j1 (K : Value → Mem → Prop) (ts : List Value) (ls : List (List Value)) (σ : Mem) : Prop := w_cl_j1b K σ
def w_cl_j2b (K : Value → Mem → Prop) (J1 : List Value → List (List Value) → Mem → Prop) (v0 v128 : Value) (σ : Mem) : Prop :=xIf v128
 (xF fMove [v0] fun v129 =>xF fNil [v129] fun v130 =>xF (fFld 6) [v130] fun v131 =>hStore 1 [v131, .int .i64 6] (fun _v σ =>J1 [] [] σ) σ)
 (J1 [] [] σ)
def w_cl_j2 (K : Value → Mem → Prop) (J1 : List Value → List (List Value) → Mem → Prop) (ts : List Value) (ls : List (List Value)) (σ : Mem) : Prop := w_cl_j2b K J1 (ts.getD 0 poison) (ts.getD 1 poison) σ
def w_cl (a0 a1 : Value) (K : Value → Mem → Prop) (σ : Mem) : Prop :=xC (gBox 9 [a1] []) fun c3 =>xF fMove [.bool false] fun v4 =>xJoin (w_cl_j1 K) fun J1 =>xF fMove [a0] fun v7 =>xF fNil [v7] fun v8 =>xF (fFld 6) [v8] fun v9 =>hLoad 1 false [v9] (fun v10 σ =>xF (fBin .eql .no) [v10, .int .i64 0] fun v15 =>xF fMove [v15] fun v14 =>xIf v14
 (xF fMove [a0] fun v16 =>xO (gLoad 9 true [(locP 3)] c3) fun v17 =>s_cq [v16, v17] (fun v18 σ =>xF fMove [v18] fun v4 =>K v4 σ) σ)
 (xF (fBin .eql .no) [v10, .int .i64 1] fun v20 =>xF fMove [v20] fun v19 =>xIf v19
 (xF fMove [a0] fun v21 =>xF fNil [v21] fun v22 =>xF (fFld 8) [v22] fun v23 =>hLoad 1 false [v23] (fun v24 σ =>xO (gLoad 9 true [(locP 3)] c3) fun v25 =>s_cy [v24, v25] (fun v26 σ =>xIf v26
 (xF fMove [a0] fun v28 =>xF fMove [a0] fun v29 =>xF fMove [a0] fun v30 =>xF fNil [v30] fun v31 =>xF (fFld 8) [v31] fun v32 =>hLoad 1 false [v32] (fun v33 σ =>s_cx [v33] (fun v34 σ =>xF fMove [v34] fun v27 =>xF (fExt 0) [v27] fun v35 =>xF (fExt 1) [v27] fun v36 =>xF fNil [v28] fun v37 =>xF (fFld 9) [v37] fun v38 =>hStore 2 [v38, v35] (fun _v σ =>xF fNil [v29] fun v39 =>xF (fFld 11) [v39] fun v40 =>hStore 1 [v40, v36] (fun _v σ =>xF fMove [a0] fun v41 =>xF fNil [v41] fun v42 =>xF (fFld 6) [v42] fun v43 =>hStore 1 [v43, .int .i64 2] (fun _v σ =>xF fMove [a0] fun v44 =>xF fNil [v44] fun v45 =>xF (fFld 11) [v45] fun v46 =>hLoad 1 false [v46] (fun v47 σ =>xF (fUn .not) [v47] fun v48 =>xIf v48
 (xF fMove [a0] fun v49 =>s_cp [v49, .int .i64 4] (fun v50 σ =>xF fMove [v50] fun v4 =>K v4 σ) σ)
 (J1 [] [] σ)) σ) σ) σ) σ) σ) σ)
 (J1 [] [] σ)) σ) σ)
 (xF (fBin .eql .no) [v10, .int .i64 2] fun v52 =>xF fMove [v52] fun v51 =>xIf v51
 (xO (gLoad 9 true [(locP 3)] c3) fun v53 =>xF fMove [a0] fun v54 =>xF fNil [v54] fun v55 =>xF (fFld 9) [v55] fun v56 =>xF (fFld 0) [v56] fun v57 =>hLoad 1 false [v57] (fun v58 σ =>xF fMove [a0] fun v59 =>s_co [v59, .int .i64 1] (fun v60 σ =>s_bx [v53, v58, v60] (fun v61 σ =>xF fMove [a0] fun v62 =>xF fNil [v62] fun v63 =>xF (fFld 6) [v63] fun v64 =>hStore 1 [v64, .int .i64 3] (fun _v σ =>J1 [] [] σ) σ) σ) σ) σ)
 (xF (fBin .eql .no) [v10, .int .i64 3] fun v66 =>xF fMove [v66] fun v65 =>xIf v65
 (xF fMove [a0] fun v67 =>xF fMove [a0] fun v68 =>xF fNil [v67] fun v69 =>xF (fFld 12) [v69] fun v70 =>hStore 1 [v70, .int .i64 0] (fun _v σ =>xF fNil [v68] fun v71 =>xF (fFld 6) [v71] fun v72 =>hStore 1 [v72, .int .i64 0] (fun _v σ =>xO (gLoad 9 true [(locP 3)] c3) fun v73 =>xF fMove [a0] fun v74 =>xO (gLoad 9 true [(locP 3)] c3) fun v75 =>s_cs [v74, v75] (fun v76 σ =>xF fMove [a0] fun v77 =>xF fNil [v77] fun v78 =>xF (fFld 7) [v78] fun v79 =>hLoad 1 false [v79] (fun v80 σ =>xF fMove [a0] fun v81 =>xF fMove [a0] fun v82 =>xF fNil [v82] fun v83 =>xF (fFld 0) [v83] fun v84 =>hLoad 1 false [v84] (fun v85 σ =>s_cm [v81, .int .i64 2, v85, .int .i64 0] (fun v86 σ =>s_bu [v73, v76, v80, v86] (fun v87 σ =>xIf v87
 (xF fMove [a0] fun v88 =>xF fNil [v88] fun v89 =>xF (fFld 6) [v89] fun v90 =>hStore 1 [v90, .int .i64 4] (fun _v σ =>J1 [] [] σ) σ)
 (J1 [] [] σ)) σ) σ) σ) σ) σ) σ) σ)
 (xF (fBin .eql .no) [v10, .int .i64 4] fun v92 =>xF fMove [v92] fun v91 =>xIf v91
 (xF fMove [a0] fun v93 =>xO (gLoad 9 true [(locP 3)] c3) fun v94 =>xF fMove [a0] fun v95 =>xF fNil [v95] fun v96 =>xF (fFld 0) [v96] fun v97 =>hLoad 1 false [v97] (fun v98 σ =>xF (fBin .add .no) [v98, .int .i64 1] fun v99 =>xF fMove [a0] fun v100 =>xF fNil [v100] fun v101 =>xF (fFld 12) [v101] fun v102 =>hLoad 1 false [v102] (fun v103 σ =>xF (fBin .add .no) [v99, v103] fun v104 =>s_bv [v94, v104] (fun v105 σ =>xF fNil [v93] fun v106 =>xF (fFld 13) [v106] fun v107 =>hStore 1 [v107, v105] (fun _v σ =>xF fMove [a0] fun v108 =>xF fNil [v108] fun v109 =>xF (fFld 6) [v109] fun v110 =>hStore 1 [v110, .int .i64 5] (fun _v σ =>xF fMove [a0] fun v111 =>xF fNil [v111] fun v112 =>xF (fFld 13) [v112] fun v113 =>hLoad 1 false [v113] (fun v114 σ =>s_c9 [v114] (fun v115 σ =>xC (gStore 3 [(locP 5), v115] [.int .i64 0, .bool false, .int .i64 0]) fun c5 =>xJoin (w_cl_j2 K J1) fun J2 =>xF (fFld 1) [(locP 5)] fun v116 =>xO (gLoad 1 false [v116] c5) fun v117 =>xF fMove [v117] fun v118 =>xIf v118
 (xF (fFld 2) [(locP 5)] fun v119 =>xO (gLoad 1 false [v119] c5) fun v120 =>xF fMove [a0] fun v121 =>xF fNil [v121] fun v122 =>xF (fFld 7) [v122] fun v123 =>hLoad 1 false [v123] (fun v124 σ =>s_dj [v124] (fun v125 σ =>xF (fFldV 3 1 false) [v125] fun v126 =>xF (fBin .eql .no) [v120, v126] fun v127 =>xF fPick [.bool true, v127, .bool false] fun v128 =>J2 [a0, v128] [] σ) σ) σ)
 (xF fPick [.bool false, undef, .bool false] fun v128 =>J2 [a0, v128] [] σ)) σ) σ) σ) σ) σ) σ) σ)
 (xF (fBin .eql .no) [v10, .int .i64 5] fun v133 =>xF fMove [v133] fun v132 =>xIf v132
 (xF fMove [a0] fun v134 =>xF fNil [v134] fun v135 =>xF (fFld 6) [v135] fun v136 =>hStore 1 [v136, .int .i64 4] (fun _v σ =>xF fMove [a0] fun v137 =>xF fNil [v137] fun v138 =>xF (fFld 13) [v138] fun v139 =>hLoad 1 false [v139] (fun v140 σ =>s_c9 [v140] (fun v141 σ =>xF (fFldV 0 1 false) [v141] fun v142 =>xF fMove [a0] fun v143 =>xF fNil [v143] fun v144 =>xF (fFld 7) [v144] fun v145 =>hLoad 1 false [v145] (fun v146 σ =>s_dj [v146] (fun v147 σ =>xF (fFldV 3 1 false) [v147] fun v148 =>xF (fBuild [(0, 1), (1, 1), (2, 1)] [.int .i64 0, .bool false, .int .i64 0] [0, 1, 2]) [v142, .bool true, v148] fun v149 =>xC (gStore 3 [(locP 6), v149] [.int .i64 0, .bool false, .int .i64 0]) fun c6 =>xO (gLoad 9 true [(locP 3)] c3) fun v150 =>xF fMove [a0] fun v151 =>xF fNil [v151] fun v152 =>xF (fFld 0) [v152] fun v153 =>hLoad 1 false [v153] (fun v154 σ =>xF (fBin .add .no) [v154, .int .i64 1] fun v155 =>xF fMove [a0] fun v156 =>xF fNil [v156] fun v157 =>xF (fFld 12) [v157] fun v158 =>hLoad 1 false [v158] (fun v159 σ =>xF (fBin .add .no) [v155, v159] fun v160 =>xF fMove [a0] fun v161 =>xF fNil [v161] fun v162 =>xF (fFld 13) [v162] fun v163 =>hLoad 1 false [v163] (fun v164 σ =>xO (gLoad 3 true [(locP 6)] c6) fun v165 =>s_dd [v165] (fun v166 σ =>s_bu [v150, v160, v164, v166] (fun v167 σ =>xIf v167
 (xF fMove [a0] fun v168 =>xF fNil [v168] fun v169 =>xF (fFld 6) [v169] fun v170 =>hStore 1 [v170, .int .i64 6] (fun _v σ =>J1 [] [] σ) σ)
 (J1 [] [] σ)) σ) σ) σ) σ) σ) σ) σ) σ) σ) σ)
 (xF (fBin .eql .no) [v10, .int .i64 6] fun v172 =>xF fMove [v172] fun v171 =>xIf v171
 (xO (gLoad 9 true [(locP 3)] c3) fun v173 =>xF fMove [a0] fun v174 =>xF fNil [v174] fun v175 =>xF (fFld 9) [v175] fun v176 =>xF (fFld 0) [v176] fun v177 =>hLoad 1 false [v177] (fun v178 σ =>xF (fBin .add .no) [v178, .int .i64 1] fun v179 =>xF fMove [a0] fun v180 =>xF fNil [v180] fun v181 =>xF (fFld 12) [v181] fun v182 =>hLoad 1 false [v182] (fun v183 σ =>xF (fBin .add .no) [v179, v183] fun v184 =>xF fMove [a0] fun v185 =>xF fNil [v185] fun v186 =>xF (fFld 13) [v186] fun v187 =>hLoad 1 false [v187] (fun v188 σ =>s_c9 [v188] (fun v189 σ =>xF (fFldV 0 1 false) [v189] fun v190 =>xF (fBuild [(0, 1), (1, 1), (2, 1)] [.int .i64 0, .bool false, .int .i64 0] [0]) [v190] fun v191 =>s_dd [v191] (fun v192 σ =>s_bx [v173, v184, v192] (fun v193 σ =>xF fMove [a0] fun v194 =>xF fMove [a0] fun v195 =>xF fMove [a0] fun v196 =>xF fNil [v196] fun v197 =>xF (fFld 12) [v197] fun v198 =>hLoad 1 false [v198] (fun v199 σ =>xF (fBin .add .no) [v199, .int .i64 1] fun v200 =>xF fNil [v194] fun v201 =>xF (fFld 12) [v201] fun v202 =>hStore 1 [v202, v200] (fun _v σ =>xF fNil [v195] fun v203 =>xF (fFld 6) [v203] fun v204 =>hStore 1 [v204, .int .i64 4] (fun _v σ =>xF fMove [a0] fun v205 =>xF fNil [v205] fun v206 =>xF (fFld 12) [v206] fun v207 =>hLoad 1 false [v207] (fun v208 σ =>xF fMove [a0] fun v209 =>xF fNil [v209] fun v210 =>xF (fFld 1) [v210] fun v211 =>xF (fFld 1) [v211] fun v212 =>hLoad 1 false [v212] (fun v213 σ =>xF (fBin .geq .no) [v208, v213] fun v214 =>xIf v214
 (xF fMove [a0] fun v215 =>xF fNil [v215] fun v216 =>xF (fFld 6) [v216] fun v217 =>hStore 1 [v217, .int .i64 7] (fun _v σ =>J1 [] [] σ) σ)
 (J1 [] [] σ)) σ) σ) σ) σ) σ) σ) σ) σ) σ) σ) σ)
 (xF (fBin .eql .no) [v10, .int .i64 7] fun v219 =>xF fMove [v219] fun v218 =>xIf v218
 (xF fMove [a0] fun v220 =>xO (gLoad 9 true [(locP 3)] c3) fun v221 =>s_cr [v220, v221] (fun v222 σ =>xF fMove [v222] fun v4 =>K v4 σ) σ)
 (xF fMove [a0] fun v11 =>xO (gLoad 9 true [(locP 3)] c3) fun v12 =>s_cn [v11, v12] (fun v13 σ =>xF fMove [v13] fun v4 =>K v4 σ) σ))))))))) σ
def s_cl : Spec := fun args K σ => match args with
  | [a0, a1] => w_cl a0 a1 K σ
  | _ => False
noncomputable def cx_cl : Cx := { P := Tryz.prog, T := [(96, .write, s_cq), (76, .write, s_cy), (77, .read, s_cx), (97, .write, s_cp), (98, .read, s_co), (56, .write, s_bx), (99, .read, s_cs), (100, .read, s_cm), (49, .write, s_bu), (54, .write, s_bv), (101, .none, s_c9), (62, .none, s_dj), (102, .none, s_dd), (103, .write, s_cr), (104, .write, s_cn)], loc := [(3, 3), (5, 5), (6, 6), (116, 5), (119, 5)], eqt := [], n := 223, keep := [(1000024, [0, 128], []), (1000037, [], [])] }
theorem q_cl : FnS cx_cl Tryz.f52 (bodyOf Tryz.f52) 2 = s_cl := by
  funext args K σ
  rcases args with _ | ⟨a0, _ | ⟨a1, _ | ⟨b, r⟩⟩⟩ <;> kernel_rfl
theorem e_cl : Entry Tryz.prog 52 .write s_cl :=
  entry (C := cx_cl) (TOk.cons e_cq (TOk.cons e_cy (TOk.cons e_cx (TOk.cons e_cp (TOk.cons e_co (TOk.cons e_bx (TOk.cons e_cs (TOk.cons e_cm (TOk.cons e_bu (TOk.cons e_bv (TOk.cons e_c9 (TOk.cons e_dj (TOk.cons e_dd (TOk.cons e_cr (TOk.cons e_cn TOk.nil))))))))))))))) mixedOk Tryz.func52 (by kernel_rfl) (by kernel_rfl) (by kernel_rfl) q_cl
attribute [irreducible] w_cl_j1b w_cl_j1 w_cl_j2b w_cl_j2 w_cl s_cl
def w_ck (a0 : Value) (K : Value → Mem → Prop) (σ : Mem) : Prop :=xF fMove [.int .i64 0] fun v2 =>xF fMove [a0] fun v3 =>xF (fBin .eql .ptr) [v3, .pointer none] fun v4 =>xIf v4
 (xF fMove [.int .i64 0] fun v2 =>K v2 σ)
 (xF fMove [a0] fun v5 =>xF fNil [v5] fun v6 =>xF (fFld 15) [v6] fun v7 =>hLoad 1 false [v7] (fun v8 σ =>xF fMove [v8] fun v2 =>K v2 σ) σ)
def s_ck : Spec := fun args K σ => match args with
  | [a0] => w_ck a0 K σ
  | _ => False
noncomputable def cx_ck : Cx := { P := Tryz.prog, T := [], loc := [], eqt := [(91, .ptr)], n := 9, keep := [] }
theorem q_ck : FnS cx_ck Tryz.f105 (bodyOf Tryz.f105) 1 = s_ck := by
  funext args K σ
  rcases args with _ | ⟨a0, _ | ⟨b, r⟩⟩ <;> kernel_rfl
theorem e_ck : Entry Tryz.prog 105 .read s_ck :=
  entry (C := cx_ck) TOk.nil mixedOk Tryz.func105 (by kernel_rfl) (by kernel_rfl) (by kernel_rfl) q_ck
attribute [irreducible] w_ck s_ck
def w_as (a0 : Value) (K : Value → Mem → Prop) (σ : Mem) : Prop :=xF fMove [a0] fun v2 =>xF fNil [v2] fun v3 =>xF (fFld 6) [v3] fun v4 =>hLoad 1 false [v4] (fun v5 σ =>s_ck [v5] (fun v6 σ =>xF (fBin .eql .no) [v6, .int .i64 1] fun v11 =>xF fMove [v11] fun v10 =>xIf v10
 (xF fMove [a0] fun v12 =>xF fNil [v12] fun v13 =>xF (fFld 9) [v13] fun v14 =>xF (fFld 3) [v14] fun v15 =>hLoad 1 false [v15] (fun v16 σ =>xF (fBin .add .no) [v16, .int .i64 1] fun v17 =>xF fNil [v12] fun v18 =>xF (fFld 9) [v18] fun v19 =>xF (fFld 3) [v19] fun v20 =>hStore 1 [v20, v17] (fun _v σ =>xF fMove [a0] fun v21 =>xF fMove [a0] fun v22 =>xF fNil [v22] fun v23 =>xF (fFld 4) [v23] fun v24 =>hLoad 1 false [v24] (fun v25 σ =>s_da [v25] (fun v26 σ =>s_at [v21, v26] (fun v27 σ =>K (.tuple #[]) σ) σ) σ) σ) σ) σ)
 (xF (fBin .eql .no) [v6, .int .i64 2] fun v29 =>xF fMove [v29] fun v28 =>xIf v28
 (xF fMove [a0] fun v30 =>xF fMove [a0] fun v31 =>xF fNil [v31] fun v32 =>xF (fFld 4) [v32] fun v33 =>hLoad 1 false [v33] (fun v34 σ =>s_da [v34] (fun v35 σ =>s_at [v30, v35] (fun v36 σ =>K (.tuple #[]) σ) σ) σ) σ)
 (xF fMove [a0] fun v7 =>xF fNil [v7] fun v8 =>xF (fFld 0) [v8] fun v9 =>hStore 1 [v9, .int .i64 9] (fun _v σ =>K (.tuple #[]) σ) σ))) σ) σ
def s_as : Spec := fun args K σ => match args with
  | [a0] => w_as a0 K σ
  | _ => False
noncomputable def cx_as : Cx := { P := Tryz.prog, T := [(105, .read, s_ck), (22, .none, s_da), (94, .write, s_at)], loc := [], eqt := [], n := 37, keep := [] }
theorem q_as : FnS cx_as Tryz.f53 (bodyOf Tryz.f53) 1 = s_as := by
  funext args K σ
  rcases args with _ | ⟨a0, _ | ⟨b, r⟩⟩ <;> kernel_rfl
theorem e_as : Entry Tryz.prog 53 .write s_as :=
  entry (C := cx_as) (TOk.cons e_ck (TOk.cons e_da (TOk.cons e_at TOk.nil))) mixedOk Tryz.func53 (by kernel_rfl) (by kernel_rfl) (by kernel_rfl) q_as
attribute [irreducible] w_as s_as
def w_by (K : Value → Mem → Prop) (σ : Mem) : Prop :=xF fMove [.int .i64 0] fun v0 =>xF fMove [.int .i64 0] fun v0 =>K v0 σ
def s_by : Spec := fun args K σ => match args with
  | [] => w_by  K σ
  | _ => False
noncomputable def cx_by : Cx := { P := Tryz.prog, T := [], loc := [], eqt := [], n := 1, keep := [] }
theorem q_by : FnS cx_by Tryz.f55 (bodyOf Tryz.f55) 0 = s_by := by
  funext args K σ
  rcases args with _ | ⟨b, r⟩ <;> kernel_rfl
theorem e_by : Entry Tryz.prog 55 .none s_by :=
  entry (C := cx_by) TOk.nil mixedOk Tryz.func55 (by kernel_rfl) (by kernel_rfl) (by kernel_rfl) q_by
attribute [irreducible] w_by s_by
def w_b3 (a0 : Value) (K : Value → Mem → Prop) (σ : Mem) : Prop :=xF fMove [.int .i64 0] fun v2 =>xF fMove [a0] fun v3 =>xF (fBin .add .no) [.int .i64 6, v3] fun v4 =>xF fMove [v4] fun v2 =>K v2 σ
def s_b3 : Spec := fun args K σ => match args with
  | [a0] => w_b3 a0 K σ
  | _ => False
noncomputable def cx_b3 : Cx := { P := Tryz.prog, T := [], loc := [], eqt := [], n := 5, keep := [] }
theorem q_b3 : FnS cx_b3 Tryz.f59 (bodyOf Tryz.f59) 1 = s_b3 := by
  funext args K σ
  rcases args with _ | ⟨a0, _ | ⟨b, r⟩⟩ <;> kernel_rfl
theorem e_b3 : Entry Tryz.prog 59 .none s_b3 :=
  entry (C := cx_b3) TOk.nil mixedOk Tryz.func59 (by kernel_rfl) (by kernel_rfl) (by kernel_rfl) q_b3
attribute [irreducible] w_b3 s_b3
def w_a6_j1b (K : Value → Mem → Prop) (σ : Mem) : Prop :=xF fMove [.bool false] fun v4 =>K v4 σ
def w_a6_j1 (K : Value → Mem → Prop) (ts : List Value) (ls : List (List Value)) (σ : Mem) : Prop := w_a6_j1b K σ
def w_a6_j2b (K : Value → Mem → Prop) (J1 : List Value → List (List Value) → Mem → Prop) (v0 v55 : Value) (c3 : List Value) (σ : Mem) : Prop :=xIf v55
 (xF fMove [.bool true] fun v4 =>K v4 σ)
 (xF fMove [v0] fun v56 =>xF fNil [v56] fun v57 =>xF (fFld 2) [v57] fun v58 =>hLoad 1 false [v58] (fun v59 σ =>xF (fBin .add .no) [v59, .int .i64 1] fun v60 =>xF fNil [v56] fun v61 =>xF (fFld 2) [v61] fun v62 =>hStore 1 [v62, v60] (fun _v σ =>xF fMove [v0] fun v63 =>xF fNil [v63] fun v64 =>xF (fFld 2) [v64] fun v65 =>hLoad 1 false [v65] (fun v66 σ =>xF (fFld 0) [(locP 3)] fun v67 =>xF (fFld 0) [v67] fun v68 =>xO (gLoad 1 false [v68] c3) fun v69 =>xF (fBin .geq .no) [v66, v69] fun v70 =>xIf v70
 (xF fMove [v0] fun v71 =>xF fNil [v71] fun v72 =>xF (fFld 0) [v72] fun v73 =>hStore 1 [v73, .int .i64 2] (fun _v σ =>J1 [] [] σ) σ)
 (J1 [] [] σ)) σ) σ) σ)
def w_a6_j2 (K : Value → Mem → Prop) (J1 : List Value → List (List Value) → Mem → Prop) (ts : List Value) (ls : List (List Value)) (σ : Mem) : Prop := w_a6_j2b K J1 (ts.getD 0 poison) (ts.getD 1 poison) (ls.getD 0 []) σ
def w_a6 (a0 a1 : Value) (K : Value → Mem → Prop) (σ : Mem) : Prop :=xC (gBox 9 [a1] []) fun c3 =>xF fMove [.bool false] fun v4 =>xJoin (w_a6_j1 K) fun J1 =>xF fMove [a0] fun v6 =>xF fNil [v6] fun v7 =>xF (fFld 0) [v7] fun v8 =>hLoad 1 false [v8] (fun v9 σ =>xF (fBin .eql .no) [v9, .int .i64 0] fun v26 =>xF fMove [v26] fun v25 =>xIf v25
 (xF fMove [a0] fun v27 =>xF fMove [a0] fun v28 =>xO (gLoad 9 true [(locP 3)] c3) fun v29 =>s_by [] (fun v30 σ =>s_bv [v29, v30] (fun v31 σ =>xF fNil [v27] fun v32 =>xF (fFld 1) [v32] fun v33 =>hStore 1 [v33, v31] (fun _v σ =>xF fNil [v28] fun v34 =>xF (fFld 0) [v34] fun v35 =>hStore 1 [v35, .int .i64 1] (fun _v σ =>J1 [] [] σ) σ) σ) σ) σ)
 (xF (fBin .eql .no) [v9, .int .i64 1] fun v37 =>xF fMove [v37] fun v36 =>xIf v36
 (xO (gLoad 9 true [(locP 3)] c3) fun v38 =>xF fMove [a0] fun v39 =>xF fNil [v39] fun v40 =>xF (fFld 2) [v40] fun v41 =>hLoad 1 false [v41] (fun v42 σ =>s_b3 [v42] (fun v43 σ =>s_bv [v38, v43] (fun v44 σ =>xF fMove [v44] fun v5 =>xJoin (w_a6_j2 K J1) fun J2 =>xF fMove [v5] fun v45 =>xF (fBin .neq .no) [v45, .int .u64 0] fun v46 =>xF fMove [v46] fun v47 =>xIf v47
 (xF fMove [v5] fun v48 =>xF fMove [a0] fun v49 =>xF fNil [v49] fun v50 =>xF (fFld 1) [v50] fun v51 =>hLoad 1 false [v51] (fun v52 σ =>xF (fBin .add .no) [v52, .int .u64 1] fun v53 =>xF (fBin .neq .no) [v48, v53] fun v54 =>xF fPick [.bool true, v54, .bool false] fun v55 =>J2 [a0, v55] [c3] σ) σ)
 (xF fPick [.bool false, undef, .bool false] fun v55 =>J2 [a0, v55] [c3] σ)) σ) σ) σ)
 (xF fMove [a0] fun v10 =>xO (gLoad 9 true [(locP 3)] c3) fun v11 =>s_by [] (fun v12 σ =>xF fMove [a0] fun v13 =>xF fNil [v13] fun v14 =>xF (fFld 1) [v14] fun v15 =>hLoad 1 false [v15] (fun v16 σ =>xF fMove [a0] fun v17 =>xF fNil [v17] fun v18 =>xF (fFld 1) [v18] fun v19 =>hLoad 1 false [v19] (fun v20 σ =>xF (fBin .add .no) [v20, .int .u64 1] fun v21 =>s_bu [v11, v12, v16, v21] (fun v22 σ =>xF fNil [v10] fun v23 =>xF (fFld 3) [v23] fun v24 =>hStore 1 [v24, v22] (fun _v σ =>xF fMove [.bool true] fun v4 =>K v4 σ) σ) σ) σ) σ) σ))) σ
def s_a6 : Spec := fun args K σ => match args with
  | [a0, a1] => w_a6 a0 a1 K σ
  | _ => False
noncomputable def cx_a6 : Cx := { P := Tryz.prog, T := [(55, .none, s_by), (54, .write, s_bv), (59, .none, s_b3), (49, .write, s_bu)], loc := [(3, 3), (67, 3), (68, 3)], eqt := [], n := 74, keep := [(1000010, [0, 55], [3]), (1000014, [], [])] }
theorem q_a6 : FnS cx_a6 Tryz.f107 (bodyOf Tryz.f107) 2 = s_a6 := by
  funext args K σ
  rcases args with _ | ⟨a0, _ | ⟨a1, _ | ⟨b, r⟩⟩⟩ <;> kernel_rfl
theorem e_a6 : Entry Tryz.prog 107 .write s_a6 :=
  entry (C := cx_a6) (TOk.cons e_by (TOk.cons e_bv (TOk.cons e_b3 (TOk.cons e_bu TOk.nil)))) mixedOk Tryz.func107 (by kernel_rfl) (by kernel_rfl) (by kernel_rfl) q_a6
attribute [irreducible] w_a6_j1b w_a6_j1 w_a6_j2b w_a6_j2 w_a6 s_a6
def w_a7 (a0 : Value) (K : Value → Mem → Prop) (σ : Mem) : Prop :=xF fMove [.pointer none] fun v2 =>xF fMove [a0] fun v3 =>xF (fBuild [(0, 1), (1, 1), (2, 1), (3, 1), (4, 1), (5, 1)] [.int .i64 0, .int .i64 0, .int .u64 0, .int .u64 0, .int .i64 0, .bool false] [0]) [v3] fun v4 =>hBox 6 [v4] (fun v5 σ =>xF fMove [v5] fun v2 =>K v2 σ) σ
def s_a7 : Spec := fun args K σ => match args with
  | [a0] => w_a7 a0 K σ
  | _ => False
noncomputable def cx_a7 : Cx := { P := Tryz.prog, T := [], loc := [], eqt := [], n := 6, keep := [] }
theorem q_a7 : FnS cx_a7 Tryz.f108 (bodyOf Tryz.f108) 1 = s_a7 := by
  funext args K σ
  rcases args with _ | ⟨a0, _ | ⟨b, r⟩⟩ <;> kernel_rfl
theorem e_a7 : Entry Tryz.prog 108 .write s_a7 :=
  entry (C := cx_a7) TOk.nil mixedOk Tryz.func108 (by kernel_rfl) (by kernel_rfl) (by kernel_rfl) q_a7
attribute [irreducible] w_a7 s_a7
def w_a9_j1b (K : Value → Mem → Prop) (σ : Mem) : Prop :=xF fMove [.bool false] fun v4 =>K v4 σ
def w_a9_j1 (K : Value → Mem → Prop) (ts : List Value) (ls : List (List Value)) (σ : Mem) : Prop := w_a9_j1b K σ
def w_a9 (a0 a1 : Value) (K : Value → Mem → Prop) (σ : Mem) : Prop :=xC (gBox 9 [a1] []) fun c3 =>xF fMove [.bool false] fun v4 =>xF (fFld 0) [(locP 3)] fun v7 =>xO (gLoad 7 true [v7] c3) fun v8 =>xF fMove [a0] fun v9 =>xF fNil [v9] fun v10 =>xF (fFld 0) [v10] fun v11 =>hLoad 1 false [v11] (fun v12 σ =>s_br [v8, v12] (fun v13 σ =>xF fMove [v13] fun v5 =>xF fMove [a0] fun v14 =>xF fNil [v14] fun v15 =>xF (fFld 2) [v15] fun v16 =>hLoad 1 false [v16] (fun v17 σ =>s_da [v17] (fun v18 σ =>xC (gStore 4 [(locP 6), v18] [.int .i64 0, .int .i64 0, .int .i64 0, .int .i64 0]) fun c6 =>xJoin (w_a9_j1 K) fun J1 =>xF fMove [a0] fun v19 =>xF fNil [v19] fun v20 =>xF (fFld 1) [v20] fun v21 =>hLoad 1 false [v21] (fun v22 σ =>xF (fBin .eql .no) [v22, .int .i64 0] fun v35 =>xF fMove [v35] fun v34 =>xIf v34
 (xF fMove [a0] fun v36 =>xF fMove [a0] fun v37 =>xO (gLoad 9 true [(locP 3)] c3) fun v38 =>xF fMove [v5] fun v39 =>s_bv [v38, v39] (fun v40 σ =>xF fNil [v36] fun v41 =>xF (fFld 2) [v41] fun v42 =>hStore 1 [v42, v40] (fun _v σ =>xF fNil [v37] fun v43 =>xF (fFld 1) [v43] fun v44 =>hStore 1 [v44, .int .i64 1] (fun _v σ =>xF fMove [a0] fun v45 =>xF fNil [v45] fun v46 =>xF (fFld 2) [v46] fun v47 =>hLoad 1 false [v47] (fun v48 σ =>s_da [v48] (fun v49 σ =>xF (fFldV 0 1 false) [v49] fun v50 =>xF (fBin .neq .no) [v50, .int .i64 3] fun v51 =>xF fMove [v51] fun v4 =>K v4 σ) σ) σ) σ) σ) σ)
 (xF (fBin .eql .no) [v22, .int .i64 1] fun v53 =>xF fMove [v53] fun v52 =>xIf v52
 (xF fMove [a0] fun v54 =>xF fMove [a0] fun v55 =>xO (gLoad 9 true [(locP 3)] c3) fun v56 =>xF fMove [v5] fun v57 =>xF (fBin .add .no) [v57, .int .i64 2] fun v58 =>s_bv [v56, v58] (fun v59 σ =>xF fNil [v54] fun v60 =>xF (fFld 3) [v60] fun v61 =>hStore 1 [v61, v59] (fun _v σ =>xF fNil [v55] fun v62 =>xF (fFld 1) [v62] fun v63 =>hStore 1 [v63, .int .i64 2] (fun _v σ =>J1 [] [] σ) σ) σ) σ)
 (xF (fBin .eql .no) [v22, .int .i64 2] fun v65 =>xF fMove [v65] fun v64 =>xIf v64
 (xF fMove [a0] fun v66 =>xF fNil [v66] fun v67 =>xF (fFld 1) [v67] fun v68 =>hStore 1 [v68, .int .i64 3] (fun _v σ =>
(xO (gLoad 9 true [(locP 3)] c3) fun v69 =>s_by [] (fun v70 σ =>s_bv [v69, v70] (fun v71 σ =>xF fMove [a0] fun v72 =>xF fNil [v72] fun v73 =>xF (fFld 3) [v73] fun v74 =>hLoad 1 false [v74] (fun v75 σ =>xF (fBin .add .no) [v75, .int .u64 2] fun v76 =>xF (fBin .lss .no) [v71, v76] fun v77 =>xF fMove [v77] fun v4 =>K v4 σ) σ) σ) σ) ∧
(xF fMove [a0] fun v72 =>xF fNil [v72] fun v73 =>xF (fFld 3) [v73] fun v74 =>hLoad 1 false [v74] (fun v75 σ =>xO (gLoad 9 true [(locP 3)] c3) fun v69 =>s_by [] (fun v70 σ =>s_bv [v69, v70] (fun v71 σ =>xF (fBin .add .no) [v75, .int .u64 2] fun v76 =>xF (fBin .lss .no) [v71, v76] fun v77 =>xF fMove [v77] fun v4 =>K v4 σ) σ) σ) σ)) σ)
 (xF (fBin .eql .no) [v22, .int .i64 3] fun v79 =>xF fMove [v79] fun v78 =>xIf v78
 (xO (gLoad 9 true [(locP 3)] c3) fun v80 =>xF (fFld 0) [(locP 3)] fun v81 =>xO (gLoad 7 true [v81] c3) fun v82 =>xF fMove [a0] fun v83 =>xF fNil [v83] fun v84 =>xF (fFld 0) [v84] fun v85 =>hLoad 1 false [v85] (fun v86 σ =>s_bp [v82, v86] (fun v87 σ =>xF fMove [a0] fun v88 =>xF fNil [v88] fun v89 =>xF (fFld 4) [v89] fun v90 =>hLoad 1 false [v90] (fun v91 σ =>xF (fBin .add .no) [v87, v91] fun v92 =>s_bx [v80, v92, .int .u64 0] (fun v93 σ =>xF fMove [a0] fun v94 =>xF fNil [v94] fun v95 =>xF (fFld 4) [v95] fun v96 =>hLoad 1 false [v96] (fun v97 σ =>xF (fBin .add .no) [v97, .int .i64 1] fun v98 =>xF fNil [v94] fun v99 =>xF (fFld 4) [v99] fun v100 =>hStore 1 [v100, v98] (fun _v σ =>xF fMove [a0] fun v101 =>xF fNil [v101] fun v102 =>xF (fFld 4) [v102] fun v103 =>hLoad 1 false [v103] (fun v104 σ =>xF (fFld 2) [(locP 6)] fun v105 =>xO (gLoad 1 false [v105] c6) fun v106 =>xF (fBin .geq .no) [v104, v106] fun v107 =>xIf v107
 (xF fMove [a0] fun v108 =>xF fNil [v108] fun v109 =>xF (fFld 1) [v109] fun v110 =>hStore 1 [v110, .int .i64 4] (fun _v σ =>J1 [] [] σ) σ)
 (J1 [] [] σ)) σ) σ) σ) σ) σ) σ) σ)
 (xF (fBin .eql .no) [v22, .int .i64 4] fun v112 =>xF fMove [v112] fun v111 =>xIf v111
 (xO (gLoad 9 true [(locP 3)] c3) fun v113 =>xF fMove [v5] fun v114 =>xF (fBin .add .no) [v114, .int .i64 1] fun v115 =>s_bx [v113, v115, .int .u64 0] (fun v116 σ =>xF fMove [a0] fun v117 =>xF fNil [v117] fun v118 =>xF (fFld 1) [v118] fun v119 =>hStore 1 [v119, .int .i64 5] (fun _v σ =>J1 [] [] σ) σ) σ)
 (xO (gLoad 9 true [(locP 3)] c3) fun v23 =>xF fMove [v5] fun v24 =>xF (fFld 3) [(locP 6)] fun v25 =>xO (gLoad 1 false [v25] c6) fun v26 =>xF (fBin .add .no) [v26, .int .i64 1] fun v27 =>xF (fBuild [(0, 1), (1, 1), (2, 1), (3, 1)] [.int .i64 0, .int .i64 0, .int .i64 0, .int .i64 0] [3]) [v27] fun v28 =>s_de [v28] (fun v29 σ =>s_bx [v23, v24, v29] (fun v30 σ =>xF fMove [a0] fun v31 =>xF fNil [v31] fun v32 =>xF (fFld 5) [v32] fun v33 =>hStore 1 [v33, .bool true] (fun _v σ =>xF fMove [.bool true] fun v4 =>K v4 σ) σ) σ) σ)))))) σ) σ) σ) σ) σ
def s_a9 : Spec := fun args K σ => match args with
  | [a0, a1] => w_a9 a0 a1 K σ
  | _ => False
noncomputable def cx_a9 : Cx := { P := Tryz.prog, T := [(23, .none, s_br), (22, .none, s_da), (54, .write, s_bv), (55, .none, s_by), (24, .none, s_bp), (56, .write, s_bx), (91, .none, s_de)], loc := [(3, 3), (6, 6), (7, 3), (25, 6), (81, 3), (105, 6)], eqt := [], n := 120, keep := [(1000024, [], [])], alt := [(14, 6, [2], [([2], [0, 1, 2, 3, 4, 5, 6, 7, 8, 9]), ([], [3, 4, 5, 6, 0, 1, 2, 7, 8, 9])])] }
theorem q_a9 : FnS cx_a9 Tryz.f109 (bodyOf Tryz.f109) 2 = s_a9 := by
  funext args K σ
  rcases args with _ | ⟨a0, _ | ⟨a1, _ | ⟨b, r⟩⟩⟩ <;> kernel_rfl
theorem e_a9 : Entry Tryz.prog 109 .write s_a9 :=
  entry (C := cx_a9) (TOk.cons e_br (TOk.cons e_da (TOk.cons e_bv (TOk.cons e_by (TOk.cons e_bp (TOk.cons e_bx (TOk.cons e_de TOk.nil))))))) mixedOk Tryz.func109 (by kernel_rfl) (by kernel_rfl) (by kernel_rfl) q_a9
attribute [irreducible] w_a9_j1b w_a9_j1 w_a9 s_a9
def w_a8 (a0 : Value) (K : Value → Mem → Prop) (σ : Mem) : Prop :=xF fMove [.bool false] fun v2 =>xF fMove [a0] fun v3 =>xF (fBin .neq .ptr) [v3, .pointer none] fun v4 =>xF fMove [v4] fun v5 =>xIf v5
 (xF fMove [a0] fun v6 =>xF fNil [v6] fun v7 =>xF (fFld 5) [v7] fun v8 =>hLoad 1 false [v8] (fun v9 σ =>xF fPick [.bool true, v9, .bool false] fun v10 =>xF fMove [v10] fun v2 =>K v2 σ) σ)
 (xF fPick [.bool false, undef, .bool false] fun v10 =>xF fMove [v10] fun v2 =>K v2 σ)
def s_a8 : Spec := fun args K σ => match args with
  | [a0] => w_a8 a0 K σ
  | _ => False
noncomputable def cx_a8 : Cx := { P := Tryz.prog, T := [], loc := [], eqt := [(93, .ptr)], n := 11, keep := [] }
theorem q_a8 : FnS cx_a8 Tryz.f110 (bodyOf Tryz.f110) 1 = s_a8 := by
  funext args K σ
  rcases args with _ | ⟨a0, _ | ⟨b, r⟩⟩ <;> kernel_rfl
theorem e_a8 : Entry Tryz.prog 110 .read s_a8 :=
  entry (C := cx_a8) TOk.nil mixedOk Tryz.func110 (by kernel_rfl) (by kernel_rfl) (by kernel_rfl) q_a8
attribute [irreducible] w_a8 s_a8
def w_au_j1b (K : Value → Mem → Prop) (v0 : Value) (c3 : List Value) (σ : Mem) : Prop :=xF fMove [v0] fun v19 =>xF fNil [v19] fun v20 =>xF (fFld 7) [v20] fun v21 =>hLoad 1 false [v21] (fun v22 σ =>xO (gLoad 9 true [(locP 3)] c3) fun v23 =>s_a6 [v22, v23] (fun v24 σ =>xIf v24
 (xF fMove [v0] fun v25 =>xF fMove [v0] fun v26 =>xF fMove [v0] fun v27 =>xF fNil [v25] fun v28 =>xF (fFld 7) [v28] fun v29 =>hStore 1 [v29, .pointer none] (fun _v σ =>xF fNil [v26] fun v30 =>xF (fFld 2) [v30] fun v31 =>hStore 1 [v31, .int .i64 0] (fun _v σ =>xF fNil [v27] fun v32 =>xF (fFld 0) [v32] fun v33 =>hStore 1 [v33, .int .i64 11] (fun _v σ =>K (.tuple #[]) σ) σ) σ) σ)
 (K (.tuple #[]) σ)) σ) σ
def w_au_j1 (K : Value → Mem → Prop) (ts : List Value) (ls : List (List Value)) (σ : Mem) : Prop := w_au_j1b K (ts.getD 0 poison) (ls.getD 0 []) σ
def w_au_j4b (K : Value → Mem → Prop) (v0 : Value) (σ : Mem) : Prop :=xF fMove [v0] fun v148 =>xF fMove [v0] fun v149 =>xF fNil [v149] fun v150 =>xF (fFld 9) [v150] fun v151 =>hLoad 5 true [v151] (fun v152 σ =>xF fNil [v148] fun v153 =>xF (fFld 14) [v153] fun v154 =>hStore 5 [v154, v152] (fun _v σ =>K (.tuple #[]) σ) σ) σ
def w_au_j4 (K : Value → Mem → Prop) (ts : List Value) (ls : List (List Value)) (σ : Mem) : Prop := w_au_j4b K (ts.getD 0 poison) σ
def w_au_j5b (K : Value → Mem → Prop) (J4 : List Value → List (List Value) → Mem → Prop) (v0 v144 : Value) (σ : Mem) : Prop :=xIf v144
 (xF fMove [v0] fun v145 =>xF fNil [v145] fun v146 =>xF (fFld 19) [v146] fun v147 =>hStore 1 [v147, .int .i64 0] (fun _v σ =>J4 [v0] [] σ) σ)
 (J4 [v0] [] σ)
def w_au_j5 (K : Value → Mem → Prop) (J4 : List Value → List (List Value) → Mem → Prop) (ts : List Value) (ls : List (List Value)) (σ : Mem) : Prop := w_au_j5b K J4 (ts.getD 0 poison) (ts.getD 1 poison) σ
def w_au_j3b (K : Value → Mem → Prop) (v0 : Value) (c3 : List Value) (σ : Mem) : Prop :=xF fMove [v0] fun v68 =>xF fNil [v68] fun v69 =>xF (fFld 8) [v69] fun v70 =>hStore 1 [v70, .pointer none] (fun _v σ =>xF fMove [v0] fun v71 =>xF fNil [v71] fun v72 =>xF (fFld 2) [v72] fun v73 =>hLoad 1 false [v73] (fun v74 σ =>xF (fBin .add .no) [v74, .int .i64 1] fun v75 =>xF fNil [v71] fun v76 =>xF (fFld 2) [v76] fun v77 =>hStore 1 [v77, v75] (fun _v σ =>xF fMove [v0] fun v78 =>xF fNil [v78] fun v79 =>xF (fFld 2) [v79] fun v80 =>hLoad 1 false [v80] (fun v81 σ =>xF (fFld 0) [(locP 3)] fun v82 =>xF (fFld 2) [v82] fun v83 =>xO (gLoad 1 false [v83] c3) fun v84 =>xF (fBin .geq .no) [v81, v84] fun v85 =>xIf v85
 (xF fMove [v0] fun v86 =>xF fMove [v0] fun v87 =>xF fNil [v86] fun v88 =>xF (fFld 2) [v88] fun v89 =>hStore 1 [v89, .int .i64 0] (fun _v σ =>xF fNil [v87] fun v90 =>xF (fFld 0) [v90] fun v91 =>hStore 1 [v91, .int .i64 0] (fun _v σ =>xF fMove [v0] fun v92 =>xF fNil [v92] fun v93 =>xF (fFld 9) [v93] fun v94 =>xF (fFld 4) [v94] fun v95 =>hLoad 1 false [v95] (fun v96 σ =>xF (fBin .add .no) [v96, .int .i64 1] fun v97 =>xF fNil [v92] fun v98 =>xF (fFld 9) [v98] fun v99 =>xF (fFld 4) [v99] fun v100 =>hStore 1 [v100, v97] (fun _v σ =>xF fMove [v0] fun v101 =>xF fNil [v101] fun v102 =>xF (fFld 19) [v102] fun v103 =>hLoad 1 false [v103] (fun v104 σ =>xF (fBin .add .no) [v104, .int .i64 1] fun v105 =>xF fNil [v101] fun v106 =>xF (fFld 19) [v106] fun v107 =>hStore 1 [v107, v105] (fun _v σ =>xJoin (w_au_j4 K) fun J4 =>xJoin (w_au_j5 K J4) fun J5 =>xF fMove [v0] fun v108 =>xF fNil [v108] fun v109 =>xF (fFld 9) [v109] fun v110 =>xF (fFld 0) [v110] fun v111 =>hLoad 1 false [v111] (fun v112 σ =>xF fMove [v0] fun v113 =>xF fNil [v113] fun v114 =>xF (fFld 14) [v114] fun v115 =>xF (fFld 0) [v115] fun v116 =>hLoad 1 false [v116] (fun v117 σ =>xF (fBin .neq .no) [v112, v117] fun v118 =>xF fMove [v118] fun v119 =>xIf v119
 (xF fPick [.bool true, .bool true, undef] fun v131 =>xF fMove [v131] fun v132 =>xIf v132
 (xF fPick [.bool true, .bool true, undef] fun v144 =>J5 [v0, v144] [] σ)
 (xF fMove [v0] fun v133 =>xF fNil [v133] fun v134 =>xF (fFld 9) [v134] fun v135 =>xF (fFld 2) [v135] fun v136 =>hLoad 1 false [v136] (fun v137 σ =>xF fMove [v0] fun v138 =>xF fNil [v138] fun v139 =>xF (fFld 14) [v139] fun v140 =>xF (fFld 2) [v140] fun v141 =>hLoad 1 false [v141] (fun v142 σ =>xF (fBin .neq .no) [v137, v142] fun v143 =>xF fPick [.bool false, .bool true, v143] fun v144 =>J5 [v0, v144] [] σ) σ) σ))
 (xF fMove [v0] fun v120 =>xF fNil [v120] fun v121 =>xF (fFld 9) [v121] fun v122 =>xF (fFld 3) [v122] fun v123 =>hLoad 1 false [v123] (fun v124 σ =>xF fMove [v0] fun v125 =>xF fNil [v125] fun v126 =>xF (fFld 14) [v126] fun v127 =>xF (fFld 3) [v127] fun v128 =>hLoad 1 false [v128] (fun v129 σ =>xF (fBin .neq .no) [v124, v129] fun v130 =>xF fPick [.bool false, .bool true, v130] fun v131 =>xF fMove [v131] fun v132 =>xIf v132
 (xF fPick [.bool true, .bool true, undef] fun v144 =>J5 [v0, v144] [] σ)
 (xF fMove [v0] fun v133 =>xF fNil [v133] fun v134 =>xF (fFld 9) [v134] fun v135 =>xF (fFld 2) [v135] fun v136 =>hLoad 1 false [v136] (fun v137 σ =>xF fMove [v0] fun v138 =>xF fNil [v138] fun v139 =>xF (fFld 14) [v139] fun v140 =>xF (fFld 2) [v140] fun v141 =>hLoad 1 false [v141] (fun v142 σ =>xF (fBin .neq .no) [v137, v142] fun v143 =>xF fPick [.bool false, .bool true, v143] fun v144 =>J5 [v0, v144] [] σ) σ) σ)) σ) σ)) σ) σ) σ) σ) σ) σ) σ) σ)
 (K (.tuple #[]) σ)) σ) σ) σ) σ
def w_au_j3 (K : Value → Mem → Prop) (ts : List Value) (ls : List (List Value)) (σ : Mem) : Prop := w_au_j3b K (ts.getD 0 poison) (ls.getD 0 []) σ
def w_au_j2b (K : Value → Mem → Prop) (v0 : Value) (c3 : List Value) (σ : Mem) : Prop :=xF fMove [v0] fun v47 =>xF fNil [v47] fun v48 =>xF (fFld 8) [v48] fun v49 =>hLoad 1 false [v49] (fun v50 σ =>xO (gLoad 9 true [(locP 3)] c3) fun v51 =>s_a9 [v50, v51] (fun v52 σ =>xF (fUn .not) [v52] fun v53 =>xIf v53
 (K (.tuple #[]) σ)
 (xJoin (w_au_j3 K) fun J3 =>xF fMove [v0] fun v54 =>xF fNil [v54] fun v55 =>xF (fFld 8) [v55] fun v56 =>hLoad 1 false [v56] (fun v57 σ =>s_a8 [v57] (fun v58 σ =>xIf v58
 (xF fMove [v0] fun v59 =>xF fNil [v59] fun v60 =>xF (fFld 9) [v60] fun v61 =>xF (fFld 2) [v61] fun v62 =>hLoad 1 false [v62] (fun v63 σ =>xF (fBin .add .no) [v63, .int .i64 1] fun v64 =>xF fNil [v59] fun v65 =>xF (fFld 9) [v65] fun v66 =>xF (fFld 2) [v66] fun v67 =>hStore 1 [v67, v64] (fun _v σ =>J3 [v0] [c3] σ) σ) σ)
 (J3 [v0] [c3] σ)) σ) σ)) σ) σ
def w_au_j2 (K : Value → Mem → Prop) (ts : List Value) (ls : List (List Value)) (σ : Mem) : Prop := w_au_j2b K (ts.getD 0 poison) (ls.getD 0 []) σ
def w_au (a0 a1 : Value) (K : Value → Mem → Prop) (σ : Mem) : Prop :=xC (gBox 9 [a1] []) fun c3 =>xF fMove [a0] fun v4 =>xF fNil [v4] fun v5 =>xF (fFld 0) [v5] fun v6 =>hLoad 1 false [v6] (fun v7 σ =>xF (fBin .eql .no) [v7, .int .i64 10] fun v8 =>xIf v8
 (xJoin (w_au_j1 K) fun J1 =>xF fMove [a0] fun v9 =>xF fNil [v9] fun v10 =>xF (fFld 7) [v10] fun v11 =>hLoad 1 false [v11] (fun v12 σ =>xF (fBin .eql .ptr) [v12, .pointer none] fun v13 =>xIf v13
 (xF fMove [a0] fun v14 =>xF (fBuild [(0, 1), (1, 1), (2, 1), (3, 1)] [.int .i64 0, .int .u64 0, .int .i64 0, .bool false] []) [] fun v15 =>hBox 4 [v15] (fun v16 σ =>xF fNil [v14] fun v17 =>xF (fFld 7) [v17] fun v18 =>hStore 1 [v18, v16] (fun _v σ =>J1 [a0] [c3] σ) σ) σ)
 (J1 [a0] [c3] σ)) σ)
 (xJoin (w_au_j2 K) fun J2 =>xF fMove [a0] fun v34 =>xF fNil [v34] fun v35 =>xF (fFld 8) [v35] fun v36 =>hLoad 1 false [v36] (fun v37 σ =>xF (fBin .eql .ptr) [v37, .pointer none] fun v38 =>xIf v38
 (xF fMove [a0] fun v39 =>xF fMove [a0] fun v40 =>xF fNil [v40] fun v41 =>xF (fFld 2) [v41] fun v42 =>hLoad 1 false [v42] (fun v43 σ =>s_a7 [v43] (fun v44 σ =>xF fNil [v39] fun v45 =>xF (fFld 8) [v45] fun v46 =>hStore 1 [v46, v44] (fun _v σ =>J2 [a0] [c3] σ) σ) σ) σ)
 (J2 [a0] [c3] σ)) σ)) σ
def s_au : Spec := fun args K σ => match args with
  | [a0, a1] => w_au a0 a1 K σ
  | _ => False
noncomputable def cx_au : Cx := { P := Tryz.prog, T := [(107, .write, s_a6), (108, .write, s_a7), (109, .write, s_a9), (110, .read, s_a8)], loc := [(3, 3), (82, 3), (83, 3)], eqt := [(92, .ptr), (93, .ptr)], n := 155, keep := [(1000005, [0], [3]), (1000009, [0], [3]), (1000012, [0], [3]), (1000019, [0, 144], []), (1000020, [0], [])] }
theorem q_au : FnS cx_au Tryz.f57 (bodyOf Tryz.f57) 2 = s_au := by
  funext args K σ
  rcases args with _ | ⟨a0, _ | ⟨a1, _ | ⟨b, r⟩⟩⟩ <;> kernel_rfl
theorem e_au : Entry Tryz.prog 57 .write s_au :=
  entry (C := cx_au) (TOk.cons e_a6 (TOk.cons e_a7 (TOk.cons e_a9 (TOk.cons e_a8 TOk.nil)))) mixedOk Tryz.func57 (by kernel_rfl) (by kernel_rfl) (by kernel_rfl) q_au
attribute [irreducible] w_au_j1b w_au_j1 w_au_j4b w_au_j4 w_au_j5b w_au_j5 w_au_j3b w_au_j3 w_au_j2b w_au_j2 w_au s_au
def w_ao_j1b (K : Value → Mem → Prop) (v0 v7 v11 : Value) (c3 : List Value) (σ : Mem) : Prop :=xIf v11
 (xF fMove [v0] fun v15 =>xO (gLoad 9 true [(locP 3)] c3) fun v16 =>s_ar [v15, v16] (fun v17 σ =>K (.tuple #[]) σ) σ)
 (xF (fBin .eql .no) [v7, .int .i64 3] fun v19 =>xF fMove [v19] fun v18 =>xIf v18
 (xF fMove [v0] fun v20 =>xF fMove [v0] fun v21 =>xF fNil [v20] fun v22 =>xF (fFld 3) [v22] fun v23 =>hStore 1 [v23, .int .i64 0] (fun _v σ =>xF fNil [v21] fun v24 =>xF (fFld 0) [v24] fun v25 =>hStore 1 [v25, .int .i64 10] (fun _v σ =>xO (gLoad 9 true [(locP 3)] c3) fun v26 =>xF (fFld 0) [(locP 3)] fun v27 =>xO (gLoad 7 true [v27] c3) fun v28 =>xF fMove [v0] fun v29 =>xF fNil [v29] fun v30 =>xF (fFld 2) [v30] fun v31 =>hLoad 1 false [v31] (fun v32 σ =>s_br [v28, v32] (fun v33 σ =>xF fMove [v0] fun v34 =>xF fNil [v34] fun v35 =>xF (fFld 4) [v35] fun v36 =>hLoad 1 false [v36] (fun v37 σ =>xF fMove [v0] fun v38 =>s_aq [v38, .int .i64 2] (fun v39 σ =>s_bu [v26, v33, v37, v39] (fun v40 σ =>xIf v40
 (xF fMove [v0] fun v41 =>xF fMove [v0] fun v42 =>xF fMove [v0] fun v43 =>s_aq [v43, .int .i64 2] (fun v44 σ =>xF fNil [v41] fun v45 =>xF (fFld 4) [v45] fun v46 =>hStore 1 [v46, v44] (fun _v σ =>xF fNil [v42] fun v47 =>xF (fFld 0) [v47] fun v48 =>hStore 1 [v48, .int .i64 4] (fun _v σ =>K (.tuple #[]) σ) σ) σ) σ)
 (K (.tuple #[]) σ)) σ) σ) σ) σ) σ) σ) σ)
 (xF (fBin .eql .no) [v7, .int .i64 4] fun v50 =>xF fMove [v50] fun v49 =>xIf v49
 (xF fMove [v0] fun v51 =>xO (gLoad 9 true [(locP 3)] c3) fun v52 =>s_av [v51, v52] (fun v53 σ =>K (.tuple #[]) σ) σ)
 (xF (fBin .eql .no) [v7, .int .i64 5] fun v55 =>xF fMove [v55] fun v54 =>xIf v54
 (xF fMove [v0] fun v56 =>xF fNil [v56] fun v57 =>xF (fFld 6) [v57] fun v58 =>hLoad 1 false [v58] (fun v59 σ =>xO (gLoad 9 true [(locP 3)] c3) fun v60 =>s_cl [v59, v60] (fun v61 σ =>xIf v61
 (xF fMove [v0] fun v62 =>s_as [v62] (fun v63 σ =>K (.tuple #[]) σ) σ)
 (K (.tuple #[]) σ)) σ) σ)
 (xF (fBin .eql .no) [v7, .int .i64 6] fun v65 =>xF fMove [v65] fun v64 =>xIf v64
 (xF fMove [v0] fun v66 =>xF fMove [v0] fun v67 =>xO (gLoad 9 true [(locP 3)] c3) fun v68 =>s_by [] (fun v69 σ =>s_bv [v68, v69] (fun v70 σ =>xF fNil [v66] fun v71 =>xF (fFld 5) [v71] fun v72 =>hStore 1 [v72, v70] (fun _v σ =>xF fNil [v67] fun v73 =>xF (fFld 0) [v73] fun v74 =>hStore 1 [v74, .int .i64 7] (fun _v σ =>K (.tuple #[]) σ) σ) σ) σ) σ)
 (xF (fBin .eql .no) [v7, .int .i64 7] fun v76 =>xF fMove [v76] fun v75 =>xIf v75
 (xO (gLoad 9 true [(locP 3)] c3) fun v77 =>xF (fFld 0) [(locP 3)] fun v78 =>xO (gLoad 7 true [v78] c3) fun v79 =>xF fMove [v0] fun v80 =>xF fNil [v80] fun v81 =>xF (fFld 2) [v81] fun v82 =>hLoad 1 false [v82] (fun v83 σ =>s_br [v79, v83] (fun v84 σ =>xF (fBin .add .no) [v84, .int .i64 2] fun v85 =>xF fMove [v0] fun v86 =>xF fNil [v86] fun v87 =>xF (fFld 5) [v87] fun v88 =>hLoad 1 false [v88] (fun v89 σ =>s_bx [v77, v85, v89] (fun v90 σ =>xF fMove [v0] fun v91 =>xF fNil [v91] fun v92 =>xF (fFld 0) [v92] fun v93 =>hStore 1 [v93, .int .i64 8] (fun _v σ =>K (.tuple #[]) σ) σ) σ) σ) σ) σ)
 (xF (fBin .eql .no) [v7, .int .i64 8] fun v95 =>xF fMove [v95] fun v94 =>xIf v94
 (xO (gLoad 9 true [(locP 3)] c3) fun v96 =>xF (fFld 0) [(locP 3)] fun v97 =>xO (gLoad 7 true [v97] c3) fun v98 =>xF fMove [v0] fun v99 =>xF fNil [v99] fun v100 =>xF (fFld 2) [v100] fun v101 =>hLoad 1 false [v101] (fun v102 σ =>s_br [v98, v102] (fun v103 σ =>xF fMove [v0] fun v104 =>s_aq [v104, .int .i64 3] (fun v105 σ =>s_bx [v96, v103, v105] (fun v106 σ =>xF fMove [v0] fun v107 =>xF fNil [v107] fun v108 =>xF (fFld 9) [v108] fun v109 =>xF (fFld 0) [v109] fun v110 =>hLoad 1 false [v110] (fun v111 σ =>xF (fBin .add .no) [v111, .int .i64 1] fun v112 =>xF fNil [v107] fun v113 =>xF (fFld 9) [v113] fun v114 =>xF (fFld 0) [v114] fun v115 =>hStore 1 [v115, v112] (fun _v σ =>xF fMove [v0] fun v116 =>xF fNil [v116] fun v117 =>xF (fFld 0) [v117] fun v118 =>hStore 1 [v118, .int .i64 10] (fun _v σ =>K (.tuple #[]) σ) σ) σ) σ) σ) σ) σ) σ)
 (xF (fBin .eql .no) [v7, .int .i64 9] fun v120 =>xF fMove [v120] fun v119 =>xIf v119
 (xO (gLoad 9 true [(locP 3)] c3) fun v121 =>xF (fFld 0) [(locP 3)] fun v122 =>xO (gLoad 7 true [v122] c3) fun v123 =>xF fMove [v0] fun v124 =>xF fNil [v124] fun v125 =>xF (fFld 2) [v125] fun v126 =>hLoad 1 false [v126] (fun v127 σ =>s_br [v123, v127] (fun v128 σ =>xF fMove [v0] fun v129 =>s_aq [v129, .int .i64 1] (fun v130 σ =>s_bx [v121, v128, v130] (fun v131 σ =>xF fMove [v0] fun v132 =>xF fNil [v132] fun v133 =>xF (fFld 9) [v133] fun v134 =>xF (fFld 1) [v134] fun v135 =>hLoad 1 false [v135] (fun v136 σ =>xF (fBin .add .no) [v136, .int .i64 1] fun v137 =>xF fNil [v132] fun v138 =>xF (fFld 9) [v138] fun v139 =>xF (fFld 1) [v139] fun v140 =>hStore 1 [v140, v137] (fun _v σ =>xF fMove [v0] fun v141 =>xF fNil [v141] fun v142 =>xF (fFld 0) [v142] fun v143 =>hStore 1 [v143, .int .i64 10] (fun _v σ =>K (.tuple #[]) σ) σ) σ) σ) σ) σ) σ) σ)
 (xF fMove [v0] fun v8 =>xO (gLoad 9 true [(locP 3)] c3) fun v9 =>s_au [v8, v9] (fun v10 σ =>K (.tuple #[]) σ) σ))))))))
def w_ao_j1 (K : Value → Mem → Prop) (ts : List Value) (ls : List (List Value)) (σ : Mem) : Prop := w_ao_j1b K (ts.getD 0 poison) (ts.getD 1 poison) (ts.getD 2 poison) (ls.getD 0 []) σ
def w_ao (a0 a1 : Value) (K : Value → Mem → Prop) (σ : Mem) : Prop :=xC (gBox 9 [a1] []) fun c3 =>xF fMove [a0] fun v4 =>xF fNil [v4] fun v5 =>xF (fFld 0) [v5] fun v6 =>hLoad 1 false [v6] (fun v7 σ =>xJoin (w_ao_j1 K) fun J1 =>xF (fBin .eql .no) [v7, .int .i64 0] fun v12 =>xF fMove [v12] fun v11 =>xIf v11
 (J1 [a0, v7, v11] [c3] σ)
 (xF (fBin .eql .no) [v7, .int .i64 1] fun v13 =>xF fMove [v13] fun v11 =>xIf v11
 (J1 [a0, v7, v11] [c3] σ)
 (xF (fBin .eql .no) [v7, .int .i64 2] fun v14 =>xF fMove [v14] fun v11 =>J1 [a0, v7, v11] [c3] σ))) σ
def s_ao : Spec := fun args K σ => match args with
  | [a0, a1] => w_ao a0 a1 K σ
  | _ => False
noncomputable def cx_ao : Cx := { P := Tryz.prog, T := [(48, .write, s_ar), (23, .none, s_br), (50, .read, s_aq), (49, .write, s_bu), (51, .write, s_av), (52, .write, s_cl), (53, .write, s_as), (55, .none, s_by), (54, .write, s_bv), (56, .write, s_bx), (57, .write, s_au)], loc := [(3, 3), (27, 3), (78, 3), (97, 3), (122, 3)], eqt := [], n := 144, keep := [(1000007, [0, 7, 11], [3])] }
theorem q_ao : FnS cx_ao Tryz.f19 (bodyOf Tryz.f19) 2 = s_ao := by
  funext args K σ
  rcases args with _ | ⟨a0, _ | ⟨a1, _ | ⟨b, r⟩⟩⟩ <;> kernel_rfl
theorem e_ao : Entry Tryz.prog 19 .write s_ao :=
  entry (C := cx_ao) (TOk.cons e_ar (TOk.cons e_br (TOk.cons e_aq (TOk.cons e_bu (TOk.cons e_av (TOk.cons e_cl (TOk.cons e_as (TOk.cons e_by (TOk.cons e_bv (TOk.cons e_bx (TOk.cons e_au TOk.nil))))))))))) mixedOk Tryz.func19 (by kernel_rfl) (by kernel_rfl) (by kernel_rfl) q_ao
attribute [irreducible] w_ao_j1b w_ao_j1 w_ao s_ao
def w_bn_j1b (K : Value → Mem → Prop) (v1 v7 : Value) (σ : Mem) : Prop :=xF fMove [v1] fun v31 =>s_ap [v31] (fun v32 σ =>xF (fFldV 4 1 false) [v32] fun v33 =>xF fMove [v7] fun v34 =>xF (fBin .geq .no) [v33, v34] fun v35 =>xF fMove [v35] fun v6 =>K v6 σ) σ
def w_bn_j1 (K : Value → Mem → Prop) (ts : List Value) (ls : List (List Value)) (σ : Mem) : Prop := w_bn_j1b K (ts.getD 0 poison) (ts.getD 1 poison) σ
def w_bn_j2b (K : Value → Mem → Prop) (J1 : List Value → List (List Value) → Mem → Prop) (R1 : List Value → List (List Value) → Mem → Prop) (v1 v2 v7 v8 : Value) (c3 : List Value) (σ : Mem) : Prop :=xF fMove [v1] fun v28 =>xO (gLoad 9 true [(locP 3)] c3) fun v29 =>s_ao [v28, v29] (fun v30 σ =>xF fMove [v8] fun v26 =>xF (fBin .add .no) [v26, .int .i64 1] fun v27 =>xF fMove [v27] fun v8 =>R1 [v1, v2, v7, v8] [c3] σ) σ
def w_bn_j2 (K : Value → Mem → Prop) (J1 : List Value → List (List Value) → Mem → Prop) (R1 : List Value → List (List Value) → Mem → Prop) (ts : List Value) (ls : List (List Value)) (σ : Mem) : Prop := w_bn_j2b K J1 R1 (ts.getD 0 poison) (ts.getD 1 poison) (ts.getD 2 poison) (ts.getD 3 poison) (ls.getD 0 []) σ
def w_law14_rounds_l5b (K : Value → Mem → Prop) (J1 : List Value → List (List Value) → Mem → Prop) (R1 : List Value → List (List Value) → Mem → Prop) (v1 v2 v7 v8 : Value) (c3 : List Value) (σ : Mem) : Prop :=xJoin (w_bn_j2 K J1 R1) fun J2 =>xF fMove [v8] fun v15 =>xF fMove [v2] fun v16 =>xF (fBin .mul .no) [.int .i64 3000, v16] fun v17 =>xF (fBin .lss .no) [v15, v17] fun v18 =>xF fMove [v18] fun v19 =>xIf v19
 (xF fMove [v1] fun v20 =>s_ap [v20] (fun v21 σ =>xF (fFldV 4 1 false) [v21] fun v22 =>xF fMove [v7] fun v23 =>xF (fBin .lss .no) [v22, v23] fun v24 =>xF fPick [.bool true, v24, .bool false] fun v25 =>xIf v25
 (J2 [v1, v2, v7, v8] [c3] σ)
 (J1 [v1, v7] [] σ)) σ)
 (xF fPick [.bool false, undef, .bool false] fun v25 =>xIf v25
 (J2 [v1, v2, v7, v8] [c3] σ)
 (J1 [v1, v7] [] σ))
def w_law14_rounds_l5 (K : Value → Mem → Prop) (J1 : List Value → List (List Value) → Mem → Prop) (R1 : List Value → List (List Value) → Mem → Prop) (ts : List Value) (ls : List (List Value)) (σ : Mem) : Prop := w_law14_rounds_l5b K J1 R1 (ts.getD 0 poison) (ts.getD 1 poison) (ts.getD 2 poison) (ts.getD 3 poison) (ls.getD 0 []) σ
def w_bn (a0 a1 a2 : Value) (K : Value → Mem → Prop) (σ : Mem) : Prop :=xC (gBox 9 [a0] []) fun c3 =>xF fMove [.bool false] fun v6 =>xF (fFld 8) [(locP 3)] fun v9 =>xC (gStore 1 [v9, (.int .i64 (-1))] c3) fun c3 =>xF fMove [a1] fun v10 =>s_ap [v10] (fun v11 σ =>xF (fFldV 4 1 false) [v11] fun v12 =>xF fMove [a2] fun v13 =>xF (fBin .add .no) [v12, v13] fun v14 =>xF fMove [v14] fun v7 =>xJoin (w_bn_j1 K) fun J1 =>xF fMove [.int .i64 0] fun v8 =>xLoop (w_law14_rounds_l5 K J1) [a1, a2, v7, v8] [c3] σ) σ
def s_bn : Spec := fun args K σ => match args with
  | [a0, a1, a2] => w_bn a0 a1 a2 K σ
  | _ => False
noncomputable def cx_bn : Cx := { P := Tryz.prog, T := [(16, .read, s_ap), (19, .write, s_ao)], loc := [(3, 3), (9, 3)], eqt := [], n := 36, keep := [(5, [1, 2, 7, 8], [3]), (1000007, [1, 2, 7, 8], [3]), (1000008, [1, 7], [])] }
theorem q_bn : FnS cx_bn Tryz.f15 (bodyOf Tryz.f15) 3 = s_bn := by
  funext args K σ
  rcases args with _ | ⟨a0, _ | ⟨a1, _ | ⟨a2, _ | ⟨b, r⟩⟩⟩⟩ <;> kernel_rfl
theorem e_bn : Entry Tryz.prog 15 .write s_bn :=
  entry (C := cx_bn) (TOk.cons e_ap (TOk.cons e_ao TOk.nil)) mixedOk Tryz.func15 (by kernel_rfl) (by kernel_rfl) (by kernel_rfl) q_bn
attribute [irreducible] w_bn_j1b w_bn_j1 w_bn_j2b w_bn_j2 w_law14_rounds_l5b w_law14_rounds_l5 w_bn s_bn
def w_bk_j2b (K : Value → Mem → Prop) (c1 : List Value) (σ : Mem) : Prop :=s_aw [] (fun v34 σ =>xF fMove [v34] fun v6 =>xO (gLoad 9 true [(locP 1)] c1) fun v35 =>s_bl [v35, .int .i64 1] (fun v36 σ =>xF (fBin .eql .no) [v36, .int .i64 2] fun v37 =>xF fMove [v37] fun v38 =>xIf v38
 (xO (gLoad 9 true [(locP 1)] c1) fun v39 =>xF fMove [v6] fun v40 =>s_bn [v39, v40, .int .i64 4] (fun v41 σ =>xF fPick [.bool true, v41, .bool false] fun v42 =>xF fMove [v42] fun v43 =>xIf v43
 (xO (gLoad 9 true [(locP 1)] c1) fun v44 =>s_bl [v44, .int .i64 1] (fun v45 σ =>xF (fBin .eql .no) [v45, .int .i64 1] fun v46 =>xF fPick [.bool true, v46, .bool false] fun v47 =>xF fMove [v47] fun v48 =>xIf v48
 (xO (gLoad 9 true [(locP 1)] c1) fun v49 =>s_bl [v49, .int .i64 0] (fun v50 σ =>xF (fBin .eql .no) [v50, .int .i64 3] fun v51 =>xF fPick [.bool true, v51, .bool false] fun v52 =>xF fMove [v52] fun v53 =>xIf v53
 (xF fMove [v6] fun v54 =>s_ap [v54] (fun v55 σ =>xF (fFldV 2 1 false) [v55] fun v56 =>xF (fBin .eql .no) [v56, .int .i64 1] fun v57 =>xF fPick [.bool true, v57, .bool false] fun v58 =>xF fMove [v58] fun v0 =>K v0 σ) σ)
 (xF fPick [.bool false, undef, .bool false] fun v58 =>xF fMove [v58] fun v0 =>K v0 σ)) σ)
 (xF fPick [.bool false, undef, .bool false] fun v52 =>xF fMove [v52] fun v53 =>xIf v53
 (xF fMove [v6] fun v54 =>s_ap [v54] (fun v55 σ =>xF (fFldV 2 1 false) [v55] fun v56 =>xF (fBin .eql .no) [v56, .int .i64 1] fun v57 =>xF fPick [.bool true, v57, .bool false] fun v58 =>xF fMove [v58] fun v0 =>K v0 σ) σ)
 (xF fPick [.bool false, undef, .bool false] fun v58 =>xF fMove [v58] fun v0 =>K v0 σ))) σ)
 (xF fPick [.bool false, undef, .bool false] fun v47 =>xF fMove [v47] fun v48 =>xIf v48
 (xO (gLoad 9 true [(locP 1)] c1) fun v49 =>s_bl [v49, .int .i64 0] (fun v50 σ =>xF (fBin .eql .no) [v50, .int .i64 3] fun v51 =>xF fPick [.bool true, v51, .bool false] fun v52 =>xF fMove [v52] fun v53 =>xIf v53
 (xF fMove [v6] fun v54 =>s_ap [v54] (fun v55 σ =>xF (fFldV 2 1 false) [v55] fun v56 =>xF (fBin .eql .no) [v56, .int .i64 1] fun v57 =>xF fPick [.bool true, v57, .bool false] fun v58 =>xF fMove [v58] fun v0 =>K v0 σ) σ)
 (xF fPick [.bool false, undef, .bool false] fun v58 =>xF fMove [v58] fun v0 =>K v0 σ)) σ)
 (xF fPick [.bool false, undef, .bool false] fun v52 =>xF fMove [v52] fun v53 =>xIf v53
 (xF fMove [v6] fun v54 =>s_ap [v54] (fun v55 σ =>xF (fFldV 2 1 false) [v55] fun v56 =>xF (fBin .eql .no) [v56, .int .i64 1] fun v57 =>xF fPick [.bool true, v57, .bool false] fun v58 =>xF fMove [v58] fun v0 =>K v0 σ) σ)
 (xF fPick [.bool false, undef, .bool false] fun v58 =>xF fMove [v58] fun v0 =>K v0 σ)))) σ)
 (xF fPick [.bool false, undef, .bool false] fun v42 =>xF fMove [v42] fun v43 =>xIf v43
 (xO (gLoad 9 true [(locP 1)] c1) fun v44 =>s_bl [v44, .int .i64 1] (fun v45 σ =>xF (fBin .eql .no) [v45, .int .i64 1] fun v46 =>xF fPick [.bool true, v46, .bool false] fun v47 =>xF fMove [v47] fun v48 =>xIf v48
 (xO (gLoad 9 true [(locP 1)] c1) fun v49 =>s_bl [v49, .int .i64 0] (fun v50 σ =>xF (fBin .eql .no) [v50, .int .i64 3] fun v51 =>xF fPick [.bool true, v51, .bool false] fun v52 =>xF fMove [v52] fun v53 =>xIf v53
 (xF fMove [v6] fun v54 =>s_ap [v54] (fun v55 σ =>xF (fFldV 2 1 false) [v55] fun v56 =>xF (fBin .eql .no) [v56, .int .i64 1] fun v57 =>xF fPick [.bool true, v57, .bool false] fun v58 =>xF fMove [v58] fun v0 =>K v0 σ) σ)
 (xF fPick [.bool false, undef, .bool false] fun v58 =>xF fMove [v58] fun v0 =>K v0 σ)) σ)
 (xF fPick [.bool false, undef, .bool false] fun v52 =>xF fMove [v52] fun v53 =>xIf v53
 (xF fMove [v6] fun v54 =>s_ap [v54] (fun v55 σ =>xF (fFldV 2 1 false) [v55] fun v56 =>xF (fBin .eql .no) [v56, .int .i64 1] fun v57 =>xF fPick [.bool true, v57, .bool false] fun v58 =>xF fMove [v58] fun v0 =>K v0 σ) σ)
 (xF fPick [.bool false, undef, .bool false] fun v58 =>xF fMove [v58] fun v0 =>K v0 σ))) σ)
 (xF fPick [.bool false, undef, .bool false] fun v47 =>xF fMove [v47] fun v48 =>xIf v48
 (xO (gLoad 9 true [(locP 1)] c1) fun v49 =>s_bl [v49, .int .i64 0] (fun v50 σ =>xF (fBin .eql .no) [v50, .int .i64 3] fun v51 =>xF fPick [.bool true, v51, .bool false] fun v52 =>xF fMove [v52] fun v53 =>xIf v53
 (xF fMove [v6] fun v54 =>s_ap [v54] (fun v55 σ =>xF (fFldV 2 1 false) [v55] fun v56 =>xF (fBin .eql .no) [v56, .int .i64 1] fun v57 =>xF fPick [.bool true, v57, .bool false] fun v58 =>xF fMove [v58] fun v0 =>K v0 σ) σ)
 (xF fPick [.bool false, undef, .bool false] fun v58 =>xF fMove [v58] fun v0 =>K v0 σ)) σ)
 (xF fPick [.bool false, undef, .bool false] fun v52 =>xF fMove [v52] fun v53 =>xIf v53
 (xF fMove [v6] fun v54 =>s_ap [v54] (fun v55 σ =>xF (fFldV 2 1 false) [v55] fun v56 =>xF (fBin .eql .no) [v56, .int .i64 1] fun v57 =>xF fPick [.bool true, v57, .bool false] fun v58 =>xF fMove [v58] fun v0 =>K v0 σ) σ)
 (xF fPick [.bool false, undef, .bool false] fun v58 =>xF fMove [v58] fun v0 =>K v0 σ))))) σ) σ
def w_bk_j2 (K : Value → Mem → Prop) (ts : List Value) (ls : List (List Value)) (σ : Mem) : Prop := w_bk_j2b K (ls.getD 0 []) σ
def w_law14_awake_l11b (K : Value → Mem → Prop) (J2 : List Value → List (List Value) → Mem → Prop) (R1 : List Value → List (List Value) → Mem → Prop) (v3 v5 : Value) (c1 : List Value) (σ : Mem) : Prop :=xF fMove [v5] fun v24 =>xF (fBin .lss .no) [v24, .int .i64 6] fun v25 =>xIf v25
 (xO (gLoad 9 true [(locP 1)] c1) fun v28 =>xF fMove [v3] fun v29 =>xF fMove [v5] fun v30 =>xF (fIxS 1) [v29, v30] fun v31 =>hLoad 1 false [v31] (fun v32 σ =>s_bc [v28, v32, .bool false] (fun v33 σ =>xF fMove [v5] fun v26 =>xF (fBin .add .no) [v26, .int .i64 1] fun v27 =>xF fMove [v27] fun v5 =>R1 [v3, v5] [c1] σ) σ) σ)
 (J2 [] [c1] σ)
def w_law14_awake_l11 (K : Value → Mem → Prop) (J2 : List Value → List (List Value) → Mem → Prop) (R1 : List Value → List (List Value) → Mem → Prop) (ts : List Value) (ls : List (List Value)) (σ : Mem) : Prop := w_law14_awake_l11b K J2 R1 (ts.getD 0 poison) (ts.getD 1 poison) (ls.getD 0 []) σ
def w_bk_j1b (K : Value → Mem → Prop) (v3 : Value) (c1 : List Value) (σ : Mem) : Prop :=xJoin (w_bk_j2 K) fun J2 =>xF fMove [.int .i64 0] fun v5 =>xLoop (w_law14_awake_l11 K J2) [v3, v5] [c1] σ
def w_bk_j1 (K : Value → Mem → Prop) (ts : List Value) (ls : List (List Value)) (σ : Mem) : Prop := w_bk_j1b K (ts.getD 0 poison) (ls.getD 0 []) σ
def w_law14_awake_l7b (K : Value → Mem → Prop) (J1 : List Value → List (List Value) → Mem → Prop) (R1 : List Value → List (List Value) → Mem → Prop) (v3 v4 : Value) (c1 : List Value) (σ : Mem) : Prop :=xF fMove [v4] fun v14 =>xF (fBin .lss .no) [v14, .int .i64 7] fun v15 =>xIf v15
 (xF fMove [v3] fun v18 =>xO (gLoad 9 true [(locP 1)] c1) fun v19 =>s_bb [v19, .int .i64 2, .bool false] (fun v20 σ =>xF (fFldV 1 1 false) [v20] fun v21 =>xC (gBuildS 1 1 [.int .u64 0] [0] [v21] []) fun c22 =>hAppendL 1 8 c22 [v18, (locS 22 1 1)] (fun v23 σ =>xF fMove [v23] fun v3 =>xF fMove [v4] fun v16 =>xF (fBin .add .no) [v16, .int .i64 1] fun v17 =>xF fMove [v17] fun v4 =>R1 [v3, v4] [c1] σ) σ) σ)
 (J1 [v3] [c1] σ)
def w_law14_awake_l7 (K : Value → Mem → Prop) (J1 : List Value → List (List Value) → Mem → Prop) (R1 : List Value → List (List Value) → Mem → Prop) (ts : List Value) (ls : List (List Value)) (σ : Mem) : Prop := w_law14_awake_l7b K J1 R1 (ts.getD 0 poison) (ts.getD 1 poison) (ls.getD 0 []) σ
def w_bk (K : Value → Mem → Prop) (σ : Mem) : Prop :=xF fMove [.bool false] fun v0 =>s_ba [.int .i64 1, .int .i64 20, .int .i64 4, .int .i64 20] (fun v8 σ =>xF fMove [v8] fun v7 =>xF (fExt 0) [v7] fun v9 =>xF (fExt 1) [v7] fun v10 =>xC (gStore 9 [(locP 1), v9] [.int .i64 0, .int .i64 0, .int .i64 0, .int .i64 0, .int .i64 0, .int .i64 0, .int .i64 0, .pointer none, .int .i64 0]) fun c1 =>xF fMove [v10] fun v2 =>xF fMove [v2] fun v11 =>xF (fUn .not) [v11] fun v12 =>xIf v12
 (xF fMove [.bool false] fun v0 =>K v0 σ)
 (hBuildS 1 0 [.int .u64 0] [] [] (fun v13 σ =>xF fMove [v13] fun v3 =>xJoin (w_bk_j1 K) fun J1 =>xF fMove [.int .i64 0] fun v4 =>xLoop (w_law14_awake_l7 K J1) [v3, v4] [c1] σ) σ)) σ
def s_bk : Spec := fun args K σ => match args with
  | [] => w_bk  K σ
  | _ => False
noncomputable def cx_bk : Cx := { P := Tryz.prog, T := [(9, .write, s_ba), (11, .write, s_bb), (17, .write, s_bc), (14, .write, s_aw), (28, .write, s_bl), (15, .write, s_bn), (16, .read, s_ap)], loc := [(1, 1), (22, 22)], eqt := [], n := 59, keep := [(7, [3, 4], [1]), (11, [3, 5], [1]), (1000010, [3], [1]), (1000014, [], [1])] }
theorem q_bk : FnS cx_bk Tryz.f10 (bodyOf Tryz.f10) 0 = s_bk := by
  funext args K σ
  rcases args with _ | ⟨b, r⟩ <;> kernel_rfl
theorem e_bk : Entry Tryz.prog 10 .write s_bk :=
  entry (C := cx_bk) (TOk.cons e_ba (TOk.cons e_bb (TOk.cons e_bc (TOk.cons e_aw (TOk.cons e_bl (TOk.cons e_bn (TOk.cons e_ap TOk.nil))))))) mixedOk Tryz.func10 (by kernel_rfl) (by kernel_rfl) (by kernel_rfl) q_bk
attribute [irreducible] w_bk_j2b w_bk_j2 w_law14_awake_l11b w_law14_awake_l11 w_bk_j1b w_bk_j1 w_law14_awake_l7b w_law14_awake_l7 w_bk s_bk
end Go.Fl
namespace Go.Fl
open Go Go.Proofs
set_option linter.unusedVariables false
set_option maxRecDepth 10000000
def w_cb (a0 : Value) (K : Value → Mem → Prop) (σ : Mem) : Prop :=xF fMove [.int .i64 0] fun v2 =>xF fMove [a0] fun v3 =>xF (fBin .eql .ptr) [v3, .pointer none] fun v4 =>xIf v4
 (xF fMove [.int .i64 0] fun v2 =>K v2 σ)
 (xF fMove [a0] fun v5 =>xF fNil [v5] fun v6 =>xF (fFld 0) [v6] fun v7 =>hLoad 1 false [v7] (fun v8 σ =>xF fLen [v8] fun v9 =>xF fMove [v9] fun v2 =>K v2 σ) σ)
def s_cb : Spec := fun args K σ => match args with
  | [a0] => w_cb a0 K σ
  | _ => False
noncomputable def cx_cb : Cx := { P := Tryz.prog, T := [], loc := [], eqt := [(25, .ptr)], n := 10, keep := [] }
theorem q_cb : FnS cx_cb Tryz.f12 (bodyOf Tryz.f12) 1 = s_cb := by
  funext args K σ
  rcases args with _ | ⟨a0, _ | ⟨b, r⟩⟩ <;> kernel_rfl
theorem e_cb : Entry Tryz.prog 12 .read s_cb :=
  entry (C := cx_cb) TOk.nil mixedOk Tryz.func12 (by kernel_rfl) (by kernel_rfl) (by kernel_rfl) q_cb
attribute [irreducible] w_cb s_cb
def w_bi_j4b (K : Value → Mem → Prop) (v10 : Value) (σ : Mem) : Prop :=xF fMove [v10] fun v82 =>s_ap [v82] (fun v83 σ =>xF (fFldV 0 1 false) [v83] fun v84 =>xF (fBin .eql .no) [v84, .int .i64 0] fun v85 =>xF fMove [v85] fun v86 =>xIf v86
 (xF fMove [v10] fun v87 =>s_ap [v87] (fun v88 σ =>xF (fFldV 3 1 false) [v88] fun v89 =>xF (fBin .eql .no) [v89, .int .i64 0] fun v90 =>xF fPick [.bool true, v90, .bool false] fun v91 =>xF fMove [v91] fun v92 =>xIf v92
 (xF fMove [v10] fun v93 =>s_ap [v93] (fun v94 σ =>xF (fFldV 1 1 false) [v94] fun v95 =>xF (fBin .eql .no) [v95, .int .i64 0] fun v96 =>xF fPick [.bool true, v96, .bool false] fun v97 =>xF fMove [v97] fun v4 =>K v4 σ) σ)
 (xF fPick [.bool false, undef, .bool false] fun v97 =>xF fMove [v97] fun v4 =>K v4 σ)) σ)
 (xF fPick [.bool false, undef, .bool false] fun v91 =>xF fMove [v91] fun v92 =>xIf v92
 (xF fMove [v10] fun v93 =>s_ap [v93] (fun v94 σ =>xF (fFldV 1 1 false) [v94] fun v95 =>xF (fBin .eql .no) [v95, .int .i64 0] fun v96 =>xF fPick [.bool true, v96, .bool false] fun v97 =>xF fMove [v97] fun v4 =>K v4 σ) σ)
 (xF fPick [.bool false, undef, .bool false] fun v97 =>xF fMove [v97] fun v4 =>K v4 σ))) σ
def w_bi_j4 (K : Value → Mem → Prop) (ts : List Value) (ls : List (List Value)) (σ : Mem) : Prop := w_bi_j4b K (ts.getD 0 poison) σ
def w_law14_CompactStill_l19b (K : Value → Mem → Prop) (J4 : List Value → List (List Value) → Mem → Prop) (R1 : List Value → List (List Value) → Mem → Prop) (v8 v10 v11 : Value) (c5 : List Value) (σ : Mem) : Prop :=xF fMove [v11] fun v67 =>xF fMove [v8] fun v68 =>xF fLen [v68] fun v69 =>xF (fBin .lss .no) [v67, v69] fun v70 =>xIf v70
 (xF (fFld 7) [(locP 5)] fun v73 =>xO (gLoad 1 false [v73] c5) fun v74 =>xF fMove [v11] fun v75 =>s_cd [v74, v75] (fun v76 σ =>xF fMove [v8] fun v77 =>xF fMove [v11] fun v78 =>xF (fIxS 1) [v77, v78] fun v79 =>hLoad 1 false [v79] (fun v80 σ =>xF (fBin .neq .no) [v76, v80] fun v81 =>xIf v81
 (xF fMove [.bool false] fun v4 =>K v4 σ)
 (xF fMove [v11] fun v71 =>xF (fBin .add .no) [v71, .int .i64 1] fun v72 =>xF fMove [v72] fun v11 =>R1 [v8, v10, v11] [c5] σ)) σ) σ)
 (J4 [v10] [] σ)
def w_law14_CompactStill_l19 (K : Value → Mem → Prop) (J4 : List Value → List (List Value) → Mem → Prop) (R1 : List Value → List (List Value) → Mem → Prop) (ts : List Value) (ls : List (List Value)) (σ : Mem) : Prop := w_law14_CompactStill_l19b K J4 R1 (ts.getD 0 poison) (ts.getD 1 poison) (ts.getD 2 poison) (ls.getD 0 []) σ
def w_bi_j3b (K : Value → Mem → Prop) (v1 v8 : Value) (c5 : List Value) (σ : Mem) : Prop :=s_aw [] (fun v59 σ =>xF fMove [v59] fun v10 =>xO (gLoad 9 true [(locP 5)] c5) fun v60 =>xF fMove [v10] fun v61 =>xF fMove [v1] fun v62 =>xF (fBin .and .no) [v62, .int .i64 7] fun v63 =>xF (fBin .add .no) [.int .i64 1, v63] fun v64 =>s_bn [v60, v61, v64] (fun v65 σ =>xF (fUn .not) [v65] fun v66 =>xIf v66
 (xF fMove [.bool false] fun v4 =>K v4 σ)
 (xJoin (w_bi_j4 K) fun J4 =>xF fMove [.int .i64 1] fun v11 =>xLoop (w_law14_CompactStill_l19 K J4) [v8, v10, v11] [c5] σ)) σ) σ
def w_bi_j3 (K : Value → Mem → Prop) (ts : List Value) (ls : List (List Value)) (σ : Mem) : Prop := w_bi_j3b K (ts.getD 0 poison) (ts.getD 1 poison) (ls.getD 0 []) σ
def w_law14_CompactStill_l12b (K : Value → Mem → Prop) (J3 : List Value → List (List Value) → Mem → Prop) (R1 : List Value → List (List Value) → Mem → Prop) (v1 v8 v9 : Value) (c5 : List Value) (σ : Mem) : Prop :=xF fMove [v9] fun v46 =>xF fMove [v8] fun v47 =>xF fLen [v47] fun v48 =>xF (fBin .lss .no) [v46, v48] fun v49 =>xIf v49
 (xF fMove [v8] fun v52 =>xF fMove [v9] fun v53 =>xF (fFld 7) [(locP 5)] fun v54 =>xO (gLoad 1 false [v54] c5) fun v55 =>xF fMove [v9] fun v56 =>s_cd [v55, v56] (fun v57 σ =>xF (fIxS 1) [v52, v53] fun v58 =>hStore 1 [v58, v57] (fun _v σ =>xF fMove [v9] fun v50 =>xF (fBin .add .no) [v50, .int .i64 1] fun v51 =>xF fMove [v51] fun v9 =>R1 [v1, v8, v9] [c5] σ) σ) σ)
 (J3 [v1, v8] [c5] σ)
def w_law14_CompactStill_l12 (K : Value → Mem → Prop) (J3 : List Value → List (List Value) → Mem → Prop) (R1 : List Value → List (List Value) → Mem → Prop) (ts : List Value) (ls : List (List Value)) (σ : Mem) : Prop := w_law14_CompactStill_l12b K J3 R1 (ts.getD 0 poison) (ts.getD 1 poison) (ts.getD 2 poison) (ls.getD 0 []) σ
def w_bi_j2b (K : Value → Mem → Prop) (v1 : Value) (c5 : List Value) (σ : Mem) : Prop :=xF (fFld 7) [(locP 5)] fun v42 =>xO (gLoad 1 false [v42] c5) fun v43 =>s_cb [v43] (fun v44 σ =>hMakeS 1 8 [.int .u64 0] [v44, v44] (fun v45 σ =>xF fMove [v45] fun v8 =>xJoin (w_bi_j3 K) fun J3 =>xF fMove [.int .i64 0] fun v9 =>xLoop (w_law14_CompactStill_l12 K J3) [v1, v8, v9] [c5] σ) σ) σ
def w_bi_j2 (K : Value → Mem → Prop) (ts : List Value) (ls : List (List Value)) (σ : Mem) : Prop := w_bi_j2b K (ts.getD 0 poison) (ls.getD 0 []) σ
def w_bi_j5b (K : Value → Mem → Prop) (J2 : List Value → List (List Value) → Mem → Prop) (R1 : List Value → List (List Value) → Mem → Prop) (v0 v1 v7 : Value) (c5 : List Value) (σ : Mem) : Prop :=xO (gLoad 9 true [(locP 5)] c5) fun v34 =>xF fMove [v0] fun v35 =>xF fMove [v7] fun v36 =>xF (fIxS 1) [v35, v36] fun v37 =>hLoad 1 false [v37] (fun v38 σ =>xF (fBin .and .no) [v38, .int .i64 15] fun v39 =>xF (fBin .add .no) [.int .i64 1, v39] fun v40 =>s_bb [v34, v40, .bool false] (fun v41 σ =>xF fMove [v7] fun v32 =>xF (fBin .add .no) [v32, .int .i64 1] fun v33 =>xF fMove [v33] fun v7 =>R1 [v0, v1, v7] [c5] σ) σ) σ
def w_bi_j5 (K : Value → Mem → Prop) (J2 : List Value → List (List Value) → Mem → Prop) (R1 : List Value → List (List Value) → Mem → Prop) (ts : List Value) (ls : List (List Value)) (σ : Mem) : Prop := w_bi_j5b K J2 R1 (ts.getD 0 poison) (ts.getD 1 poison) (ts.getD 2 poison) (ls.getD 0 []) σ
def w_law14_CompactStill_l7b (K : Value → Mem → Prop) (J2 : List Value → List (List Value) → Mem → Prop) (R1 : List Value → List (List Value) → Mem → Prop) (v0 v1 v7 : Value) (c5 : List Value) (σ : Mem) : Prop :=xJoin (w_bi_j5 K J2 R1) fun J5 =>xF fMove [v7] fun v24 =>xF fMove [v0] fun v25 =>xF fLen [v25] fun v26 =>xF (fBin .lss .no) [v24, v26] fun v27 =>xF fMove [v27] fun v28 =>xIf v28
 (xF fMove [v7] fun v29 =>xF (fBin .lss .no) [v29, .int .i64 25] fun v30 =>xF fPick [.bool true, v30, .bool false] fun v31 =>xIf v31
 (J5 [v0, v1, v7] [c5] σ)
 (J2 [v1] [c5] σ))
 (xF fPick [.bool false, undef, .bool false] fun v31 =>xIf v31
 (J5 [v0, v1, v7] [c5] σ)
 (J2 [v1] [c5] σ))
def w_law14_CompactStill_l7 (K : Value → Mem → Prop) (J2 : List Value → List (List Value) → Mem → Prop) (R1 : List Value → List (List Value) → Mem → Prop) (ts : List Value) (ls : List (List Value)) (σ : Mem) : Prop := w_law14_CompactStill_l7b K J2 R1 (ts.getD 0 poison) (ts.getD 1 poison) (ts.getD 2 poison) (ls.getD 0 []) σ
def w_bi_j1b (K : Value → Mem → Prop) (v0 v1 v21 : Value) (c5 : List Value) (σ : Mem) : Prop :=xIf v21
 (xF fMove [.bool false] fun v4 =>K v4 σ)
 (xF (fFld 0) [(locP 5)] fun v22 =>xF (fFld 5) [v22] fun v23 =>xC (gStore 1 [v23, .int .i64 0] c5) fun c5 =>xJoin (w_bi_j2 K) fun J2 =>xF fMove [.int .i64 0] fun v7 =>xLoop (w_law14_CompactStill_l7 K J2) [v0, v1, v7] [c5] σ)
def w_bi_j1 (K : Value → Mem → Prop) (ts : List Value) (ls : List (List Value)) (σ : Mem) : Prop := w_bi_j1b K (ts.getD 0 poison) (ts.getD 1 poison) (ts.getD 2 poison) (ls.getD 0 []) σ
def w_bi (a0 a1 : Value) (K : Value → Mem → Prop) (σ : Mem) : Prop :=xF fMove [.bool false] fun v4 =>s_ba [.int .i64 1, .int .i64 30, .int .i64 8, .int .i64 34] (fun v13 σ =>xF fMove [v13] fun v12 =>xF (fExt 0) [v12] fun v14 =>xF (fExt 1) [v12] fun v15 =>xC (gStore 9 [(locP 5), v14] [.int .i64 0, .int .i64 0, .int .i64 0, .int .i64 0, .int .i64 0, .int .i64 0, .int .i64 0, .pointer none, .int .i64 0]) fun c5 =>xF fMove [v15] fun v6 =>xJoin (w_bi_j1 K) fun J1 =>s_bk [] (fun v16 σ =>xF (fUn .not) [v16] fun v17 =>xF fMove [v17] fun v18 =>xIf v18
 (xF fPick [.bool true, .bool true, undef] fun v21 =>J1 [a0, a1, v21] [c5] σ)
 (xF fMove [v6] fun v19 =>xF (fUn .not) [v19] fun v20 =>xF fPick [.bool false, .bool true, v20] fun v21 =>J1 [a0, a1, v21] [c5] σ)) σ) σ
def s_bi : Spec := fun args K σ => match args with
  | [a0, a1] => w_bi a0 a1 K σ
  | _ => False
noncomputable def cx_bi : Cx := { P := Tryz.prog, T := [(9, .write, s_ba), (10, .write, s_bk), (11, .write, s_bb), (12, .read, s_cb), (13, .read, s_cd), (14, .write, s_aw), (15, .write, s_bn), (16, .read, s_ap)], loc := [(5, 5), (22, 5), (23, 5), (42, 5), (54, 5), (73, 5)], eqt := [], n := 98, keep := [(7, [0, 1, 7], [5]), (12, [1, 8, 9], [5]), (19, [8, 10, 11], [5]), (1000004, [0, 1, 21], [5]), (1000009, [0, 1, 7], [5]), (1000010, [1], [5]), (1000015, [1, 8], [5]), (1000023, [10], [])] }
theorem q_bi : FnS cx_bi Tryz.f3 (bodyOf Tryz.f3) 2 = s_bi := by
  funext args K σ
  rcases args with _ | ⟨a0, _ | ⟨a1, _ | ⟨b, r⟩⟩⟩ <;> kernel_rfl
theorem e_bi : Entry Tryz.prog 3 .write s_bi :=
  entry (C := cx_bi) (TOk.cons e_ba (TOk.cons e_bk (TOk.cons e_bb (TOk.cons e_cb (TOk.cons e_cd (TOk.cons e_aw (TOk.cons e_bn (TOk.cons e_ap TOk.nil)))))))) mixedOk Tryz.func3 (by kernel_rfl) (by kernel_rfl) (by kernel_rfl) q_bi
attribute [irreducible] w_bi_j4b w_bi_j4 w_law14_CompactStill_l19b w_law14_CompactStill_l19 w_bi_j3b w_bi_j3 w_law14_CompactStill_l12b w_law14_CompactStill_l12 w_bi_j2b w_bi_j2 w_bi_j5b w_bi_j5 w_law14_CompactStill_l7b w_law14_CompactStill_l7 w_bi_j1b w_bi_j1 w_bi s_bi
end Go.Fl
namespace Go.Fl
open Go
set_option linter.unusedVariables false
set_option linter.unusedSimpArgs false
theorem Mem.set_set (σ : Mem) (i : Nat) (a b : Blk) : (σ.set i a).set i b = σ.set i b := by
 apply Mem.ext'; funext j; simp only [Mem.set]; split <;> rfl
theorem Mem.set_self {σ : Mem} {i : Nat} {b : Blk} (h : σ.get i = some b) : σ.set i b = σ := by
 apply Mem.ext'; funext j; simp only [Mem.set]; split
 ·rename_i e; rw [e, h]
 ·rfl
theorem Mem.set_comm (σ : Mem) {i j : Nat} (a b : Blk) (h : i ≠ j) : (σ.set i a).set j b = (σ.set j b).set i a := by
 apply Mem.ext'; funext k; simp only [Mem.set]
 by_cases h1 : k = j <;> by_cases h2 : k = i <;> simp [h1, h2]
 ·exact absurd (h2.symm.trans h1) h
 ·intro e; exact absurd e.symm h
 ·intro e; exact absurd e h
@[simp] theorem Mem.get_set_same (σ : Mem) (i : Nat) (b : Blk) : (σ.set i b).get i = some b := by simp [Mem.set]
theorem Mem.get_set_ne (σ : Mem) {i j : Nat} (b : Blk) (h : j ≠ i) : (σ.set i b).get j = σ.get j := by simp [Mem.set, h]
theorem nr {α : Sort _} {a b : α} (h : a = b) : a = b := h
section
variable {K : Value → Prop} {x y z : Value} {b o off : Nat} {q : Option Nat} {k k' : IntKind} {a c : Int} {Q : EqK}
theorem xMove : xF fMove [x] K = K x := nr rfl
theorem xPickT : xF fPick [.bool true, x, y] K = K x := nr rfl
theorem xPickF : xF fPick [.bool false, x, y] K = K y := nr rfl
theorem xNil {p : Addr} : xF fNil [.pointer (some p)] K = K (.pointer (some p)) := nr rfl
theorem xFld {p : Addr} : xF (fFld off) [.pointer (some p)] K = K (.pointer (some ⟨p.block, p.off + off, p.spot⟩)) := nr rfl
theorem xExt0 : xF (fExt 0) [.tuple #[x, y]] K = K x := nr rfl
theorem xExt1 : xF (fExt 1) [.tuple #[x, y]] K = K y := nr rfl
theorem xExt30 : xF (fExt 0) [.tuple #[x, y, z]] K = K x := nr rfl
theorem xExt31 : xF (fExt 1) [.tuple #[x, y, z]] K = K y := nr rfl
theorem xExt32 : xF (fExt 2) [.tuple #[x, y, z]] K = K z := nr rfl
theorem xAdd : xF (fBin .add Q) [.int k a, .int k c] K = K (.int k (k.wrap (a + c))) := by simp [xF, fBin, isSh, binI]
theorem xSub : xF (fBin .sub Q) [.int k a, .int k c] K = K (.int k (k.wrap (a - c))) := by simp [xF, fBin, isSh, binI]
theorem xMul : xF (fBin .mul Q) [.int k a, .int k c] K = K (.int k (k.wrap (a * c))) := by simp [xF, fBin, isSh, binI]
theorem xQuo (h : c ≠ 0) : xF (fBin .quo Q) [.int k a, .int k c] K = K (.int k (k.wrap (a.tdiv c))) := by simp [xF, fBin, isSh, binI, h]
theorem xEql : xF (fBin .eql Q) [.int k a, .int k c] K = K (.bool (decide (a = c))) := by
 simp only [xF, fBin, isSh, binI]
 simp only [Bool.false_eq_true, if_false, if_true]
 congr 2
theorem xNeq : xF (fBin .neq Q) [.int k a, .int k c] K = K (.bool (decide (a ≠ c))) := by
 simp only [xF, fBin, isSh, binI]
 simp only [Bool.false_eq_true, if_false, if_true]
 congr 2
 by_cases h : a = c <;> simp [h]
theorem xLss : xF (fBin .lss Q) [.int k a, .int k c] K = K (.bool (decide (a < c))) := by simp [xF, fBin, isSh, binI]
theorem xLeq : xF (fBin .leq Q) [.int k a, .int k c] K = K (.bool (decide (a ≤ c))) := by simp [xF, fBin, isSh, binI]
theorem xGtr : xF (fBin .gtr Q) [.int k a, .int k c] K = K (.bool (decide (c < a))) := by simp [xF, fBin, isSh, binI]
theorem xGeq : xF (fBin .geq Q) [.int k a, .int k c] K = K (.bool (decide (c ≤ a))) := by simp [xF, fBin, isSh, binI]
theorem xEqPN {p : Addr} : xF (fBin .eql .ptr) [.pointer (some p), .pointer none] K = K (.bool false) := nr rfl
theorem xEqNN : xF (fBin .eql .ptr) [.pointer none, .pointer none] K = K (.bool true) := nr rfl
theorem xNePN {p : Addr} : xF (fBin .neq .ptr) [.pointer (some p), .pointer none] K = K (.bool true) := nr rfl
theorem xNeNN : xF (fBin .neq .ptr) [.pointer none, .pointer none] K = K (.bool false) := nr rfl
theorem xEqBB {u v : Bool} : xF (fBin .eql .bool) [.bool u, .bool v] K = K (.bool (u == v)) := nr rfl
theorem xNeBB {u v : Bool} : xF (fBin .neq .bool) [.bool u, .bool v] K = K (.bool (!(u == v))) := nr rfl
theorem xNot {u : Bool} : xF (fUn .not) [.bool u] K = K (.bool (!u)) := by simp [xF, fUn]
theorem xNeg : xF (fUn .neg) [.int k a] K = K (.int k (k.wrap (-a))) := by simp [xF, fUn]
theorem xConv : xF (fConv k) [.int k' a] K = K (.int k (k.wrap a)) := nr rfl
theorem xLen {p : Option Addr} {n m : Nat} : xF fLen [.slice p n m] K = K (.int .i64 n) := nr rfl
theorem xMin : xF fMin [.int k a, .int k c] K = K (.int k (min a c)) := by
 show K (.int k (if c < a then c else a)) = _
 congr 2; split <;> omega
theorem xMax : xF fMax [.int k a, .int k c] K = K (.int k (max a c)) := by
 show K (.int k (if c > a then c else a)) = _
 congr 2; split <;> omega
theorem xIfc {t : TypeId} : xF (fIface t) [x] K = K (.iface t x) := nr rfl
theorem xIxS {p : Addr} {n m es : Nat} (h0 : 0 ≤ a) (h1 : a < n) : xF (fIxS es) [.slice (some p) n m, .int k a] K = K (.pointer (some ⟨p.block, p.off + a.toNat * es, p.spot⟩)) := by
 simp only [xF, fIxS, if_pos (And.intro h0 h1)]; rfl
theorem xFldV {cs : Array Value} {sz : Nat} {ag : Bool} : xF (fFldV off sz ag) [.agg cs] K = xO (sub cs.toList off sz ag) K := nr rfl
end
theorem xIfT {A B : Prop} : xIf (.bool true) A B = A := nr rfl
theorem xIfF {A B : Prop} : xIf (.bool false) A B = B := nr rfl
theorem xIfD {A B : Prop} {p : Prop} [Decidable p] : xIf (.bool (decide p)) A B = if p then A else B := by
 by_cases h : p <;> simp [xIf, h]
theorem xIfB {A B : Prop} {u : Bool} : xIf (.bool u) A B = if u = true then A else B := by cases u <;> rfl
theorem xJoinE {F : List Value → List (List Value) → Mem → Prop} {G : (List Value → List (List Value) → Mem → Prop) → Prop} : xJoin F G = G F := nr rfl
theorem xOs {v : Value} {K : Value → Prop} : xO (some v) K = K v := nr rfl
theorem xCs {c : List Value} {K : List Value → Prop} : xC (some c) K = K c := nr rfl
theorem sub_one {cs : List Value} {o : Nat} {v : Value} (h : cs[o]? = some v) : sub cs o 1 false = some v := by
 have : o < cs.length := (List.getElem?_eq_some_iff.1 h).1
 simp [sub, h, show o + 1 ≤ cs.length by omega]
theorem lay_one {cs : List Value} {o : Nat} {v : Value} : lay cs o [v] = cs.take o ++ v :: cs.drop (o + 1) := by simp [lay]
theorem lay_set {cs : List Value} {o : Nat} {v : Value} (h : o < cs.length) : lay cs o [v] = cs.set o v := by
 rw [lay_one, List.set_eq_take_append_cons_drop, if_pos h]
theorem hLoad_eq {sz b o : Nat} {ag : Bool} {K : Value → Mem → Prop} {σ : Mem} {cs : List Value} {rw : Bool} (h : σ.get b = some ⟨cs, rw⟩) :
  hLoad sz ag [.pointer (some ⟨b, o, none⟩)] K σ = xO (sub cs o sz ag) (fun v => K v σ) := by
 simp only [hLoad, rd, h]
 cases sub cs o sz ag <;> rfl
theorem hStore_eq {sz b o : Nat} {K : Value → Mem → Prop} {σ : Mem} {cs c : List Value} {x : Value} (h : σ.get b = some ⟨cs, true⟩) (hc : cellsOf x sz = some c)
  (hl : o + sz ≤ cs.length) (ho : c.all oneB = true) : hStore sz [.pointer (some ⟨b, o, none⟩), x] K σ = K undef (σ.set b ⟨lay cs o c, true⟩) := by
 simp only [hStore, wr, h, hc]
 rw [if_pos ⟨trivial, hl, ho⟩]
def upd (f : Int → Int) (a v : Int) : Int → Int := fun i => if i = a then v else f i
theorem upd_same (f : Int → Int) (a v : Int) : upd f a v a = v := by simp [upd]
theorem upd_ne (f : Int → Int) {a i : Int} (v : Int) (h : i ≠ a) : upd f a v i = f i := by simp [upd, h]
def cells (k : IntKind) (n : Nat) (f : Int → Int) : List Value := (List.range n).map fun i : Nat => Value.int k (f (i : Int))
@[simp] theorem cells_len (k : IntKind) (n : Nat) (f : Int → Int) : (cells k n f).length = n := by simp [cells]
theorem cells_get (k : IntKind) {n : Nat} (f : Int → Int) {a : Int} (h0 : 0 ≤ a) (h1 : a < n) : (cells k n f)[a.toNat]? = some (.int k (f a)) := by
 have : a.toNat < n := by omega
 simp only [cells, List.getElem?_map, List.getElem?_range this, Option.map_some]
 rw [show ((a.toNat : Nat) : Int) = a by omega]
theorem cells_set (k : IntKind) {n : Nat} (f : Int → Int) {a : Int} (v : Int) (h0 : 0 ≤ a) (h1 : a < n) : (cells k n f).set a.toNat (.int k v) = cells k n (upd f a v) := by
 apply List.ext_getElem?
 intro i
 rw [List.getElem?_set]
 by_cases hi : i < n
 ·simp only [cells, List.getElem?_map, List.getElem?_range hi, Option.map_some, List.length_map, List.length_range]
  by_cases e : a.toNat = i
  ·subst e
   rw [if_pos rfl, if_pos hi]
   simp [upd]
   intro hc; omega
  ·rw [if_neg e]
   have : (i : Int) ≠ a := by omega
   simp [upd, this]
 ·have h2 : ¬ a.toNat = i := by omega
  rw [if_neg h2]
  simp [cells, hi]
theorem cells_sub (k : IntKind) {n : Nat} (f : Int → Int) {a : Int} (h0 : 0 ≤ a) (h1 : a < n) : sub (cells k n f) (0 + a.toNat * 1) 1 false = some (.int k (f a)) := by
 rw [show 0 + a.toNat * 1 = a.toNat by omega]
 exact sub_one (cells_get k f h0 h1)
theorem cells_lay (k : IntKind) {n : Nat} (f : Int → Int) {a : Int} (v : Int) (h0 : 0 ≤ a) (h1 : a < n) : lay (cells k n f) (0 + a.toNat * 1) [.int k v] = cells k n (upd f a v) := by
 rw [show 0 + a.toNat * 1 = a.toNat by omega, lay_set (by simp; omega), cells_set k f v h0 h1]
theorem cells_repl (k : IntKind) (n : Nat) : (List.replicate n [Value.int k 0]).flatten = cells k n fun _ => 0 := by
 rw [List.flatten_replicate_singleton]
 apply List.ext_getElem?
 intro i
 by_cases hi : i < n
 ·simp [cells, hi, List.getElem?_replicate, List.getElem?_range hi]
 ·simp [cells, hi, List.getElem?_replicate]
theorem locP_e (k : Nat) : locP k = .pointer (some ⟨k, 0, some 0⟩) := nr rfl
theorem gBox_a {cs : List Value} {sz : Nat} {l : List Value} (h : cs.length = sz) : gBox sz [.agg cs.toArray] l = some cs := by
 subst h
 show cellsOf (.agg cs.toArray) _ = _
 simp [cellsOf]
theorem gBox_i {k : IntKind} {n : Int} {l : List Value} : gBox 1 [.int k n] l = some [.int k n] := nr rfl
theorem gBox_b {b : Bool} {l : List Value} : gBox 1 [.bool b] l = some [.bool b] := nr rfl
theorem gBox_p {p : Option Addr} {l : List Value} : gBox 1 [.pointer p] l = some [.pointer p] := nr rfl
theorem gLoad_s {sz k o : Nat} {ag : Bool} {q : Option Nat} {cs : List Value} : gLoad sz ag [.pointer (some ⟨k, o, q⟩)] cs = sub cs o sz ag := nr rfl
theorem gAlloc_s {z l : List Value} : gAlloc z [] l = some z := nr rfl
theorem gStore_a {sz k o : Nat} {q : Option Nat} {c cs : List Value} (h : c.length = sz) (hl : o + sz ≤ cs.length) (ho : c.all oneB = true) :
  gStore sz [.pointer (some ⟨k, o, q⟩), .agg c.toArray] cs = some (lay cs o c) := by
 subst h
 have : cellsOf (.agg c.toArray) c.length = some c := by simp [cellsOf]
 simp only [gStore, this]
 rw [if_pos ⟨hl, ho⟩]
theorem gStore_1 {k o : Nat} {q : Option Nat} {x : Value} {cs : List Value} (h : cellsOf x 1 = some [x]) (hl : o + 1 ≤ cs.length) (ho : oneB x = true) :
  gStore 1 [.pointer (some ⟨k, o, q⟩), x] cs = some (lay cs o [x]) := by
 simp only [gStore, h]
 rw [if_pos ⟨hl, by simp [ho]⟩]
theorem gStore_i {k o : Nat} {q : Option Nat} {kd : IntKind} {n : Int} {cs : List Value} (hl : o + 1 ≤ cs.length) :
  gStore 1 [.pointer (some ⟨k, o, q⟩), .int kd n] cs = some (lay cs o [.int kd n]) := gStore_1 rfl hl rfl
theorem gStore_b {k o : Nat} {q : Option Nat} {b : Bool} {cs : List Value} (hl : o + 1 ≤ cs.length) :
  gStore 1 [.pointer (some ⟨k, o, q⟩), .bool b] cs = some (lay cs o [.bool b]) := gStore_1 rfl hl rfl
theorem gStore_p {k o : Nat} {q : Option Nat} {p : Option Addr} {cs : List Value} (hl : o + 1 ≤ cs.length) :
  gStore 1 [.pointer (some ⟨k, o, q⟩), .pointer p] cs = some (lay cs o [.pointer p]) := gStore_1 rfl hl rfl
theorem sub_z {x : Value} {cs : List Value} : sub (x :: cs) 0 1 false = some x := by simp [sub]
theorem sub_s {x : Value} {cs : List Value} {n : Nat} : sub (x :: cs) (n + 1) 1 false = sub cs n 1 false := by
 simp only [sub, List.length_cons]
 by_cases h : n + 1 ≤ cs.length
 ·rw [if_pos h, if_pos (by omega)]; simp
 ·rw [if_neg h, if_neg (by omega)]
theorem sub_l {cs : List Value} {o sz : Nat} : sub cs o sz true = if o + sz ≤ cs.length then some (.agg ((cs.drop o).take sz).toArray) else none := by simp [sub]
theorem oneB_i {k : IntKind} {n : Int} : oneB (.int k n) = true := nr rfl
theorem oneB_b {b : Bool} : oneB (.bool b) = true := nr rfl
theorem oneB_p {p : Option Addr} : oneB (.pointer p) = true := nr rfl
theorem oneB_sl {p : Option Addr} {n c : Nat} : oneB (.slice p n c) = true := nr rfl
theorem lay_z {cs vs : List Value} : lay cs 0 vs = vs ++ cs.drop vs.length := by simp [lay]
theorem lay_s {x : Value} {cs vs : List Value} {n : Nat} : lay (x :: cs) (n + 1) vs = x :: lay cs n vs := by
 simp only [lay, List.take_succ_cons, List.cons_append]
 rw [show n + 1 + vs.length = (n + vs.length) + 1 by omega, List.drop_succ_cons]
def SlW (w : World) (ks : List (Option IntKind)) (v : Value) : Prop := v = .slice none 0 0 ∨ ∃ (a : Addr) (len cap : Nat) (cells : List Value), v = .slice (some a) len cap ∧ len ≤ cap ∧ cap ≤ maxLen ∧
 FlatL (List.replicate len ks).flatten cells ∧ (cap = 0 ∨ InW w a (cap * ks.length) (len * ks.length) cells)
theorem Opn.sl {w : World} {ρ : Ren} {σ : Mem} {avs avs' : List Value} {v : Value} {ks : List (Option IntKind)} (h : Opn w ρ σ avs avs') (hv : SlW w ks v) :
  ∃ ρ' σ' s n cs, Opn w ρ' σ' (s :: avs) (v :: avs') ∧ Sl σ' ks.length n cs s ∧ n ≤ maxLen ∧ FlatL (List.replicate n ks).flatten cs ∧ ∀ i b, σ.get i = some b → σ'.get i = some b := by
 rcases hv with rfl | ⟨a, len, cap, cs, rfl, h1, h2, h3, h4⟩
 ·exact ⟨ρ, σ, _, 0, [], h.nilS, .nil, Nat.zero_le _, .nil, fun _ _ q => q⟩
 ·obtain ⟨ρ', σ', s, o, sl, ext⟩ := h.slice (es := ks.length) h1 h3 (by simp) h4
  exact ⟨ρ', σ', s, len, cs, o, sl, Nat.le_trans h1 h2, h3, ext⟩
theorem FlatL.ints {k : IntKind} : ∀ {n : Nat} {cs : List Value}, FlatL (List.replicate n [some k]).flatten cs → ∃ f : Int → Int, cs = cells k n f ∧ ∀ i, (Lit.int k (f i)).wf = true
 | 0, cs, h => by
  cases h
  refine ⟨fun _ => 0, rfl, fun i => ?_⟩
  show (Lit.int k 0).wf = true
  cases k <;> decide
 | n + 1, cs, h => by
  have e : (List.replicate (n + 1) [some k]).flatten = some k :: (List.replicate n [some k]).flatten := by simp [List.replicate_succ]
  rw [e] at h
  cases h with
  | cons h1 h2 =>
   obtain ⟨m, rfl, hm⟩ := h1
   obtain ⟨f, rfl, hf⟩ := FlatL.ints h2
   refine ⟨fun i => if i = 0 then m else f (i - 1), ?_, fun i => ?_⟩
   ·simp only [cells, List.range_succ_eq_map, List.map_cons, List.map_map]
    congr 1
    apply List.map_congr_left
    intro i _
    simp only [Function.comp]
    rw [if_neg (by omega)]
    congr 2; omega
   ·dsimp only; split
    ·exact hm
    ·exact hf _
theorem ruS : type_of% ((And.intro (And.intro (And.intro (And.intro (And.intro @xMove (And.intro @xPickT @xPickF)) (And.intro @xNil (And.intro @xFld @xExt0))) (And.intro (And.intro @xExt1 (And.intro @xExt30 @xExt31)) (And.intro (And.intro @xExt32 @xAdd) (And.intro @xSub @xMul)))) (And.intro (And.intro (And.intro @xEql (And.intro @xNeq @xLss)) (And.intro @xLeq (And.intro @xGtr @xGeq))) (And.intro (And.intro @xEqPN (And.intro @xEqNN @xNePN)) (And.intro (And.intro @xNeNN @xEqBB) (And.intro @xNeBB @xNot))))) (And.intro (And.intro (And.intro (And.intro @xConv (And.intro @xLen @xMin)) (And.intro @xMax (And.intro @xIfc @xIfT))) (And.intro (And.intro @xIfF (And.intro @xIfD @xJoinE)) (And.intro (And.intro @xOs @xCs) (And.intro @xFldV @List.getD_cons_zero.{0})))) (And.intro (And.intro (And.intro @List.getD_cons_succ.{0} (And.intro @Nat.zero_add @Mem.get_set_same)) (And.intro (And.intro @Mem.set_set @if_true.{1}) (And.intro @if_false.{1} @Bool.not_true))) (And.intro (And.intro @Bool.not_false (And.intro @decide_true @decide_false)) (And.intro (And.intro @decide_eq_true_eq @decide_not) (And.intro @Bool.not_eq_true @Bool.false_eq_true))))))) := (And.intro (And.intro (And.intro (And.intro (And.intro @xMove (And.intro @xPickT @xPickF)) (And.intro @xNil (And.intro @xFld @xExt0))) (And.intro (And.intro @xExt1 (And.intro @xExt30 @xExt31)) (And.intro (And.intro @xExt32 @xAdd) (And.intro @xSub @xMul)))) (And.intro (And.intro (And.intro @xEql (And.intro @xNeq @xLss)) (And.intro @xLeq (And.intro @xGtr @xGeq))) (And.intro (And.intro @xEqPN (And.intro @xEqNN @xNePN)) (And.intro (And.intro @xNeNN @xEqBB) (And.intro @xNeBB @xNot))))) (And.intro (And.intro (And.intro (And.intro @xConv (And.intro @xLen @xMin)) (And.intro @xMax (And.intro @xIfc @xIfT))) (And.intro (And.intro @xIfF (And.intro @xIfD @xJoinE)) (And.intro (And.intro @xOs @xCs) (And.intro @xFldV @List.getD_cons_zero.{0})))) (And.intro (And.intro (And.intro @List.getD_cons_succ.{0} (And.intro @Nat.zero_add @Mem.get_set_same)) (And.intro (And.intro @Mem.set_set @if_true.{1}) (And.intro @if_false.{1} @Bool.not_true))) (And.intro (And.intro @Bool.not_false (And.intro @decide_true @decide_false)) (And.intro (And.intro @decide_eq_true_eq @decide_not) (And.intro @Bool.not_eq_true @Bool.false_eq_true))))))
theorem ruL : type_of% ((And.intro (And.intro (And.intro (And.intro (And.intro @locP_e @gBox_a) (And.intro @gBox_i @gBox_b)) (And.intro (And.intro @gBox_p @gLoad_s) (And.intro @gAlloc_s @gStore_a))) (And.intro (And.intro (And.intro @gStore_i @gStore_b) (And.intro @gStore_p @sub_z)) (And.intro (And.intro @sub_s @lay_z) (And.intro @lay_s @List.length_cons.{0})))) (And.intro (And.intro (And.intro (And.intro @List.length_nil.{0} @Nat.le_refl) (And.intro @List.drop_zero.{0} @List.drop_succ_cons.{0})) (And.intro (And.intro @List.take_succ_cons.{0} @List.take_zero.{0}) (And.intro @List.drop_nil.{0} @List.cons_append.{0}))) (And.intro (And.intro (And.intro @List.nil_append.{0} @List.all_cons.{0}) (And.intro @List.all_nil.{0} @oneB_i)) (And.intro (And.intro @oneB_b @oneB_p) (And.intro @oneB_sl @Bool.and_true)))))) := (And.intro (And.intro (And.intro (And.intro (And.intro @locP_e @gBox_a) (And.intro @gBox_i @gBox_b)) (And.intro (And.intro @gBox_p @gLoad_s) (And.intro @gAlloc_s @gStore_a))) (And.intro (And.intro (And.intro @gStore_i @gStore_b) (And.intro @gStore_p @sub_z)) (And.intro (And.intro @sub_s @lay_z) (And.intro @lay_s @List.length_cons.{0})))) (And.intro (And.intro (And.intro (And.intro @List.length_nil.{0} @Nat.le_refl) (And.intro @List.drop_zero.{0} @List.drop_succ_cons.{0})) (And.intro (And.intro @List.take_succ_cons.{0} @List.take_zero.{0}) (And.intro @List.drop_nil.{0} @List.cons_append.{0}))) (And.intro (And.intro (And.intro @List.nil_append.{0} @List.all_cons.{0}) (And.intro @List.all_nil.{0} @oneB_i)) (And.intro (And.intro @oneB_b @oneB_p) (And.intro @oneB_sl @Bool.and_true)))))
theorem ruX : type_of% (@sub_l) := @sub_l
end Go.Fl
namespace Go.Fl
open Go
set_option linter.unusedVariables false
set_option linter.unusedSimpArgs false
structure Ar where
 n : Nat
 w : Int → Int
 t : Int → Int
 s : Int
 who : Int
 la : Int
 lw : Int
 lc : Bool
structure Nm where
 m : Nat
 w : Nat
 t : Nat
def Ar.mc (N : Nm) (A : Ar) : List Value := [.slice (some ⟨N.w, 0, none⟩) A.n 1, .slice (some ⟨N.t, 0, none⟩) A.n 1, .int .i64 A.s, .int .i64 A.who, .int .i64 A.la, .int .i64 A.lw, .bool A.lc]
def Ar.wb (A : Ar) : Blk := ⟨cells .u64 A.n A.w, true⟩
def Ar.tb (A : Ar) : Blk := ⟨cells .i64 A.n A.t, true⟩
structure Nm.ok (N : Nm) : Prop where
 mw : N.m ≠ N.w
 mt : N.m ≠ N.t
 wt : N.w ≠ N.t
def putA (N : Nm) (A : Ar) (σ : Mem) : Mem := ((σ.set N.t A.tb).set N.w A.wb).set N.m ⟨A.mc N, true⟩
variable {N : Nm} {A B : Ar} {σ : Mem} {K : Value → Mem → Prop}
theorem putA_m : (putA N A σ).get N.m = some ⟨A.mc N, true⟩ := by simp [putA]
theorem putA_w (h : N.ok) : (putA N A σ).get N.w = some A.wb := by simp [putA, Mem.get_set, h.mw.symm]
theorem putA_t (h : N.ok) : (putA N A σ).get N.t = some A.tb := by simp [putA, Mem.get_set, h.mt.symm, h.wt.symm]
theorem putA_ne {i : Nat} (h1 : i ≠ N.m) (h2 : i ≠ N.w) (h3 : i ≠ N.t) : (putA N A σ).get i = σ.get i := by simp [putA, Mem.get_set, h1, h2, h3]
theorem putA_set {p : Nat} {c : Blk} (h1 : p ≠ N.m) (h2 : p ≠ N.w) (h3 : p ≠ N.t) : (putA N A σ).set p c = putA N A (σ.set p c) := by
 simp only [putA]
 rw [Mem.set_comm _ _ _ h1.symm, Mem.set_comm _ _ _ h2.symm, Mem.set_comm _ _ _ h3.symm]
def Ar.by (A : Ar) (who : Int) : Ar := { A with who := who }
def Ar.step (A : Ar) (a : Int) : Ar := { A with s := IntKind.i64.wrap (A.s + 1), la := a, lw := A.who, lc := false }
def Ar.lay (A : Ar) (a v : Int) : Ar := { A with lc := decide (A.w a ≠ v), t := if A.w a ≠ v then upd A.t a A.s else A.t, w := upd A.w a v }
def Ar.tick (A : Ar) : Ar := { A with s := IntKind.i64.wrap (A.s + 1) }
def Ar.lst (A : Ar) (a : Int) : Ar := { A with la := a, lw := A.who, lc := false }
def Ar.chg (A : Ar) (c : Bool) : Ar := { A with lc := c }
def Ar.setW (A : Ar) (a v : Int) : Ar := { A with w := upd A.w a v }
def Ar.setT (A : Ar) (a v : Int) : Ar := { A with t := upd A.t a v }
theorem putA_setM (h : A.n = B.n) (hw : A.w = B.w) (ht : A.t = B.t) : (putA N A σ).set N.m ⟨B.mc N, true⟩ = putA N B σ := by
 simp only [putA, Mem.set_set, Ar.wb, Ar.tb, h, hw, ht]
theorem ldM0 : hLoad 1 false [.pointer (some ⟨N.m, 0, none⟩)] K (putA N A σ) = K (.slice (some ⟨N.w, 0, none⟩) A.n 1) (putA N A σ) := (hLoad_eq putA_m).trans rfl
theorem ldM1 : hLoad 1 false [.pointer (some ⟨N.m, 1, none⟩)] K (putA N A σ) = K (.slice (some ⟨N.t, 0, none⟩) A.n 1) (putA N A σ) := (hLoad_eq putA_m).trans rfl
theorem ldM2 : hLoad 1 false [.pointer (some ⟨N.m, 2, none⟩)] K (putA N A σ) = K (.int .i64 A.s) (putA N A σ) := (hLoad_eq putA_m).trans rfl
theorem ldM3 : hLoad 1 false [.pointer (some ⟨N.m, 3, none⟩)] K (putA N A σ) = K (.int .i64 A.who) (putA N A σ) := (hLoad_eq putA_m).trans rfl
theorem ldM6 : hLoad 1 false [.pointer (some ⟨N.m, 6, none⟩)] K (putA N A σ) = K (.bool A.lc) (putA N A σ) := (hLoad_eq putA_m).trans rfl
theorem stM2 : hStore 1 [.pointer (some ⟨N.m, 2, none⟩), .int .i64 (IntKind.i64.wrap (A.s + 1))] K (putA N A σ) = K undef (putA N A.tick σ) := by
 rw [hStore_eq putA_m rfl (by simp [Ar.mc]) rfl]
 exact congrArg _ (putA_setM (B := A.tick) rfl rfl rfl)
theorem stM3 {who : Int} : hStore 1 [.pointer (some ⟨N.m, 3, none⟩), .int .i64 who] K (putA N A σ) = K undef (putA N (A.by who) σ) := by
 rw [hStore_eq putA_m rfl (by simp [Ar.mc]) rfl]
 exact congrArg _ (putA_setM (B := A.by who) rfl rfl rfl)
theorem stM4 {a : Int} : hStore 3 [.pointer (some ⟨N.m, 4, none⟩), .agg #[.int .i64 a, .int .i64 A.who, .bool false]] K (putA N A σ) = K undef (putA N (A.lst a) σ) := by
 rw [hStore_eq putA_m rfl (by simp [Ar.mc]) rfl]
 exact congrArg _ (putA_setM (B := A.lst a) rfl rfl rfl)
theorem stM6 {c : Bool} : hStore 1 [.pointer (some ⟨N.m, 6, none⟩), .bool c] K (putA N A σ) = K undef (putA N (A.chg c) σ) := by
 rw [hStore_eq putA_m rfl (by simp [Ar.mc]) rfl]
 exact congrArg _ (putA_setM (B := A.chg c) rfl rfl rfl)
theorem ldW (h : N.ok) {a : Int} (h0 : 0 ≤ a) (h1 : a < A.n) : hLoad 1 false [.pointer (some ⟨N.w, a.toNat * 1, none⟩)] K (putA N A σ) = K (.int .u64 (A.w a)) (putA N A σ) := by
 rw [hLoad_eq (putA_w h)]
 have := cells_sub .u64 A.w h0 h1
 rw [Nat.zero_add] at this
 rw [this, xOs]
theorem stW (h : N.ok) {a v : Int} (h0 : 0 ≤ a) (h1 : a < A.n) : hStore 1 [.pointer (some ⟨N.w, a.toNat * 1, none⟩), .int .u64 v] K (putA N A σ) = K undef (putA N (A.setW a v) σ) := by
 have := cells_lay .u64 A.w v h0 h1
 rw [Nat.zero_add] at this
 rw [hStore_eq (putA_w h) rfl (by simp; omega) rfl, this]
 refine congrArg _ ?_
 simp only [putA]
 rw [Mem.set_comm _ _ _ h.mw, Mem.set_set]; rfl
theorem stT (h : N.ok) {a v : Int} (h0 : 0 ≤ a) (h1 : a < A.n) : hStore 1 [.pointer (some ⟨N.t, a.toNat * 1, none⟩), .int .i64 v] K (putA N A σ) = K undef (putA N (A.setT a v) σ) := by
 have := cells_lay .i64 A.t v h0 h1
 rw [Nat.zero_add] at this
 rw [hStore_eq (putA_t h) rfl (by simp; omega) rfl, this]
 refine congrArg _ ?_
 simp only [putA]
 rw [Mem.set_comm _ _ _ h.mt, Mem.set_comm _ _ _ h.wt, Mem.set_set]; rfl
theorem ldT (h : N.ok) {a : Int} (h0 : 0 ≤ a) (h1 : a < A.n) : hLoad 1 false [.pointer (some ⟨N.t, a.toNat * 1, none⟩)] K (putA N A σ) = K (.int .i64 (A.t a)) (putA N A σ) := by
 rw [hLoad_eq (putA_t h)]
 have := cells_sub .i64 A.t h0 h1
 rw [Nat.zero_add] at this
 rw [this, xOs]
theorem xBuildLast {a b : Int} {K : Value → Prop} : xF (fBuild [(0, 1), (1, 1), (2, 1)] [.int .i64 0, .int .i64 0, .bool false] [0, 1]) [.int .i64 a, .int .i64 b] K = K (.agg #[.int .i64 a, .int .i64 b, .bool false]) := rfl
def Nm.p (N : Nm) : Value := .pointer (some ⟨N.m, 0, none⟩)
theorem c_By {who : Int} : s_b8 [N.p, .int .i64 who] K (putA N A σ) = K (.tuple #[]) (putA N (A.by who) σ) := by
 simp only [s_b8, w_b8, Nm.p, stM3, ruS, Nat.reduceAdd, reduceIte, Int.reduceLT, Int.reduceLE, Int.reduceEq, Int.reduceNeg, Int.reduceAdd, Int.reduceSub]
theorem c_step {a : Int} (h0 : 0 ≤ a) (h1 : a < A.n) : s_ci [N.p, .int .i64 a] K (putA N A σ) = K (.bool true) (putA N (A.step a) σ) := by
 simp only [s_ci, w_ci, w_ci_j1, w_ci_j1b, Nm.p, ldM0, ldM2, ldM3, stM2, stM4, xBuildLast, ruS, Nat.reduceAdd, reduceIte, Int.reduceLT, Int.reduceLE, Int.reduceEq, Int.reduceNeg, Int.reduceAdd, Int.reduceSub]
 rw [if_neg (by omega), if_neg (by omega)]
 rfl
theorem c_set (h : N.ok) {a v : Int} (h0 : 0 ≤ a) (h1 : a < A.n) : s_ch [N.p, .int .i64 a, .int .u64 v] K (putA N A σ) = K (.tuple #[]) (putA N (A.lay a v) σ) := by
 have h2 : ∀ c, a < (A.chg c).n := fun _ => h1
 simp only [s_ch, w_ch, w_ch_j1, w_ch_j1b, Nm.p, ldM0, ldM1, ldM2, ldM6, stM6, xIxS h0 h1, xIxS h0 (h2 _), ldW h h0 h1, ruS, Nat.reduceAdd, reduceIte, Int.reduceLT, Int.reduceLE, Int.reduceEq, Int.reduceNeg, Int.reduceAdd, Int.reduceSub]
 by_cases hc : A.w a = v
 ·simp only [hc, Ar.chg, ne_eq, not_true_eq_false, decide_false, Bool.false_eq_true, if_false, xIxS h0 h1, ruS, Nat.reduceAdd, reduceIte, Int.reduceLT, Int.reduceLE, Int.reduceEq, Int.reduceNeg, Int.reduceAdd, Int.reduceSub]
  have h3 : a < (A.chg false).n := h1
  rw [show ({ n := A.n, w := A.w, t := A.t, s := A.s, who := A.who, la := A.la, lw := A.lw, lc := false } : Ar) = A.chg false from rfl]
  simp only [xIxS h0 h3, stW h h0 h3, Nat.zero_add]
  refine congrArg _ (congrArg (putA N · σ) ?_)
  simp [Ar.setW, Ar.chg, Ar.lay, hc]
 ·simp only [hc, ne_eq, not_false_eq_true, decide_true, if_true, Ar.chg, ruS, Nat.reduceAdd, reduceIte, Int.reduceLT, Int.reduceLE, Int.reduceEq, Int.reduceNeg, Int.reduceAdd, Int.reduceSub]
  have h3 : a < (A.chg true).n := h1
  have h4 : a < ((A.chg true).setT a A.s).n := h1
  rw [show ({ n := A.n, w := A.w, t := A.t, s := A.s, who := A.who, la := A.la, lw := A.lw, lc := true } : Ar) = A.chg true from rfl]
  simp only [xIxS h0 h3, stT h h0 h3, Nat.zero_add]
  simp only [ldM0, ruS, Nat.reduceAdd, reduceIte, Int.reduceLT, Int.reduceLE, Int.reduceEq, Int.reduceNeg, Int.reduceAdd, Int.reduceSub]
  simp only [xIxS h0 h4, stW h h0 h4, Nat.zero_add]
  refine congrArg _ (congrArg (putA N · σ) ?_)
  simp [Ar.setW, Ar.setT, Ar.chg, Ar.lay, hc]
def Ar.load (A : Ar) (a : Int) : Ar := A.step a
def Ar.store (A : Ar) (a v : Int) : Ar := (A.step a).lay a v
def Ar.cas (A : Ar) (a o v : Int) : Ar := if A.w a = o then (A.step a).lay a v else A.step a
def Ar.add (A : Ar) (a d : Int) : Ar := (A.step a).lay a (IntKind.u64.wrap (A.w a + d))
theorem step_lt {a b : Int} (h : a < A.n) : a < (A.step b).n := h
theorem c_mLoad (h : N.ok) {a : Int} (h0 : 0 ≤ a) (h1 : a < A.n) : s_cc [N.p, .int .i64 a] K (putA N A σ) = K (.tuple #[.int .u64 (A.w a), .int .i64 0]) (putA N (A.load a) σ) := by
 simp only [s_cc, w_cc, ruS, Nat.reduceAdd, reduceIte, Int.reduceLT, Int.reduceLE, Int.reduceEq, Int.reduceNeg, Int.reduceAdd, Int.reduceSub, c_step h0 h1]
 simp only [Nm.p, ldM0, xIxS h0 (step_lt h1), ldW h h0 (step_lt h1), ruS, Nat.reduceAdd, reduceIte, Int.reduceLT, Int.reduceLE, Int.reduceEq, Int.reduceNeg, Int.reduceAdd, Int.reduceSub]
 rfl
theorem c_mStore (h : N.ok) {a v : Int} (h0 : 0 ≤ a) (h1 : a < A.n) : s_cf [N.p, .int .i64 a, .int .u64 v] K (putA N A σ) = K (.int .i64 0) (putA N (A.store a v) σ) := by
 simp only [s_cf, w_cf, ruS, Nat.reduceAdd, reduceIte, Int.reduceLT, Int.reduceLE, Int.reduceEq, Int.reduceNeg, Int.reduceAdd, Int.reduceSub, c_step h0 h1, c_set h h0 (step_lt h1)]
 rfl
theorem c_mCas (h : N.ok) {a o v : Int} (h0 : 0 ≤ a) (h1 : a < A.n) : s_b9 [N.p, .int .i64 a, .int .u64 o, .int .u64 v] K (putA N A σ) = K (.tuple #[.bool (decide (A.w a = o)), .int .i64 0]) (putA N (A.cas a o v) σ) := by
 simp only [s_b9, w_b9, ruS, Nat.reduceAdd, reduceIte, Int.reduceLT, Int.reduceLE, Int.reduceEq, Int.reduceNeg, Int.reduceAdd, Int.reduceSub, c_step h0 h1]
 have hw : (A.step a).w a = A.w a := rfl
 simp only [Nm.p, ldM0, xIxS h0 (step_lt h1), ldW h h0 (step_lt h1), ruS, Nat.reduceAdd, reduceIte, Int.reduceLT, Int.reduceLE, Int.reduceEq, Int.reduceNeg, Int.reduceAdd, Int.reduceSub, hw]
 by_cases hc : A.w a = o
 ·have := c_set (K := fun v σ => K (.tuple #[.bool true, .int .i64 0]) σ) (σ := σ) (v := v) h h0 (step_lt (b := a) h1)
  simp only [Nm.p] at this
  simp only [hc, decide_true, if_false, if_true, not_true_eq_false, ne_eq, this, Ar.cas, ruS, Nat.reduceAdd, reduceIte, Int.reduceLT, Int.reduceLE, Int.reduceEq, Int.reduceNeg, Int.reduceAdd, Int.reduceSub]
 ·simp only [hc, decide_false, if_true, not_false_eq_true, ne_eq, Ar.cas, if_false, ruS, Nat.reduceAdd, reduceIte, Int.reduceLT, Int.reduceLE, Int.reduceEq, Int.reduceNeg, Int.reduceAdd, Int.reduceSub]
theorem c_mAdd (h : N.ok) {a d : Int} (h0 : 0 ≤ a) (h1 : a < A.n) : s_b7 [N.p, .int .i64 a, .int .u64 d] K (putA N A σ) = K (.tuple #[.int .u64 (A.w a), .int .i64 0]) (putA N (A.add a d) σ) := by
 simp only [s_b7, w_b7, ruS, Nat.reduceAdd, reduceIte, Int.reduceLT, Int.reduceLE, Int.reduceEq, Int.reduceNeg, Int.reduceAdd, Int.reduceSub, c_step h0 h1]
 have hw : (A.step a).w a = A.w a := rfl
 simp only [Nm.p, ldM0, xIxS h0 (step_lt h1), ldW h h0 (step_lt h1), ruS, Nat.reduceAdd, reduceIte, Int.reduceLT, Int.reduceLE, Int.reduceEq, Int.reduceNeg, Int.reduceAdd, Int.reduceSub, hw]
 have := c_set (K := fun q σ => K (.tuple #[.int .u64 (A.w a), .int .i64 0]) σ) (σ := σ) (v := IntKind.u64.wrap (A.w a + d)) h h0 (step_lt (b := a) h1)
 simp only [Nm.p] at this
 simp only [this, ruS, Nat.reduceAdd, reduceIte, Int.reduceLT, Int.reduceLE, Int.reduceEq, Int.reduceNeg, Int.reduceAdd, Int.reduceSub]
 rfl
theorem c_mPeek (h : N.ok) {a : Int} (h0 : 0 ≤ a) (h1 : a < A.n) : s_cd [N.p, .int .i64 a] K (putA N A σ) = K (.int .u64 (A.w a)) (putA N A σ) := by
 simp only [s_cd, w_cd, w_cd_j1, w_cd_j1b, Nm.p, ldM0, ruS, Nat.reduceAdd, reduceIte, Int.reduceLT, Int.reduceLE, Int.reduceEq, Int.reduceNeg, Int.reduceAdd, Int.reduceSub]
 rw [if_neg (by omega), if_neg (by omega), xIxS h0 h1]
 simp only [Nat.zero_add]
 rw [ldW h h0 h1]
theorem c_mLen : s_cb [N.p] K (putA N A σ) = K (.int .i64 A.n) (putA N A σ) := by
 simp only [s_cb, w_cb, Nm.p, ldM0, ruS, Nat.reduceAdd, reduceIte, Int.reduceLT, Int.reduceLE, Int.reduceEq, Int.reduceNeg, Int.reduceAdd, Int.reduceSub]
theorem c_mSteps : s_ce [N.p] K (putA N A σ) = K (.int .i64 A.s) (putA N A σ) := by
 simp only [s_ce, w_ce, Nm.p, ldM2, ruS, Nat.reduceAdd, reduceIte, Int.reduceLT, Int.reduceLE, Int.reduceEq, Int.reduceNeg, Int.reduceAdd, Int.reduceSub]
structure Cf where
 T : Int
 S : Int
 C : Int
 W : Int
 G : Int
 P : Int
 R : Int
def Cf.l (c : Cf) : List Value := [.int .i64 c.T, .int .i64 c.S, .int .i64 c.C, .int .i64 c.W, .int .i64 c.G, .int .i64 c.P, .int .i64 c.R]
def Cf.v (c : Cf) : Value := .agg #[.int .i64 c.T, .int .i64 c.S, .int .i64 c.C, .int .i64 c.W, .int .i64 c.G, .int .i64 c.P, .int .i64 c.R]
def Nm.env (N : Nm) (c : Cf) (who : Int) : Value := .agg #[.int .i64 c.T, .int .i64 c.S, .int .i64 c.C, .int .i64 c.W, .int .i64 c.G, .int .i64 c.P, .int .i64 c.R, N.p, .int .i64 who]
variable {C : Cf} {who : Int}
theorem by_lt {a : Int} (h : a < A.n) : a < (A.by who).n := h
theorem c_Load (h : N.ok) {a : Int} (h0 : 0 ≤ a) (h1 : a < A.n) : s_bv [N.env C who, .int .i64 a] K (putA N A σ) = K (.int .u64 (A.w a)) (putA N ((A.by who).load a) σ) := by
 simp only [s_bv, w_bv, Nm.env, ruS, ruL, ruX, Nat.reduceAdd, reduceIte, Int.reduceLT, Int.reduceLE, Int.reduceEq, Int.reduceNeg, Int.reduceAdd, Int.reduceSub, Nat.reduceLeDiff, c_By, c_mLoad h h0 (by_lt h1)]
 rfl
theorem c_Store (h : N.ok) {a v : Int} (h0 : 0 ≤ a) (h1 : a < A.n) : s_bx [N.env C who, .int .i64 a, .int .u64 v] K (putA N A σ) = K (.tuple #[]) (putA N ((A.by who).store a v) σ) := by
 simp only [s_bx, w_bx, Nm.env, ruS, ruL, ruX, Nat.reduceAdd, reduceIte, Int.reduceLT, Int.reduceLE, Int.reduceEq, Int.reduceNeg, Int.reduceAdd, Int.reduceSub, Nat.reduceLeDiff, c_By, c_mStore h h0 (by_lt h1)]
theorem c_Cas (h : N.ok) {a o v : Int} (h0 : 0 ≤ a) (h1 : a < A.n) : s_bu [N.env C who, .int .i64 a, .int .u64 o, .int .u64 v] K (putA N A σ) = K (.bool (decide (A.w a = o))) (putA N ((A.by who).cas a o v) σ) := by
 simp only [s_bu, w_bu, Nm.env, ruS, ruL, ruX, Nat.reduceAdd, reduceIte, Int.reduceLT, Int.reduceLE, Int.reduceEq, Int.reduceNeg, Int.reduceAdd, Int.reduceSub, Nat.reduceLeDiff, c_By, c_mCas h h0 (by_lt h1)]
 rfl
theorem c_Add (h : N.ok) {a d : Int} (h0 : 0 ≤ a) (h1 : a < A.n) : s_bt [N.env C who, .int .i64 a, .int .i64 d] K (putA N A σ) = K (.tuple #[]) (putA N ((A.by who).add a (IntKind.u64.wrap d)) σ) := by
 simp only [s_bt, w_bt, Nm.env, ruS, ruL, ruX, Nat.reduceAdd, reduceIte, Int.reduceLT, Int.reduceLE, Int.reduceEq, Int.reduceNeg, Int.reduceAdd, Int.reduceSub, Nat.reduceLeDiff, c_By, c_mAdd h h0 (by_lt h1)]
theorem c_Now : s_bw [N.env C who] K (putA N A σ) = K (.int .i64 A.s) (putA N A σ) := by
 simp only [s_bw, w_bw, Nm.env, ruS, ruL, ruX, Nat.reduceAdd, reduceIte, Int.reduceLT, Int.reduceLE, Int.reduceEq, Int.reduceNeg, Int.reduceAdd, Int.reduceSub, Nat.reduceLeDiff, c_mSteps]
theorem xAnd63 {K : Value → Prop} {Q : EqK} {k : Nat} {w : Int} (h0 : 0 ≤ w) (h1 : w < 18446744073709551616) (hk : k ≤ 63) : xF (fBin .and Q) [.int .u64 w, .int .u64 (2 ^ k - 1)] K = K (.int .u64 (w % 2 ^ k)) := by
 obtain ⟨n, rfl⟩ := Int.eq_ofNat_of_zero_le h0
 have e : ((2 : Int) ^ k - 1) = ((2 ^ k - 1 : Nat) : Int) := by
  have : 0 < 2 ^ k := Nat.two_pow_pos k
  push_cast [Nat.one_le_two_pow]
  rfl
 have hb : 2 ^ k < 2 ^ 64 := Nat.pow_lt_pow_right (by decide) (by omega)
 have hn : n < 2 ^ 64 := by omega
 have q : (BitVec.ofInt 64 (n : Int) &&& BitVec.ofInt 64 ((2 ^ k - 1 : Nat) : Int)).toNat = n % 2 ^ k := by
  rw [BitVec.toNat_and, BitVec.toNat_ofInt, BitVec.toNat_ofInt]
  have h3 : ((n : Int) % ((2 ^ 64 : Nat) : Int)).toNat = n := by omega
  have h4 : (((2 ^ k - 1 : Nat) : Int) % ((2 ^ 64 : Nat) : Int)).toNat = 2 ^ k - 1 := by omega
  rw [h3, h4, Nat.and_two_pow_sub_one_eq_mod]
 show xF (fBin .and Q) _ _ = _
 simp only [xF, fBin, isSh, binI, Bool.false_eq_true, if_false, if_true]
 show K (.int .u64 (IntKind.u64.wrap ((BitVec.ofInt 64 (n : Int) &&& BitVec.ofInt 64 (2 ^ k - 1)).toNat : Int))) = _
 rw [e, q, IntWalk.u64_in _ (by have := Nat.mod_lt n (Nat.two_pow_pos k); omega)]
 push_cast
 rfl
theorem and2 {K : Value → Prop} {Q : EqK} {w : Int} (h0 : 0 ≤ w) (h1 : w < 18446744073709551616) : xF (fBin .and Q) [.int .u64 w, .int .u64 3] K = K (.int .u64 (w % 4)) := by
 simpa using xAnd63 (K := K) (Q := Q) (k := 2) h0 h1 (by decide)
theorem and3 {K : Value → Prop} {Q : EqK} {w : Int} (h0 : 0 ≤ w) (h1 : w < 18446744073709551616) : xF (fBin .and Q) [.int .u64 w, .int .u64 7] K = K (.int .u64 (w % 8)) := by
 simpa using xAnd63 (K := K) (Q := Q) (k := 3) h0 h1 (by decide)
theorem and6 {K : Value → Prop} {Q : EqK} {w : Int} (h0 : 0 ≤ w) (h1 : w < 18446744073709551616) : xF (fBin .and Q) [.int .u64 w, .int .u64 63] K = K (.int .u64 (w % 64)) := by
 simpa using xAnd63 (K := K) (Q := Q) (k := 6) h0 h1 (by decide)
theorem and16 {K : Value → Prop} {Q : EqK} {w : Int} (h0 : 0 ≤ w) (h1 : w < 18446744073709551616) : xF (fBin .and Q) [.int .u64 w, .int .u64 65535] K = K (.int .u64 (w % 65536)) := by
 simpa using xAnd63 (K := K) (Q := Q) (k := 16) h0 h1 (by decide)
theorem and17 {K : Value → Prop} {Q : EqK} {w : Int} (h0 : 0 ≤ w) (h1 : w < 18446744073709551616) : xF (fBin .and Q) [.int .u64 w, .int .u64 131071] K = K (.int .u64 (w % 131072)) := by
 simpa using xAnd63 (K := K) (Q := Q) (k := 17) h0 h1 (by decide)
theorem and20 {K : Value → Prop} {Q : EqK} {w : Int} (h0 : 0 ≤ w) (h1 : w < 18446744073709551616) : xF (fBin .and Q) [.int .u64 w, .int .u64 1048575] K = K (.int .u64 (w % 1048576)) := by
 simpa using xAnd63 (K := K) (Q := Q) (k := 20) h0 h1 (by decide)
theorem and22 {K : Value → Prop} {Q : EqK} {w : Int} (h0 : 0 ≤ w) (h1 : w < 18446744073709551616) : xF (fBin .and Q) [.int .u64 w, .int .u64 4194303] K = K (.int .u64 (w % 4194304)) := by
 simpa using xAnd63 (K := K) (Q := Q) (k := 22) h0 h1 (by decide)
theorem and36 {K : Value → Prop} {Q : EqK} {w : Int} (h0 : 0 ≤ w) (h1 : w < 18446744073709551616) : xF (fBin .and Q) [.int .u64 w, .int .u64 68719476735] K = K (.int .u64 (w % 68719476736)) := by
 simpa using xAnd63 (K := K) (Q := Q) (k := 36) h0 h1 (by decide)
theorem and40 {K : Value → Prop} {Q : EqK} {w : Int} (h0 : 0 ≤ w) (h1 : w < 18446744073709551616) : xF (fBin .and Q) [.int .u64 w, .int .u64 1099511627775] K = K (.int .u64 (w % 1099511627776)) := by
 simpa using xAnd63 (K := K) (Q := Q) (k := 40) h0 h1 (by decide)
theorem and1 {K : Value → Prop} {Q : EqK} {w : Int} (h0 : 0 ≤ w) (h1 : w < 18446744073709551616) : xF (fBin .and Q) [.int .u64 w, .int .u64 1] K = K (.int .u64 (w % 2)) := by
 simpa using xAnd63 (K := K) (Q := Q) (k := 1) h0 h1 (by decide)
theorem xShrG {K : Value → Prop} {Q : EqK} {k' : IntKind} {s : Nat} {w : Int} (h0 : 0 ≤ w) (hs : s ≤ 64) : xF (fBin .shr Q) [.int .u64 w, .int k' (s : Int)] K = K (.int .u64 (w / 2 ^ s)) := by
 have h : ¬ ((s : Int) < 0) := by omega
 have hm : min s IntKind.u64.bits = s := Nat.min_eq_left hs
 simp only [xF, fBin, isSh, shI, if_true, if_neg h, Int.toNat_natCast, hm]
 rw [Int.fdiv_eq_ediv_of_nonneg _ (by exact Int.le_of_lt (Int.pow_pos (by decide)))]
theorem xShlG {K : Value → Prop} {Q : EqK} {k' : IntKind} {s : Nat} {w : Int} (h0 : 0 ≤ w) (h1 : w * 2 ^ s < 18446744073709551616) (hs : s ≤ 64) : xF (fBin .shl Q) [.int .u64 w, .int k' (s : Int)] K = K (.int .u64 (w * 2 ^ s)) := by
 have h : ¬ ((s : Int) < 0) := by omega
 have hm : min s IntKind.u64.bits = s := Nat.min_eq_left hs
 simp only [xF, fBin, isSh, shI, if_true, if_neg h, Int.toNat_natCast, hm]
 rw [IntWalk.u64_in _ ⟨Int.mul_nonneg h0 (Int.le_of_lt (Int.pow_pos (by decide))), by omega⟩]
theorem xOrG {K : Value → Prop} {Q : EqK} {s : Nat} {a c : Int} (h0 : 0 ≤ a) (h1 : a < 2 ^ s) (h2 : 0 ≤ c) (h3 : a + c * 2 ^ s < 18446744073709551616) :
  xF (fBin .or Q) [.int .u64 a, .int .u64 (c * 2 ^ s)] K = K (.int .u64 (a + c * 2 ^ s)) := by
 obtain ⟨m, rfl⟩ := Int.eq_ofNat_of_zero_le h0
 obtain ⟨n, rfl⟩ := Int.eq_ofNat_of_zero_le h2
 have e : (n : Int) * 2 ^ s = ((n * 2 ^ s : Nat) : Int) := by push_cast; rfl
 rw [e] at h3 ⊢
 have hm : m < 2 ^ s := by exact_mod_cast h1
 have q : (BitVec.ofInt 64 (m : Int) ||| BitVec.ofInt 64 ((n * 2 ^ s : Nat) : Int)).toNat = m + n * 2 ^ s := by
  rw [BitVec.toNat_or, BitVec.toNat_ofInt, BitVec.toNat_ofInt]
  have h4 : ((m : Int) % ((2 ^ 64 : Nat) : Int)).toNat = m := by omega
  have h5 : (((n * 2 ^ s : Nat) : Int) % ((2 ^ 64 : Nat) : Int)).toNat = n * 2 ^ s := by omega
  rw [h4, h5, Nat.mul_comm n, Nat.or_comm, ← Nat.two_pow_add_eq_or_of_lt hm, Nat.add_comm]
 simp only [xF, fBin, isSh, binI, Bool.false_eq_true, if_false, if_true]
 show K (.int .u64 (IntKind.u64.wrap ((BitVec.ofInt 64 (m : Int) ||| BitVec.ofInt 64 ((n * 2 ^ s : Nat) : Int)).toNat : Int))) = _
 rw [q, IntWalk.u64_in _ (by omega)]
 push_cast
 rfl
theorem shr2 {K : Value → Prop} {Q : EqK} {k' : IntKind} {w : Int} (h0 : 0 ≤ w) : xF (fBin .shr Q) [.int .u64 w, .int k' 2] K = K (.int .u64 (w / 4)) := by
 simpa using xShrG (K := K) (Q := Q) (k' := k') (s := 2) h0 (by decide)
theorem shl2 {K : Value → Prop} {Q : EqK} {k' : IntKind} {w : Int} (h0 : 0 ≤ w) (h1 : w * 4 < 18446744073709551616) : xF (fBin .shl Q) [.int .u64 w, .int k' 2] K = K (.int .u64 (w * 4)) := by
 simpa using xShlG (K := K) (Q := Q) (k' := k') (s := 2) h0 (by simpa using h1) (by decide)
theorem or2 {K : Value → Prop} {Q : EqK} {a c : Int} (h0 : 0 ≤ a) (h1 : a < 4) (h2 : 0 ≤ c) (h3 : a + c * 4 < 18446744073709551616) : xF (fBin .or Q) [.int .u64 a, .int .u64 (c * 4)] K = K (.int .u64 (a + c * 4)) := by
 simpa using xOrG (K := K) (Q := Q) (s := 2) h0 (by simpa using h1) h2 (by simpa using h3)
theorem shr3 {K : Value → Prop} {Q : EqK} {k' : IntKind} {w : Int} (h0 : 0 ≤ w) : xF (fBin .shr Q) [.int .u64 w, .int k' 3] K = K (.int .u64 (w / 8)) := by
 simpa using xShrG (K := K) (Q := Q) (k' := k') (s := 3) h0 (by decide)
theorem shl3 {K : Value → Prop} {Q : EqK} {k' : IntKind} {w : Int} (h0 : 0 ≤ w) (h1 : w * 8 < 18446744073709551616) : xF (fBin .shl Q) [.int .u64 w, .int k' 3] K = K (.int .u64 (w * 8)) := by
 simpa using xShlG (K := K) (Q := Q) (k' := k') (s := 3) h0 (by simpa using h1) (by decide)
theorem or3 {K : Value → Prop} {Q : EqK} {a c : Int} (h0 : 0 ≤ a) (h1 : a < 8) (h2 : 0 ≤ c) (h3 : a + c * 8 < 18446744073709551616) : xF (fBin .or Q) [.int .u64 a, .int .u64 (c * 8)] K = K (.int .u64 (a + c * 8)) := by
 simpa using xOrG (K := K) (Q := Q) (s := 3) h0 (by simpa using h1) h2 (by simpa using h3)
theorem shr8 {K : Value → Prop} {Q : EqK} {k' : IntKind} {w : Int} (h0 : 0 ≤ w) : xF (fBin .shr Q) [.int .u64 w, .int k' 8] K = K (.int .u64 (w / 256)) := by
 simpa using xShrG (K := K) (Q := Q) (k' := k') (s := 8) h0 (by decide)
theorem shl8 {K : Value → Prop} {Q : EqK} {k' : IntKind} {w : Int} (h0 : 0 ≤ w) (h1 : w * 256 < 18446744073709551616) : xF (fBin .shl Q) [.int .u64 w, .int k' 8] K = K (.int .u64 (w * 256)) := by
 simpa using xShlG (K := K) (Q := Q) (k' := k') (s := 8) h0 (by simpa using h1) (by decide)
theorem or8 {K : Value → Prop} {Q : EqK} {a c : Int} (h0 : 0 ≤ a) (h1 : a < 256) (h2 : 0 ≤ c) (h3 : a + c * 256 < 18446744073709551616) : xF (fBin .or Q) [.int .u64 a, .int .u64 (c * 256)] K = K (.int .u64 (a + c * 256)) := by
 simpa using xOrG (K := K) (Q := Q) (s := 8) h0 (by simpa using h1) h2 (by simpa using h3)
theorem shr16 {K : Value → Prop} {Q : EqK} {k' : IntKind} {w : Int} (h0 : 0 ≤ w) : xF (fBin .shr Q) [.int .u64 w, .int k' 16] K = K (.int .u64 (w / 65536)) := by
 simpa using xShrG (K := K) (Q := Q) (k' := k') (s := 16) h0 (by decide)
theorem shl16 {K : Value → Prop} {Q : EqK} {k' : IntKind} {w : Int} (h0 : 0 ≤ w) (h1 : w * 65536 < 18446744073709551616) : xF (fBin .shl Q) [.int .u64 w, .int k' 16] K = K (.int .u64 (w * 65536)) := by
 simpa using xShlG (K := K) (Q := Q) (k' := k') (s := 16) h0 (by simpa using h1) (by decide)
theorem or16 {K : Value → Prop} {Q : EqK} {a c : Int} (h0 : 0 ≤ a) (h1 : a < 65536) (h2 : 0 ≤ c) (h3 : a + c * 65536 < 18446744073709551616) : xF (fBin .or Q) [.int .u64 a, .int .u64 (c * 65536)] K = K (.int .u64 (a + c * 65536)) := by
 simpa using xOrG (K := K) (Q := Q) (s := 16) h0 (by simpa using h1) h2 (by simpa using h3)
theorem shr17 {K : Value → Prop} {Q : EqK} {k' : IntKind} {w : Int} (h0 : 0 ≤ w) : xF (fBin .shr Q) [.int .u64 w, .int k' 17] K = K (.int .u64 (w / 131072)) := by
 simpa using xShrG (K := K) (Q := Q) (k' := k') (s := 17) h0 (by decide)
theorem shl17 {K : Value → Prop} {Q : EqK} {k' : IntKind} {w : Int} (h0 : 0 ≤ w) (h1 : w * 131072 < 18446744073709551616) : xF (fBin .shl Q) [.int .u64 w, .int k' 17] K = K (.int .u64 (w * 131072)) := by
 simpa using xShlG (K := K) (Q := Q) (k' := k') (s := 17) h0 (by simpa using h1) (by decide)
theorem or17 {K : Value → Prop} {Q : EqK} {a c : Int} (h0 : 0 ≤ a) (h1 : a < 131072) (h2 : 0 ≤ c) (h3 : a + c * 131072 < 18446744073709551616) : xF (fBin .or Q) [.int .u64 a, .int .u64 (c * 131072)] K = K (.int .u64 (a + c * 131072)) := by
 simpa using xOrG (K := K) (Q := Q) (s := 17) h0 (by simpa using h1) h2 (by simpa using h3)
theorem shr18 {K : Value → Prop} {Q : EqK} {k' : IntKind} {w : Int} (h0 : 0 ≤ w) : xF (fBin .shr Q) [.int .u64 w, .int k' 18] K = K (.int .u64 (w / 262144)) := by
 simpa using xShrG (K := K) (Q := Q) (k' := k') (s := 18) h0 (by decide)
theorem shl18 {K : Value → Prop} {Q : EqK} {k' : IntKind} {w : Int} (h0 : 0 ≤ w) (h1 : w * 262144 < 18446744073709551616) : xF (fBin .shl Q) [.int .u64 w, .int k' 18] K = K (.int .u64 (w * 262144)) := by
 simpa using xShlG (K := K) (Q := Q) (k' := k') (s := 18) h0 (by simpa using h1) (by decide)
theorem or18 {K : Value → Prop} {Q : EqK} {a c : Int} (h0 : 0 ≤ a) (h1 : a < 262144) (h2 : 0 ≤ c) (h3 : a + c * 262144 < 18446744073709551616) : xF (fBin .or Q) [.int .u64 a, .int .u64 (c * 262144)] K = K (.int .u64 (a + c * 262144)) := by
 simpa using xOrG (K := K) (Q := Q) (s := 18) h0 (by simpa using h1) h2 (by simpa using h3)
theorem shr23 {K : Value → Prop} {Q : EqK} {k' : IntKind} {w : Int} (h0 : 0 ≤ w) : xF (fBin .shr Q) [.int .u64 w, .int k' 23] K = K (.int .u64 (w / 8388608)) := by
 simpa using xShrG (K := K) (Q := Q) (k' := k') (s := 23) h0 (by decide)
theorem shl23 {K : Value → Prop} {Q : EqK} {k' : IntKind} {w : Int} (h0 : 0 ≤ w) (h1 : w * 8388608 < 18446744073709551616) : xF (fBin .shl Q) [.int .u64 w, .int k' 23] K = K (.int .u64 (w * 8388608)) := by
 simpa using xShlG (K := K) (Q := Q) (k' := k') (s := 23) h0 (by simpa using h1) (by decide)
theorem or23 {K : Value → Prop} {Q : EqK} {a c : Int} (h0 : 0 ≤ a) (h1 : a < 8388608) (h2 : 0 ≤ c) (h3 : a + c * 8388608 < 18446744073709551616) : xF (fBin .or Q) [.int .u64 a, .int .u64 (c * 8388608)] K = K (.int .u64 (a + c * 8388608)) := by
 simpa using xOrG (K := K) (Q := Q) (s := 23) h0 (by simpa using h1) h2 (by simpa using h3)
theorem shr28 {K : Value → Prop} {Q : EqK} {k' : IntKind} {w : Int} (h0 : 0 ≤ w) : xF (fBin .shr Q) [.int .u64 w, .int k' 28] K = K (.int .u64 (w / 268435456)) := by
 simpa using xShrG (K := K) (Q := Q) (k' := k') (s := 28) h0 (by decide)
theorem shl28 {K : Value → Prop} {Q : EqK} {k' : IntKind} {w : Int} (h0 : 0 ≤ w) (h1 : w * 268435456 < 18446744073709551616) : xF (fBin .shl Q) [.int .u64 w, .int k' 28] K = K (.int .u64 (w * 268435456)) := by
 simpa using xShlG (K := K) (Q := Q) (k' := k') (s := 28) h0 (by simpa using h1) (by decide)
theorem or28 {K : Value → Prop} {Q : EqK} {a c : Int} (h0 : 0 ≤ a) (h1 : a < 268435456) (h2 : 0 ≤ c) (h3 : a + c * 268435456 < 18446744073709551616) : xF (fBin .or Q) [.int .u64 a, .int .u64 (c * 268435456)] K = K (.int .u64 (a + c * 268435456)) := by
 simpa using xOrG (K := K) (Q := Q) (s := 28) h0 (by simpa using h1) h2 (by simpa using h3)
theorem shr32 {K : Value → Prop} {Q : EqK} {k' : IntKind} {w : Int} (h0 : 0 ≤ w) : xF (fBin .shr Q) [.int .u64 w, .int k' 32] K = K (.int .u64 (w / 4294967296)) := by
 simpa using xShrG (K := K) (Q := Q) (k' := k') (s := 32) h0 (by decide)
theorem shr34 {K : Value → Prop} {Q : EqK} {k' : IntKind} {w : Int} (h0 : 0 ≤ w) : xF (fBin .shr Q) [.int .u64 w, .int k' 34] K = K (.int .u64 (w / 17179869184)) := by
 simpa using xShrG (K := K) (Q := Q) (k' := k') (s := 34) h0 (by decide)
theorem shl34 {K : Value → Prop} {Q : EqK} {k' : IntKind} {w : Int} (h0 : 0 ≤ w) (h1 : w * 17179869184 < 18446744073709551616) : xF (fBin .shl Q) [.int .u64 w, .int k' 34] K = K (.int .u64 (w * 17179869184)) := by
 simpa using xShlG (K := K) (Q := Q) (k' := k') (s := 34) h0 (by simpa using h1) (by decide)
theorem or34 {K : Value → Prop} {Q : EqK} {a c : Int} (h0 : 0 ≤ a) (h1 : a < 17179869184) (h2 : 0 ≤ c) (h3 : a + c * 17179869184 < 18446744073709551616) : xF (fBin .or Q) [.int .u64 a, .int .u64 (c * 17179869184)] K = K (.int .u64 (a + c * 17179869184)) := by
 simpa using xOrG (K := K) (Q := Q) (s := 34) h0 (by simpa using h1) h2 (by simpa using h3)
theorem shr39 {K : Value → Prop} {Q : EqK} {k' : IntKind} {w : Int} (h0 : 0 ≤ w) : xF (fBin .shr Q) [.int .u64 w, .int k' 39] K = K (.int .u64 (w / 549755813888)) := by
 simpa using xShrG (K := K) (Q := Q) (k' := k') (s := 39) h0 (by decide)
theorem shl39 {K : Value → Prop} {Q : EqK} {k' : IntKind} {w : Int} (h0 : 0 ≤ w) (h1 : w * 549755813888 < 18446744073709551616) : xF (fBin .shl Q) [.int .u64 w, .int k' 39] K = K (.int .u64 (w * 549755813888)) := by
 simpa using xShlG (K := K) (Q := Q) (k' := k') (s := 39) h0 (by simpa using h1) (by decide)
theorem or39 {K : Value → Prop} {Q : EqK} {a c : Int} (h0 : 0 ≤ a) (h1 : a < 549755813888) (h2 : 0 ≤ c) (h3 : a + c * 549755813888 < 18446744073709551616) : xF (fBin .or Q) [.int .u64 a, .int .u64 (c * 549755813888)] K = K (.int .u64 (a + c * 549755813888)) := by
 simpa using xOrG (K := K) (Q := Q) (s := 39) h0 (by simpa using h1) h2 (by simpa using h3)
theorem shr40 {K : Value → Prop} {Q : EqK} {k' : IntKind} {w : Int} (h0 : 0 ≤ w) : xF (fBin .shr Q) [.int .u64 w, .int k' 40] K = K (.int .u64 (w / 1099511627776)) := by
 simpa using xShrG (K := K) (Q := Q) (k' := k') (s := 40) h0 (by decide)
theorem shl40 {K : Value → Prop} {Q : EqK} {k' : IntKind} {w : Int} (h0 : 0 ≤ w) (h1 : w * 1099511627776 < 18446744073709551616) : xF (fBin .shl Q) [.int .u64 w, .int k' 40] K = K (.int .u64 (w * 1099511627776)) := by
 simpa using xShlG (K := K) (Q := Q) (k' := k') (s := 40) h0 (by simpa using h1) (by decide)
theorem or40 {K : Value → Prop} {Q : EqK} {a c : Int} (h0 : 0 ≤ a) (h1 : a < 1099511627776) (h2 : 0 ≤ c) (h3 : a + c * 1099511627776 < 18446744073709551616) : xF (fBin .or Q) [.int .u64 a, .int .u64 (c * 1099511627776)] K = K (.int .u64 (a + c * 1099511627776)) := by
 simpa using xOrG (K := K) (Q := Q) (s := 40) h0 (by simpa using h1) h2 (by simpa using h3)
theorem shr50 {K : Value → Prop} {Q : EqK} {k' : IntKind} {w : Int} (h0 : 0 ≤ w) : xF (fBin .shr Q) [.int .u64 w, .int k' 50] K = K (.int .u64 (w / 1125899906842624)) := by
 simpa using xShrG (K := K) (Q := Q) (k' := k') (s := 50) h0 (by decide)
theorem or50 {K : Value → Prop} {Q : EqK} {a c : Int} (h0 : 0 ≤ a) (h1 : a < 1125899906842624) (h2 : 0 ≤ c) (h3 : a + c * 1125899906842624 < 18446744073709551616) : xF (fBin .or Q) [.int .u64 a, .int .u64 (c * 1125899906842624)] K = K (.int .u64 (a + c * 1125899906842624)) := by
 simpa using xOrG (K := K) (Q := Q) (s := 50) h0 (by simpa using h1) h2 (by simpa using h3)
theorem shr63 {K : Value → Prop} {Q : EqK} {k' : IntKind} {w : Int} (h0 : 0 ≤ w) : xF (fBin .shr Q) [.int .u64 w, .int k' 63] K = K (.int .u64 (w / 9223372036854775808)) := by
 simpa using xShrG (K := K) (Q := Q) (k' := k') (s := 63) h0 (by decide)
def cl (n m : Int) : Int := min (max n 0) m
theorem cl_nn {n m : Int} (h : 0 ≤ m) : 0 ≤ cl n m := by unfold cl; omega
theorem cl_le {n m : Int} : cl n m ≤ m := by unfold cl; omega
theorem cl_in {n m : Int} (h0 : 0 ≤ n) (h1 : n ≤ m) : cl n m = n := by unfold cl; omega
theorem c_fit {n m : Int} (h0 : 0 ≤ m) (h1 : m < 18446744073709551616) : s_dl [.int .i64 n, .int .i64 m] K σ = K (.int .u64 (cl n m)) σ := by
 simp only [s_dl, w_dl, ruS, Nat.reduceAdd, reduceIte, Int.reduceLT, Int.reduceLE, Int.reduceEq, Int.reduceNeg, Int.reduceAdd, Int.reduceSub]
 rw [IntWalk.u64_in _ (by omega)]; rfl
def putTop (s c : Int) : Int := cl (min s 65535 + 1) 65536 + cl c 68719476735 * 131072
theorem putTop_in (s c : Int) : 0 ≤ putTop s c ∧ putTop s c < 18446744073709551616 := by unfold putTop cl; omega
theorem c_PutTop {s c : Int} (h : -9223372036854775808 ≤ s) : s_di [.int .i64 s, .int .i64 c] K σ = K (.int .u64 (putTop s c)) σ := by
 simp only [s_di, w_di, ruS, Nat.reduceAdd, reduceIte, Int.reduceLT, Int.reduceLE, Int.reduceEq, Int.reduceNeg, Int.reduceAdd, Int.reduceSub]
 have h1 := @cl_le (min s 65535 + 1) 65536
 have h2 := @cl_nn (min s 65535 + 1) 65536 (by decide)
 have h3 := @cl_le c 68719476735
 have h4 := @cl_nn c 68719476735 (by decide)
 rw [IntWalk.i64_in _ (by omega), c_fit (by decide) (by decide), c_fit (by decide) (by decide), shl17 h4 (by omega), or17 h2 (by omega) h4 (by omega)]
 rfl
def topS (w : Int) : Int := w % 131072 - 1
def topN (w : Int) : Int := w / 131072 % 68719476736
theorem c_Top {w : Int} (h0 : 0 ≤ w) (h1 : w < 18446744073709551616) : s_dk [.int .u64 w] K σ = K (.tuple #[.int .i64 (topS w), .int .i64 (topN w)]) σ := by
 simp only [s_dk, w_dk, ruS, Nat.reduceAdd, reduceIte, Int.reduceLT, Int.reduceLE, Int.reduceEq, Int.reduceNeg, Int.reduceAdd, Int.reduceSub]
 rw [and17 h0 h1]
 simp only [ruS, Nat.reduceAdd, reduceIte, Int.reduceLT, Int.reduceLE, Int.reduceEq, Int.reduceNeg, Int.reduceAdd, Int.reduceSub]
 rw [shr17 h0, and36 (by omega) (by omega)]
 simp only [ruS, Nat.reduceAdd, reduceIte, Int.reduceLT, Int.reduceLE, Int.reduceEq, Int.reduceNeg, Int.reduceAdd, Int.reduceSub]
 rw [IntWalk.i64_in (w % 131072) (by omega), IntWalk.i64_in (w % 131072 - 1) (by omega), IntWalk.i64_in (w / 131072 % 68719476736) (by omega)]
 rfl
def putSlot (st ad ge ve : Int) : Int := cl st 7 + cl ad 1048575 * 8 + cl ge 65535 * 8388608 + cl ve 4194303 * 549755813888
theorem putSlot_in (st ad ge ve : Int) : 0 ≤ putSlot st ad ge ve ∧ putSlot st ad ge ve < 18446744073709551616 := by unfold putSlot cl; omega
theorem c_PutSlot {st ad ge ve : Int} : s_dh [.agg #[.int .i64 st, .int .i64 ad, .int .i64 ge, .int .i64 ve]] K σ = K (.int .u64 (putSlot st ad ge ve)) σ := by
 simp only [s_dh, w_dh, ruS, ruL, ruX, Nat.reduceAdd, reduceIte, Int.reduceLT, Int.reduceLE, Int.reduceEq, Int.reduceNeg, Int.reduceAdd, Int.reduceSub, Nat.reduceLeDiff]
 have h1 := @cl_le st 7
 have h2 := @cl_nn st 7 (by decide)
 have h3 := @cl_le ad 1048575
 have h4 := @cl_nn ad 1048575 (by decide)
 have h5 := @cl_le ge 65535
 have h6 := @cl_nn ge 65535 (by decide)
 have h7 := @cl_le ve 4194303
 have h8 := @cl_nn ve 4194303 (by decide)
 rw [c_fit (by decide) (by decide), c_fit (by decide) (by decide), shl3 h4 (by omega), or3 h2 (by omega) h4 (by omega), c_fit (by decide) (by decide), shl23 h6 (by omega), or23 (by omega) (by omega) h6 (by omega),
  c_fit (by decide) (by decide), shl39 h8 (by omega), or39 (by omega) (by omega) h8 (by omega)]
 rfl
structure isA (N : Nm) (A : Ar) (σ : Mem) : Prop where
 m : σ.get N.m = some ⟨A.mc N, true⟩
 w : σ.get N.w = some A.wb
 t : σ.get N.t = some A.tb
def Ext (σ τ : Mem) : Prop := ∀ i b, σ.get i = some b → τ.get i = some b
def Keep (L : List Nat) (σ τ : Mem) : Prop := ∀ i b, σ.get i = some b → i ∉ L → τ.get i = some b
theorem Ext.refl : Ext σ σ := fun _ _ h => h
theorem Ext.trans {τ υ : Mem} (h : Ext σ τ) (k : Ext τ υ) : Ext σ υ := fun i b q => k i b (h i b q)
theorem Keep.refl {L : List Nat} : Keep L σ σ := fun _ _ h _ => h
theorem Keep.trans {L : List Nat} {τ υ : Mem} (h : Keep L σ τ) (k : Keep L τ υ) : Keep L σ υ := fun i b q n => k i b (h i b q n) n
theorem Keep.mono {L L' : List Nat} {τ : Mem} (h : Keep L σ τ) (hl : ∀ i ∈ L, i ∈ L') : Keep L' σ τ := fun i b q n => h i b q fun hi => n (hl i hi)
theorem Ext.keep {L : List Nat} {τ : Mem} (h : Ext σ τ) : Keep L σ τ := fun i b q _ => h i b q
theorem Ext.fresh {id : Nat} {b : Blk} (h : σ.get id = none) : Ext σ (σ.set id b) := by
 intro i c hi
 rw [Mem.get_set_ne _ _ (by rintro rfl; rw [h] at hi; cases hi)]
 exact hi
theorem isA_put (h : N.ok) : isA N A (putA N A σ) := ⟨putA_m, putA_w h, putA_t h⟩
theorem isA.eq (h : isA N A σ) : σ = putA N A σ := by
 unfold putA
 rw [Mem.set_self h.t, Mem.set_self h.w, Mem.set_self h.m]
theorem isA.ext {τ : Mem} (h : isA N A σ) (k : Ext σ τ) : isA N A τ := ⟨k _ _ h.m, k _ _ h.w, k _ _ h.t⟩
def Nm.l (N : Nm) : List Nat := [N.m, N.w, N.t]
theorem isA.keep {L : List Nat} {τ : Mem} (h : isA N A σ) (k : Keep L σ τ) (hd : N.m ∉ L ∧ N.w ∉ L ∧ N.t ∉ L) : isA N A τ := ⟨k _ _ h.m hd.1, k _ _ h.w hd.2.1, k _ _ h.t hd.2.2⟩
theorem Keep.put : Keep N.l σ (putA N A σ) := by
 intro i b hi hn
 simp only [Nm.l, List.mem_cons, List.not_mem_nil, or_false, not_or] at hn
 rw [putA_ne hn.1 hn.2.1 hn.2.2]; exact hi
theorem isA.fresh (h : isA N A σ) {id : Nat} (hid : σ.get id = none) : id ≠ N.m ∧ id ≠ N.w ∧ id ≠ N.t :=
 ⟨fun e => (by rw [e, h.m] at hid; cases hid), fun e => (by rw [e, h.w] at hid; cases hid), fun e => (by rw [e, h.t] at hid; cases hid)⟩
structure Cf.ok (c : Cf) : Prop where
 T : 1 ≤ c.T ∧ c.T ≤ 8
 S : 1 ≤ c.S ∧ c.S ≤ 65536
 C : 1 ≤ c.C ∧ c.C ≤ 64
 W : 17 ≤ c.W ∧ c.W ≤ 256
 G : 1 ≤ c.G ∧ c.G ≤ 65535
 P : 0 ≤ c.P ∧ c.P ≤ 1000
 R : 1 ≤ c.R ∧ c.R ≤ 16
def Cf.slot (c : Cf) (s : Int) : Int := 6 + c.T + 2 * s
def Cf.chunk (c : Cf) (k : Int) : Int := 6 + c.T + 2 * c.S + 3 * k
def Cf.base (c : Cf) (k : Int) : Int := 6 + c.T + 2 * c.S + 3 * c.C + c.W * k
def Cf.len (c : Cf) : Int := c.base c.C
theorem mulW {c : Cf} (h : c.ok) {k : Int} (h0 : 0 ≤ k) (h1 : k ≤ 1048576) : 0 ≤ c.W * k ∧ c.W * k ≤ 268435456 := by
 have hW := h.W
 refine ⟨Int.mul_nonneg (by omega) h0, ?_⟩
 calc c.W * k ≤ 256 * k := Int.mul_le_mul_of_nonneg_right hW.2 h0
  _ ≤ 268435456 := by omega
theorem c_Epoch : s_by [] K σ = K (.int .i64 0) σ := by simp only [s_by, w_by, ruS, Nat.reduceAdd, reduceIte, Int.reduceLT, Int.reduceLE, Int.reduceEq, Int.reduceNeg, Int.reduceAdd, Int.reduceSub]
theorem c_lTop : s_b6 [] K σ = K (.int .i64 1) σ := by simp only [s_b6, w_b6, ruS, Nat.reduceAdd, reduceIte, Int.reduceLT, Int.reduceLE, Int.reduceEq, Int.reduceNeg, Int.reduceAdd, Int.reduceSub]
theorem c_Open {k : Int} (h0 : 0 ≤ k) (h1 : k ≤ 65536) : s_b2 [.int .i64 k] K σ = K (.int .i64 (2 + k)) σ := by
 simp only [s_b2, w_b2, ruS, Nat.reduceAdd, reduceIte, Int.reduceLT, Int.reduceLE, Int.reduceEq, Int.reduceNeg, Int.reduceAdd, Int.reduceSub]
 rw [IntWalk.i64_in _ (by omega)]
theorem c_Pin {k : Int} (h0 : 0 ≤ k) (h1 : k ≤ 65536) : s_b3 [.int .i64 k] K σ = K (.int .i64 (6 + k)) σ := by
 simp only [s_b3, w_b3, ruS, Nat.reduceAdd, reduceIte, Int.reduceLT, Int.reduceLE, Int.reduceEq, Int.reduceNeg, Int.reduceAdd, Int.reduceSub]
 rw [IntWalk.i64_in _ (by omega)]
theorem c_Slot (h : C.ok) {s : Int} (h0 : 0 ≤ s) (h1 : s ≤ 65536) : s_b5 [C.v, .int .i64 s] K σ = K (.int .i64 (C.slot s)) σ := by
 have := h.T
 simp only [s_b5, w_b5, Cf.v, ruS, ruL, ruX, Nat.reduceAdd, reduceIte, Int.reduceLT, Int.reduceLE, Int.reduceEq, Int.reduceNeg, Int.reduceAdd, Int.reduceSub, Nat.reduceLeDiff]
 rw [IntWalk.i64_in (6 + C.T) (by omega), IntWalk.i64_in (2 * s) (by omega), IntWalk.i64_in _ (by omega)]; rfl
theorem c_Chunk (h : C.ok) {s : Int} (h0 : 0 ≤ s) (h1 : s ≤ 65536) : s_br [C.v, .int .i64 s] K σ = K (.int .i64 (C.chunk s)) σ := by
 have := h.T
 have := h.S
 simp only [s_br, w_br, Cf.v, ruS, ruL, ruX, Nat.reduceAdd, reduceIte, Int.reduceLT, Int.reduceLE, Int.reduceEq, Int.reduceNeg, Int.reduceAdd, Int.reduceSub, Nat.reduceLeDiff]
 rw [IntWalk.i64_in (6 + C.T) (by omega), IntWalk.i64_in (2 * C.S) (by omega), IntWalk.i64_in (3 * s) (by omega), IntWalk.i64_in (6 + C.T + 2 * C.S) (by omega), IntWalk.i64_in _ (by omega)]; rfl
theorem c_Base (h : C.ok) {s : Int} (h0 : 0 ≤ s) (h1 : s ≤ 65536) : s_bp [C.v, .int .i64 s] K σ = K (.int .i64 (C.base s)) σ := by
 have := h.T
 have := h.S
 have := h.C
 have := mulW h h0 (by omega)
 simp only [s_bp, w_bp, Cf.v, ruS, ruL, ruX, Nat.reduceAdd, reduceIte, Int.reduceLT, Int.reduceLE, Int.reduceEq, Int.reduceNeg, Int.reduceAdd, Int.reduceSub, Nat.reduceLeDiff]
 rw [IntWalk.i64_in (6 + C.T) (by omega), IntWalk.i64_in (2 * C.S) (by omega), IntWalk.i64_in (3 * C.C) (by omega), IntWalk.i64_in (6 + C.T + 2 * C.S) (by omega), IntWalk.i64_in (6 + C.T + 2 * C.S + 3 * C.C) (by omega), IntWalk.i64_in (C.W * s) (by omega), IntWalk.i64_in _ (by omega)]; rfl
theorem c_lLen (h : C.ok) : s_b0 [C.v] K σ = K (.int .i64 C.len) σ := by
 have := h.C
 have e := fun (K : Value → Mem → Prop) σ => c_Base (K := K) (σ := σ) h (s := C.C) (by omega) (by omega)
 simp only [s_b0, w_b0, Cf.v, ruS, ruL, ruX, Nat.reduceAdd, reduceIte, Int.reduceLT, Int.reduceLE, Int.reduceEq, Int.reduceNeg, Int.reduceAdd, Int.reduceSub, Nat.reduceLeDiff] at e ⊢
 rw [e]; rfl
section
variable {K : Value → Prop}
theorem shl2_0 : xF (fBin .shl .no) [.int .i64 2, .int .i64 0] K = K (.int .i64 2) := nr rfl
theorem shl2_1 : xF (fBin .shl .no) [.int .i64 2, .int .i64 1] K = K (.int .i64 4) := nr rfl
theorem shl2_2 : xF (fBin .shl .no) [.int .i64 2, .int .i64 2] K = K (.int .i64 8) := nr rfl
theorem shl2_3 : xF (fBin .shl .no) [.int .i64 2, .int .i64 3] K = K (.int .i64 16) := nr rfl
end
theorem i64_1 : IntKind.i64.wrap 1 = 1 := nr rfl
theorem i64_2 : IntKind.i64.wrap 2 = 2 := nr rfl
theorem i64_3 : IntKind.i64.wrap 3 = 3 := nr rfl
theorem i64_4 : IntKind.i64.wrap 4 = 4 := nr rfl
theorem i64_5 : IntKind.i64.wrap 5 = 5 := nr rfl
theorem i64_9 : IntKind.i64.wrap 9 = 9 := nr rfl
theorem i64_17 : IntKind.i64.wrap 17 = 17 := nr rfl
def classOf (n : Int) : Int := if n < 1 then -1 else if n ≤ 2 then 0 else if n ≤ 4 then 1 else if n ≤ 8 then 2 else if n ≤ 16 then 3 else -1
theorem c_Class {n : Int} (hk : K (.int .i64 (classOf n)) σ) : s_bs [.int .i64 n] K σ := by
 simp only [s_bs, w_bs, ruS, Nat.reduceAdd, reduceIte, Int.reduceLT, Int.reduceLE, Int.reduceEq, Int.reduceNeg, Int.reduceAdd, Int.reduceSub]
 by_cases h : 1 ≤ n
 ·unfold classOf at hk
  rw [if_neg (by omega)] at hk
  refine xLoop_fold ?_
  simp only [w_layout_Class_l3, w_layout_Class_l3b, w_bs_j2, w_bs_j2b, w_bs_j1, w_bs_j1b, ruS, Nat.reduceAdd, reduceIte, Int.reduceLT, Int.reduceLE, Int.reduceEq, Int.reduceNeg, Int.reduceAdd, Int.reduceSub, h, shl2_0, i64_1]
  by_cases h1 : n ≤ 2
  ·rw [if_pos h1] at hk ⊢; exact hk
  rw [if_neg h1] at hk ⊢
  refine xLoop_fold ?_
  simp only [w_layout_Class_l3, w_layout_Class_l3b, w_bs_j2, w_bs_j2b, w_bs_j1, w_bs_j1b, ruS, Nat.reduceAdd, reduceIte, Int.reduceLT, Int.reduceLE, Int.reduceEq, Int.reduceNeg, Int.reduceAdd, Int.reduceSub, h, shl2_1, i64_2]
  by_cases h1 : n ≤ 4
  ·rw [if_pos h1] at hk ⊢; exact hk
  rw [if_neg h1] at hk ⊢
  refine xLoop_fold ?_
  simp only [w_layout_Class_l3, w_layout_Class_l3b, w_bs_j2, w_bs_j2b, w_bs_j1, w_bs_j1b, ruS, Nat.reduceAdd, reduceIte, Int.reduceLT, Int.reduceLE, Int.reduceEq, Int.reduceNeg, Int.reduceAdd, Int.reduceSub, h, shl2_2, i64_3]
  by_cases h1 : n ≤ 8
  ·rw [if_pos h1] at hk ⊢; exact hk
  rw [if_neg h1] at hk ⊢
  refine xLoop_fold ?_
  simp only [w_layout_Class_l3, w_layout_Class_l3b, w_bs_j2, w_bs_j2b, w_bs_j1, w_bs_j1b, ruS, Nat.reduceAdd, reduceIte, Int.reduceLT, Int.reduceLE, Int.reduceEq, Int.reduceNeg, Int.reduceAdd, Int.reduceSub, h, shl2_3, i64_4]
  by_cases h1 : n ≤ 16
  ·rw [if_pos h1] at hk ⊢; exact hk
  rw [if_neg h1] at hk ⊢
  refine xLoop_fold ?_
  simp only [w_layout_Class_l3, w_layout_Class_l3b, w_bs_j2, w_bs_j2b, w_bs_j1, w_bs_j1b, ruS, Nat.reduceAdd, reduceIte, Int.reduceLT, Int.reduceLE, Int.reduceEq, Int.reduceNeg, Int.reduceAdd, Int.reduceSub]
  exact hk
 ·unfold classOf at hk
  rw [if_pos (by omega)] at hk
  refine xLoop_fold ?_
  simp only [w_layout_Class_l3, w_layout_Class_l3b, w_bs_j2, w_bs_j2b, w_bs_j1, w_bs_j1b, ruS, Nat.reduceAdd, reduceIte, Int.reduceLT, Int.reduceLE, Int.reduceEq, Int.reduceNeg, Int.reduceAdd, Int.reduceSub, h, i64_1]
  refine xLoop_fold ?_
  simp only [w_layout_Class_l3, w_layout_Class_l3b, w_bs_j2, w_bs_j2b, w_bs_j1, w_bs_j1b, ruS, Nat.reduceAdd, reduceIte, Int.reduceLT, Int.reduceLE, Int.reduceEq, Int.reduceNeg, Int.reduceAdd, Int.reduceSub, h, i64_2]
  refine xLoop_fold ?_
  simp only [w_layout_Class_l3, w_layout_Class_l3b, w_bs_j2, w_bs_j2b, w_bs_j1, w_bs_j1b, ruS, Nat.reduceAdd, reduceIte, Int.reduceLT, Int.reduceLE, Int.reduceEq, Int.reduceNeg, Int.reduceAdd, Int.reduceSub, h, i64_3]
  refine xLoop_fold ?_
  simp only [w_layout_Class_l3, w_layout_Class_l3b, w_bs_j2, w_bs_j2b, w_bs_j1, w_bs_j1b, ruS, Nat.reduceAdd, reduceIte, Int.reduceLT, Int.reduceLE, Int.reduceEq, Int.reduceNeg, Int.reduceAdd, Int.reduceSub, h, i64_4]
  refine xLoop_fold ?_
  simp only [w_layout_Class_l3, w_layout_Class_l3b, w_bs_j2, w_bs_j2b, w_bs_j1, w_bs_j1b, ruS, Nat.reduceAdd, reduceIte, Int.reduceLT, Int.reduceLE, Int.reduceEq, Int.reduceNeg, Int.reduceAdd, Int.reduceSub]
  exact hk
def roomOf (k : Int) : Int := if k = 0 then 3 else if k = 1 then 5 else if k = 2 then 9 else 17
theorem c_Room {k : Int} (h0 : 0 ≤ k) (h1 : k ≤ 3) : s_b4 [.int .i64 k] K σ = K (.int .i64 (roomOf k)) σ := by
 simp only [s_b4, w_b4, ruS, Nat.reduceAdd, reduceIte, Int.reduceLT, Int.reduceLE, Int.reduceEq, Int.reduceNeg, Int.reduceAdd, Int.reduceSub]
 rcases (show k = 0 ∨ k = 1 ∨ k = 2 ∨ k = 3 by omega) with rfl | rfl | rfl | rfl <;>
  simp only [shl2_0, shl2_1, shl2_2, shl2_3, ruS, Nat.reduceAdd, reduceIte, Int.reduceLT, Int.reduceLE, Int.reduceEq, Int.reduceNeg, Int.reduceAdd, Int.reduceSub, i64_3, i64_5, i64_9, i64_17] <;> rfl
end Go.Fl
namespace Go.Fl
open Go
set_option linter.unusedVariables false
set_option linter.unusedSimpArgs false
variable {N : Nm} {A B : Ar} {σ : Mem} {K : Value → Mem → Prop} {C : Cf} {who : Int}
def Cf.okB (c : Cf) : Bool :=
 (decide (1 ≤ c.T) && decide (c.T ≤ 8) && decide (1 ≤ c.S) && decide (c.S ≤ 65536)) && (decide (1 ≤ c.C) && decide (c.C ≤ 64) && decide (17 ≤ c.W) && decide (c.W ≤ 256)) &&
 (decide (1 ≤ c.G) && decide (c.G ≤ 65535) && decide (0 ≤ c.P) && decide (c.P ≤ 1000) && decide (1 ≤ c.R) && decide (c.R ≤ 16))
theorem Cf.okB_iff {c : Cf} : c.okB = true ↔ c.ok := by
 simp only [Cf.okB, Bool.and_eq_true, decide_eq_true_eq]
 constructor
 ·rintro ⟨⟨⟨⟨⟨a, b⟩, d⟩, e⟩, ⟨⟨f, g⟩, h⟩, i⟩, ⟨⟨⟨⟨j, k⟩, l⟩, m⟩, n⟩, o⟩
  exact ⟨⟨a, b⟩, ⟨d, e⟩, ⟨f, g⟩, ⟨h, i⟩, ⟨j, k⟩, ⟨l, m⟩, ⟨n, o⟩⟩
 ·rintro ⟨⟨a, b⟩, ⟨d, e⟩, ⟨f, g⟩, ⟨h, i⟩, ⟨j, k⟩, ⟨l, m⟩, ⟨n, o⟩⟩
  exact ⟨⟨⟨⟨⟨a, b⟩, d⟩, e⟩, ⟨⟨f, g⟩, h⟩, i⟩, ⟨⟨⟨⟨j, k⟩, l⟩, m⟩, n⟩, o⟩
theorem check_j3 {x y z : Bool} : w_bq_j3b K (.bool x) (.bool y) (.bool z) σ = K (.bool (x && y && z)) σ := by
 simp only [w_bq_j3b, ruS, ruL, ruX, Nat.reduceAdd, reduceIte, Int.reduceLT, Int.reduceLE, Int.reduceEq, Int.reduceNeg, Int.reduceAdd, Int.reduceSub, Nat.reduceLeDiff]
 cases x <;> cases y <;> cases z <;> simp only [ruS, ruL, ruX, Nat.reduceAdd, reduceIte, Int.reduceLT, Int.reduceLE, Int.reduceEq, Int.reduceNeg, Int.reduceAdd, Int.reduceSub, Nat.reduceLeDiff, Bool.and_true, Bool.and_false, Bool.false_and, Bool.true_and]
theorem check_j2 {x y : Bool} : w_bq_j2b K (.bool x) (.bool y) C.l σ = K (.bool (x && y && (decide (1 ≤ C.G) && decide (C.G ≤ 65535) && decide (0 ≤ C.P) && decide (C.P ≤ 1000) && decide (1 ≤ C.R) && decide (C.R ≤ 16)))) σ := by
 simp only [w_bq_j2b, w_bq_j3, Cf.l, ruS, ruL, ruX, Nat.reduceAdd, reduceIte, Int.reduceLT, Int.reduceLE, Int.reduceEq, Int.reduceNeg, Int.reduceAdd, Int.reduceSub, Nat.reduceLeDiff, check_j3]
 by_cases h1 : 1 ≤ C.G <;> by_cases h2 : C.G ≤ 65535 <;> by_cases h3 : 0 ≤ C.P <;> by_cases h4 : C.P ≤ 1000 <;> by_cases h5 : 1 ≤ C.R <;>
  simp only [h1, h2, h3, h4, h5, ruS, ruL, ruX, Nat.reduceAdd, reduceIte, Int.reduceLT, Int.reduceLE, Int.reduceEq, Int.reduceNeg, Int.reduceAdd, Int.reduceSub, Nat.reduceLeDiff, check_j3, Bool.and_true, Bool.and_false, Bool.false_and, Bool.true_and]
theorem c_Check : s_bq [C.v] K σ = K (.bool C.okB) σ := by
 have j1 : ∀ {x : Bool}, w_bq_j1b K (.bool x) C.l σ = K (.bool (x && (decide (1 ≤ C.C) && decide (C.C ≤ 64) && decide (17 ≤ C.W) && decide (C.W ≤ 256)) && (decide (1 ≤ C.G) && decide (C.G ≤ 65535) && decide (0 ≤ C.P) && decide (C.P ≤ 1000) && decide (1 ≤ C.R) && decide (C.R ≤ 16)))) σ := by
  intro x
  have e := @check_j2 σ K C
  simp only [Cf.l] at e
  simp only [w_bq_j1b, w_bq_j2, Cf.l, ruS, ruL, ruX, Nat.reduceAdd, reduceIte, Int.reduceLT, Int.reduceLE, Int.reduceEq, Int.reduceNeg, Int.reduceAdd, Int.reduceSub, Nat.reduceLeDiff]
  by_cases h1 : 1 ≤ C.C <;> by_cases h2 : C.C ≤ 64 <;> by_cases h3 : 17 ≤ C.W <;>
   simp only [h1, h2, h3, ruS, ruL, ruX, Nat.reduceAdd, reduceIte, Int.reduceLT, Int.reduceLE, Int.reduceEq, Int.reduceNeg, Int.reduceAdd, Int.reduceSub, Nat.reduceLeDiff, e, Bool.and_true, Bool.and_false, Bool.false_and, Bool.true_and]
 simp only [Cf.l] at j1
 simp only [s_bq, w_bq, w_bq_j1, Cf.v, ruS, ruL, ruX, Nat.reduceAdd, reduceIte, Int.reduceLT, Int.reduceLE, Int.reduceEq, Int.reduceNeg, Int.reduceAdd, Int.reduceSub, Nat.reduceLeDiff]
 unfold Cf.okB
 by_cases h1 : 1 ≤ C.T <;> by_cases h2 : C.T ≤ 8 <;> by_cases h3 : 1 ≤ C.S <;>
  simp only [h1, h2, h3, ruS, ruL, ruX, Nat.reduceAdd, reduceIte, Int.reduceLT, Int.reduceLE, Int.reduceEq, Int.reduceNeg, Int.reduceAdd, Int.reduceSub, Nat.reduceLeDiff, j1, Bool.and_true, Bool.and_false, Bool.false_and, Bool.true_and]
theorem hMakeS_eq {es by' : Nat} {z : List Value} {n : Int} {K : Value → Mem → Prop} {σ : Mem} (h0 : 0 ≤ n) (h1 : n ≤ 1073741824) (hb : by' ≤ 1024) :
  hMakeS es by' z [.int .i64 n, .int .i64 n] K σ = newB (List.replicate n.toNat z).flatten (fun id => .slice (some ⟨id, 0, none⟩) n.toNat es) K σ := by
 simp only [hMakeS]
 rw [if_pos ⟨trivial, h0, h1, hb⟩]
theorem hBox_a {cs : List Value} {sz : Nat} {K : Value → Mem → Prop} {σ : Mem} (h : cs.length = sz) :
  hBox sz [.agg cs.toArray] K σ = newB cs (fun id => .pointer (some ⟨id, 0, none⟩)) K σ := by
 subst h
 have : cellsOf (.agg cs.toArray) cs.length = some cs := by simp [cellsOf]
 simp only [hBox, this]
def Ar.new (n : Nat) : Ar := ⟨n, fun _ => 0, fun _ => 0, 0, 0, 0, 0, false⟩
structure Nm.fr (N : Nm) (σ : Mem) : Prop where
 m : σ.get N.m = none
 w : σ.get N.w = none
 t : σ.get N.t = none
theorem xBuildMem {a b : Value} {K : Value → Prop} (ha : cellsOf a 1 = some [a]) (hb : cellsOf b 1 = some [b]) :
  xF (fBuild [(0, 1), (1, 1), (2, 1), (3, 1), (4, 3)] [.slice none 0 0, .slice none 0 0, .int .i64 0, .int .i64 0, .int .i64 0, .int .i64 0, .bool false] [0, 1]) [a, b] K =
   K (.agg #[a, b, .int .i64 0, .int .i64 0, .int .i64 0, .int .i64 0, .bool false]) := by
 simp [xF, fBuild, fillL, ha, hb, lay]
theorem c_New {n : Int} (h0 : 1 ≤ n) (h1 : n ≤ 1048576) (hk : ∀ N τ, N.ok → isA N (.new n.toNat) τ → Ext σ τ → N.fr σ → K (.tuple #[N.p, .int .i64 0]) τ) : s_cj [.int .i64 n] K σ := by
 simp only [s_cj, w_cj, w_cj_j1, w_cj_j1b, ruS, Nat.reduceAdd, reduceIte, Int.reduceLT, Int.reduceLE, Int.reduceEq, Int.reduceNeg, Int.reduceAdd, Int.reduceSub]
 rw [if_neg (by omega), if_neg (by omega)]
 rw [hMakeS_eq (by omega) (by omega) (by decide)]
 intro w hw
 rw [hMakeS_eq (by omega) (by omega) (by decide)]
 intro t ht
 rw [xBuildMem rfl rfl]
 refine (hBox_a (cs := [_, _, _, _, _, _, _]) rfl).mpr ?_
 intro m hm
 simp only [ruS, Nat.reduceAdd, reduceIte, Int.reduceLT, Int.reduceLE, Int.reduceEq, Int.reduceNeg, Int.reduceAdd, Int.reduceSub]
 have hwt : w ≠ t := by rintro rfl; simp at ht
 have hmt : m ≠ t := by rintro rfl; simp at hm
 have hmw : m ≠ w := by
  rintro rfl
  rw [Mem.get_set_ne _ _ hwt, Mem.get_set_same] at hm; cases hm
 refine hk ⟨m, w, t⟩ _ ⟨hmw, hmt, hwt⟩ ⟨?_, ?_, ?_⟩ ?_ ⟨?_, hw, ?_⟩
 ·rw [Mem.get_set_same]; rfl
 ·rw [Mem.get_set_ne _ _ hmw.symm, Mem.get_set_ne _ _ hwt, Mem.get_set_same, cells_repl]; rfl
 ·rw [Mem.get_set_ne _ _ hmt.symm, Mem.get_set_same, cells_repl]; rfl
 ·exact ((Ext.fresh hw).trans (Ext.fresh ht)).trans (Ext.fresh hm)
 ·rw [Mem.get_set_ne _ _ hmt, Mem.get_set_ne _ _ hmw] at hm; exact hm
 ·rw [Mem.get_set_ne _ _ hwt.symm] at ht; exact ht
def Nm.el (N : Nm) (c : Cf) (who : Int) : List Value := [.int .i64 c.T, .int .i64 c.S, .int .i64 c.C, .int .i64 c.W, .int .i64 c.G, .int .i64 c.P, .int .i64 c.R, N.p, .int .i64 who]
section
variable {c : Cf} {l : List Value}
theorem gBoxC : gBox 7 [c.v] l = some c.l := nr rfl
theorem subC : sub c.l 0 7 true = some c.v := nr rfl
theorem subC0 : sub c.l 0 1 false = some (.int .i64 c.T) := nr rfl
theorem subC1 : sub c.l 1 1 false = some (.int .i64 c.S) := nr rfl
theorem subC2 : sub c.l 2 1 false = some (.int .i64 c.C) := nr rfl
theorem subC3 : sub c.l 3 1 false = some (.int .i64 c.W) := nr rfl
theorem subC4 : sub c.l 4 1 false = some (.int .i64 c.G) := nr rfl
theorem subC5 : sub c.l 5 1 false = some (.int .i64 c.P) := nr rfl
theorem subC6 : sub c.l 6 1 false = some (.int .i64 c.R) := nr rfl
theorem gBoxE : gBox 9 [N.env c who] l = some (N.el c who) := nr rfl
theorem subE : sub (N.el c who) 0 9 true = some (N.env c who) := nr rfl
theorem subEC : sub (N.el c who) 0 7 true = some c.v := nr rfl
theorem subE0 : sub (N.el c who) 0 1 false = some (.int .i64 c.T) := nr rfl
theorem subE1 : sub (N.el c who) 1 1 false = some (.int .i64 c.S) := nr rfl
theorem subE2 : sub (N.el c who) 2 1 false = some (.int .i64 c.C) := nr rfl
theorem subE3 : sub (N.el c who) 3 1 false = some (.int .i64 c.W) := nr rfl
theorem subE4 : sub (N.el c who) 4 1 false = some (.int .i64 c.G) := nr rfl
theorem subE6 : sub (N.el c who) 6 1 false = some (.int .i64 c.R) := nr rfl
theorem subE7 : sub (N.el c who) 7 1 false = some N.p := nr rfl
theorem subE8 : sub (N.el c who) 8 1 false = some (.int .i64 who) := nr rfl
end
section
variable {a o v d : Int}
@[simp] theorem by_n : (A.by who).n = A.n := rfl
@[simp] theorem by_w : (A.by who).w = A.w := rfl
@[simp] theorem by_t : (A.by who).t = A.t := rfl
@[simp] theorem by_s : (A.by who).s = A.s := rfl
@[simp] theorem load_n : (A.load a).n = A.n := rfl
@[simp] theorem load_w : (A.load a).w = A.w := rfl
@[simp] theorem load_t : (A.load a).t = A.t := rfl
@[simp] theorem load_s : (A.load a).s = IntKind.i64.wrap (A.s + 1) := rfl
@[simp] theorem load_la : (A.load a).la = a := rfl
@[simp] theorem load_lc : (A.load a).lc = false := rfl
@[simp] theorem store_n : (A.store a v).n = A.n := rfl
@[simp] theorem store_w : (A.store a v).w = upd A.w a v := rfl
@[simp] theorem store_s : (A.store a v).s = IntKind.i64.wrap (A.s + 1) := rfl
@[simp] theorem store_la : (A.store a v).la = a := rfl
@[simp] theorem store_lc : (A.store a v).lc = decide (A.w a ≠ v) := rfl
theorem store_t : (A.store a v).t = if A.w a ≠ v then upd A.t a (IntKind.i64.wrap (A.s + 1)) else A.t := rfl
@[simp] theorem cas_n : (A.cas a o v).n = A.n := by unfold Ar.cas; split <;> rfl
@[simp] theorem cas_s : (A.cas a o v).s = IntKind.i64.wrap (A.s + 1) := by unfold Ar.cas; split <;> rfl
@[simp] theorem cas_la : (A.cas a o v).la = a := by unfold Ar.cas; split <;> rfl
theorem cas_no (h : A.w a ≠ o) : A.cas a o v = A.load a := by unfold Ar.cas; rw [if_neg h]; rfl
theorem cas_yes (h : A.w a = o) : A.cas a o v = A.store a v := by unfold Ar.cas; rw [if_pos h]; rfl
theorem add_eq : A.add a d = A.store a (IntKind.u64.wrap (A.w a + d)) := rfl
end
structure Ar.ok (A : Ar) (b : Int) : Prop where
 w : ∀ i, 0 ≤ A.w i ∧ A.w i < 18446744073709551616
 s : 0 ≤ A.s ∧ A.s ≤ b
 t : ∀ i, 0 ≤ A.t i ∧ A.t i ≤ A.s
theorem Ar.ok.s1 {b : Int} (h : A.ok b) (hb : b < 9223372036854775807) : IntKind.i64.wrap (A.s + 1) = A.s + 1 := IntWalk.i64_in _ (by have := h.s; omega)
theorem Ar.ok.by {b : Int} (h : A.ok b) : (A.by who).ok b := ⟨h.w, h.s, h.t⟩
theorem Ar.ok.load {b a : Int} (h : A.ok b) (hb : b < 9223372036854775807) : (A.load a).ok (b + 1) := by
 refine ⟨h.w, ?_, fun i => ?_⟩
 ·rw [load_s, h.s1 hb]; have := h.s; omega
 ·rw [load_s, h.s1 hb, load_t]; have := h.t i; omega
theorem upd_cases {f : Int → Int} {a v i : Int} {P : Int → Prop} (h1 : P v) (h2 : P (f i)) : P (upd f a v i) := by unfold upd; split <;> assumption
theorem Ar.ok.store {b a v : Int} (h : A.ok b) (hb : b < 9223372036854775807) (hv : 0 ≤ v ∧ v < 18446744073709551616) : (A.store a v).ok (b + 1) := by
 refine ⟨fun i => upd_cases (P := fun x => 0 ≤ x ∧ x < 18446744073709551616) hv (h.w i), ?_, fun i => ?_⟩
 ·rw [store_s, h.s1 hb]; have := h.s; omega
 ·rw [store_s, h.s1 hb, store_t]
  have := h.t i
  have := h.s
  split
  ·rw [h.s1 hb]; exact upd_cases (P := fun x => 0 ≤ x ∧ x ≤ A.s + 1) (by omega) (by omega)
  ·omega
theorem Ar.ok.cas {b a o v : Int} (h : A.ok b) (hb : b < 9223372036854775807) (hv : 0 ≤ v ∧ v < 18446744073709551616) : (A.cas a o v).ok (b + 1) := by
 by_cases hc : A.w a = o
 ·rw [cas_yes hc]; exact h.store hb hv
 ·rw [cas_no hc]; exact h.load hb
theorem wrap_in (n : Int) : 0 ≤ IntKind.u64.wrap n ∧ IntKind.u64.wrap n < 18446744073709551616 := by rw [IntKind.wrap_u64]; omega
theorem Ar.ok.add {b a d : Int} (h : A.ok b) (hb : b < 9223372036854775807) : (A.add a d).ok (b + 1) := h.store hb (wrap_in _)
def Cf.fr (c : Cf) (i : Int) (a : Int) : Int :=
 if c.slot 0 ≤ a ∧ a < c.slot i then (if (a - c.slot 0) % 2 = 0 then putSlot 0 0 1 0 else putTop ((a - c.slot 0) / 2 + 1) 0) else 0
def Cf.w0 (c : Cf) (a : Int) : Int := if a = 1 then putTop 0 0 else if a = c.slot (c.S - 1) + 1 then putTop (-1) 0 else c.fr c.S a
structure FrI (N : Nm) (C : Cf) (σ0 : Mem) (i : Int) (A : Ar) (σ : Mem) : Prop where
 i0 : 0 ≤ i
 i1 : i ≤ C.S
 n : A.n = C.len.toNat
 w : A.w = C.fr i
 s : A.s = 2 * i
 who : A.who = 0
 ok : A.ok (2 * i)
 isA : isA N A σ
 ext : Ext σ0 σ
 fr : N.fr σ0
theorem Ext.put {σ0 : Mem} (h : Ext σ0 σ) (f : N.fr σ0) : Ext σ0 (putA N A σ) := by
 intro i b hi
 rw [putA_ne (fun e => by rw [e, f.m] at hi; cases hi) (fun e => by rw [e, f.w] at hi; cases hi) (fun e => by rw [e, f.t] at hi; cases hi)]
 exact h i b hi
theorem len_eq : C.len = 6 + C.T + 2 * C.S + 3 * C.C + C.W * C.C := rfl
theorem len_bd (h : C.ok) : C.chunk C.C + 17 ≤ C.len ∧ C.len ≤ 200000 := by
 have hW := h.W
 have hC := h.C
 have hS := h.S
 have hT := h.T
 have h1 : 17 * 1 ≤ C.W * C.C := Int.mul_le_mul hW.1 hC.1 (by omega) (by omega)
 have h2 : C.W * C.C ≤ 256 * 64 := Int.mul_le_mul hW.2 hC.2 (by omega) (by omega)
 rw [len_eq]; unfold Cf.chunk
 omega
theorem xBuildSlotG {K : Value → Prop} {g : Int} : xF (fBuild [(0, 1), (1, 1), (2, 1), (3, 1)] [.int .i64 0, .int .i64 0, .int .i64 0, .int .i64 0] [2]) [.int .i64 g] K = K (.agg #[.int .i64 0, .int .i64 0, .int .i64 g, .int .i64 0]) := nr rfl
theorem c_Fresh_round (hC : C.ok) (hN : N.ok) {σ0 : Mem} {J1 R1 : List Value → List (List Value) → Mem → Prop} {i : Int} (h : FrI N C σ0 i A σ)
  (hj : i = C.S → J1 [N.p] [C.l] σ) (hr : i < C.S → ∀ A' τ, FrI N C σ0 (i + 1) A' τ → R1 [N.p, .int .i64 C.S, .int .i64 (i + 1)] [C.l] τ) :
  w_layout_Fresh_l8 K J1 R1 [N.p, .int .i64 C.S, .int .i64 i] [C.l] σ := by
 have hS := hC.S
 have hT := hC.T
 have hl := len_bd hC
 simp only [w_layout_Fresh_l8, w_layout_Fresh_l8b, ruS, Nat.reduceAdd, reduceIte, Int.reduceLT, Int.reduceLE, Int.reduceEq, Int.reduceNeg, Int.reduceAdd, Int.reduceSub, locP_e, gLoad_s, subC]
 by_cases hi : i < C.S
 ·simp only [hi, ruS, Nat.reduceAdd, reduceIte, Int.reduceLT, Int.reduceLE, Int.reduceEq, Int.reduceNeg, Int.reduceAdd, Int.reduceSub]
  have hn : C.slot i + 1 < A.n := by rw [h.n]; unfold Cf.slot; unfold Cf.chunk at hl; have := hC.C; omega
  have hs0 : 0 ≤ C.slot i := by unfold Cf.slot; have := h.i0; omega
  have i0 := h.i0
  rw [c_Slot hC h.i0 (by omega)]
  rw [xBuildSlotG, c_PutSlot, h.isA.eq, c_mStore hN hs0 (by omega), c_Slot hC h.i0 (by omega)]
  simp only [xAdd]
  rw [IntWalk.i64_in (i + 1) (by omega), c_PutTop (by omega), IntWalk.i64_in (C.slot i + 1) (by unfold Cf.slot; omega), c_mStore hN (by omega) (by rw [store_n]; omega)]
  have ok1 := h.ok.store (a := C.slot i) (by omega) (putSlot_in 0 0 1 0)
  have ok2 := ok1.store (a := C.slot i + 1) (by omega) (putTop_in (i + 1) 0)
  have s1 := h.ok.s1 (by omega)
  have s2 := ok1.s1 (by omega)
  refine hr hi ((A.store (C.slot i) (putSlot 0 0 1 0)).store (C.slot i + 1) (putTop (i + 1) 0)) _ ⟨by omega, by omega, h.n, ?_, ?_, h.who, ?_, isA_put hN, h.ext.put h.fr, h.fr⟩
  ·funext a
   rw [store_w, store_w, h.w]
   unfold upd Cf.fr Cf.slot
   have := hC.C
   by_cases e1 : a = 6 + C.T + 2 * i + 1
   ·subst e1
    rw [if_pos rfl, if_pos (by omega), if_neg (by omega)]
    congr 1; omega
   ·rw [if_neg e1]
    by_cases e2 : a = 6 + C.T + 2 * i
    ·subst e2
     rw [if_pos rfl, if_pos (by omega), if_pos (by omega)]
    ·rw [if_neg e2]
     by_cases e3 : 6 + C.T + 2 * 0 ≤ a ∧ a < 6 + C.T + 2 * i
     ·rw [if_pos e3, if_pos (show 6 + C.T + 2 * 0 ≤ a ∧ a < 6 + C.T + 2 * (i + 1) by omega)]
     ·rw [if_neg e3, if_neg (show ¬ (6 + C.T + 2 * 0 ≤ a ∧ a < 6 + C.T + 2 * (i + 1)) by omega)]
  ·rw [store_s, s2, store_s, s1, h.s]; omega
  ·rw [show 2 * (i + 1) = 2 * i + 1 + 1 by omega]; exact ok2
 ·rw [if_neg hi]
  exact hj (by have := h.i1; omega)
structure Frsh (N : Nm) (C : Cf) (A : Ar) : Prop where
 ok : A.ok (2 * C.S + 2)
 n : A.n = C.len.toNat
 w : A.w = C.w0
 s : A.s = 2 * C.S + 2
 who : A.who = 0
 la : A.la = 1
theorem Ar.new_ok {n : Nat} : (Ar.new n).ok (2 * 0) := ⟨fun _ => ⟨Int.le_refl 0, (by decide : (0 : Int) < 18446744073709551616)⟩, ⟨Int.le_refl 0, Int.le_refl 0⟩, fun _ => ⟨Int.le_refl 0, Int.le_refl 0⟩⟩
theorem c_Fresh (hC : C.ok) (hk : ∀ N A τ, N.ok → Frsh N C A → isA N A τ → Ext σ τ → N.fr σ → K (.tuple #[N.p, .int .i64 0]) τ) : s_bz [C.v] K σ := by
 have hl := len_bd hC
 have hS := hC.S
 have hT := hC.T
 have hCC := hC.C
 have hch : C.chunk C.C = 6 + C.T + 2 * C.S + 3 * C.C := rfl
 have hok : C.okB = true := Cf.okB_iff.2 hC
 simp only [s_bz, w_bz, ruS, Nat.reduceAdd, reduceIte, Int.reduceLT, Int.reduceLE, Int.reduceEq, Int.reduceNeg, Int.reduceAdd, Int.reduceSub, locP_e, gBoxC, gLoad_s, subC, subC1, c_Check, hok, c_lLen hC]
 refine c_New (by omega) (by omega) fun N τ hN hA hE hf => ?_
 simp only [ruS, Nat.reduceAdd, reduceIte, Int.reduceLT, Int.reduceLE, Int.reduceEq, Int.reduceNeg, Int.reduceAdd, Int.reduceSub]
 refine xLoop_inv (fun k ts ls τ => ∃ i A, k = (C.S - i).toNat ∧ ts = [N.p, .int .i64 C.S, .int .i64 i] ∧ ls = [C.l] ∧ FrI N C σ i A τ) ?_ (n := (C.S - 0).toNat)
  ⟨0, _, rfl, rfl, rfl, ⟨by omega, by omega, rfl, ?_, rfl, rfl, Ar.new_ok, hA, hE, hf⟩⟩
 ·rintro k ts ls τ ⟨i, A, rfl, rfl, rfl, h⟩
  refine c_Fresh_round hC hN h (fun e => ?_) fun hi A' τ' h' => ⟨_, by have := h.i0; omega, i + 1, A', rfl, rfl, rfl, h'⟩
  subst e
  simp only [w_bz_j1, w_bz_j1b, ruS, Nat.reduceAdd, reduceIte, Int.reduceLT, Int.reduceLE, Int.reduceEq, Int.reduceNeg, Int.reduceAdd, Int.reduceSub, locP_e, gLoad_s, subC, subC1]
  have n2 : C.slot (C.S - 1) + 1 < A.n := by rw [h.n]; unfold Cf.slot; omega
  have hs0 : 0 ≤ C.slot (C.S - 1) := by unfold Cf.slot; omega
  rw [IntWalk.i64_in (C.S - 1) (by omega), c_Slot hC (by omega) (by omega)]
  simp only [xAdd]
  rw [IntWalk.i64_in (C.slot (C.S - 1) + 1) (by unfold Cf.slot; omega), c_PutTop (by omega), h.isA.eq, c_mStore hN (by omega) n2, c_lTop, c_PutTop (by omega), c_mStore hN (by omega) (by rw [store_n]; omega)]
  have ok1 := h.ok.store (a := C.slot (C.S - 1) + 1) (by omega) (putTop_in (-1) 0)
  have ok2 := ok1.store (a := 1) (by omega) (putTop_in 0 0)
  have s1 := h.ok.s1 (by omega)
  have s2 := ok1.s1 (by omega)
  refine hk N ((A.store (C.slot (C.S - 1) + 1) (putTop (-1) 0)).store 1 (putTop 0 0)) _ hN ⟨by rw [show 2 * C.S + 2 = 2 * C.S + 1 + 1 by omega]; exact ok2, h.n, ?_, ?_, h.who, rfl⟩ (isA_put hN) (h.ext.put h.fr) h.fr
  ·rw [store_w, store_w, h.w]; rfl
  ·rw [store_s, s2, store_s, s1, h.s]; omega
 ·funext a
  unfold Cf.fr
  rw [if_neg (by omega)]; rfl
theorem c_Arena (hC : C.ok) (hG : C.G = 100) (hP : C.P = 600) (hR : C.R = 3) (hk : ∀ N A τ, N.ok → Frsh N C A → isA N A τ → Ext σ τ → N.fr σ → K (.tuple #[N.env C 0, .bool true]) τ) :
  s_ba [.int .i64 C.T, .int .i64 C.S, .int .i64 C.C, .int .i64 C.W] K σ := by
 simp only [s_ba, w_ba, ruS, Nat.reduceAdd, reduceIte, Int.reduceLT, Int.reduceLE, Int.reduceEq, Int.reduceNeg, Int.reduceAdd, Int.reduceSub]
 have b1 : ∀ K : Value → Prop, xF (fBuild [(0, 1), (1, 1), (2, 1), (3, 1), (4, 1), (5, 1), (6, 1)] [.int .i64 0, .int .i64 0, .int .i64 0, .int .i64 0, .int .i64 0, .int .i64 0, .int .i64 0] [0, 1, 2, 3, 4, 5, 6])
   [.int .i64 C.T, .int .i64 C.S, .int .i64 C.C, .int .i64 C.W, .int .i64 100, .int .i64 600, .int .i64 3] K = K C.v := by
  intro K; unfold Cf.v; rw [hG, hP, hR]; exact nr rfl
 have b2 : ∀ K : List Value → Prop, xC (gStore 7 [locP 10, C.v] [.int .i64 0, .int .i64 0, .int .i64 0, .int .i64 0, .int .i64 0, .int .i64 0, .int .i64 0]) K = K C.l := fun K => nr rfl
 rw [b1, b2]
 simp only [locP_e, gLoad_s, subC, xOs]
 refine c_Fresh hC fun N A τ hN hF hA hE hf => ?_
 simp only [ruS, Nat.reduceAdd, reduceIte, Int.reduceLT, Int.reduceLE, Int.reduceEq, Int.reduceNeg, Int.reduceAdd, Int.reduceSub, locP_e, gLoad_s, subC]
 exact hk N A τ hN hF hA hE hf
theorem ruE : type_of% ((And.intro (And.intro (And.intro (And.intro @Nat.lt_irrefl @Nat.zero_lt_one) (And.intro @gBoxE (And.intro @gBoxC @subE))) (And.intro (And.intro @subEC (And.intro @subE0 @subE1)) (And.intro @subE2 (And.intro @subE3 @subE4)))) (And.intro (And.intro (And.intro @subE6 @subE7) (And.intro @subE8 (And.intro @subC @subC0))) (And.intro (And.intro @subC1 (And.intro @subC2 @subC3)) (And.intro @subC4 (And.intro @subC5 @subC6)))))) := (And.intro (And.intro (And.intro (And.intro @Nat.lt_irrefl @Nat.zero_lt_one) (And.intro @gBoxE (And.intro @gBoxC @subE))) (And.intro (And.intro @subEC (And.intro @subE0 @subE1)) (And.intro @subE2 (And.intro @subE3 @subE4)))) (And.intro (And.intro (And.intro @subE6 @subE7) (And.intro @subE8 (And.intro @subC @subC0))) (And.intro (And.intro @subC1 (And.intro @subC2 @subC3)) (And.intro @subC4 (And.intro @subC5 @subC6)))))
end Go.Fl
namespace Go.Fl
open Go
set_option linter.unusedVariables false
set_option linter.unusedSimpArgs false
variable {N : Nm} {A B : Ar} {σ : Mem} {K : Value → Mem → Prop} {C : Cf} {who : Int}
theorem notin {p : Nat} (h : p ∉ N.l) : p ≠ N.m ∧ p ≠ N.w ∧ p ≠ N.t := by simpa [Nm.l] using h
theorem putA_get {p : Nat} (h : p ∉ N.l) : (putA N A σ).get p = σ.get p := putA_ne (notin h).1 (notin h).2.1 (notin h).2.2
theorem putA_setP {p : Nat} {c : Blk} (h : p ∉ N.l) : (putA N A σ).set p c = putA N A (σ.set p c) := putA_set (notin h).1 (notin h).2.1 (notin h).2.2
theorem isA.obj {p : Nat} {c : Blk} (h : isA N A σ) (hp : σ.get p = some c) : σ = putA N A (σ.set p c) := by rw [Mem.set_self hp]; exact h.eq
section
variable {p o k sz : Nat} {pre L post : List Value} {ag : Bool}
theorem sub_app (hz : 0 < sz) (hk : k + sz ≤ L.length) : sub (pre ++ L ++ post) (pre.length + k) sz ag = sub L k sz ag := by
 have h1 : pre.length + k + sz ≤ (pre ++ L ++ post).length := by simp; omega
 simp only [sub, if_pos h1, if_pos hk]
 cases ag
 ·simp only [Bool.false_eq_true, if_false]
  rw [List.append_assoc, List.getElem?_append_right (by omega), Nat.add_sub_cancel_left, List.getElem?_append_left (by omega)]
 ·simp only [if_true]
  rw [List.append_assoc, List.drop_append, List.drop_of_length_le (by omega), List.nil_append, Nat.add_sub_cancel_left, List.drop_append_of_le_length (by omega), List.take_append_of_le_length (by simp; omega)]
theorem lay_app {vs : List Value} (hk : k + vs.length ≤ L.length) : lay (pre ++ L ++ post) (pre.length + k) vs = pre ++ lay L k vs ++ post := by
 have e : pre.length + k + vs.length = pre.length + (k + vs.length) := by omega
 simp only [lay, e]
 rw [List.append_assoc pre, List.take_append, List.take_of_length_le (by omega), Nat.add_sub_cancel_left, List.take_append_of_le_length (by omega),
  List.drop_append, List.drop_of_length_le (by omega), List.nil_append, Nat.add_sub_cancel_left, List.drop_append_of_le_length (by omega)]
 simp only [List.append_assoc]
theorem ldO (hd : p ∉ N.l) (hz : 0 < sz) (hk : k + sz ≤ L.length) : hLoad sz ag [.pointer (some ⟨p, pre.length + k, none⟩)] K (putA N A (σ.set p ⟨pre ++ L ++ post, true⟩)) =
  xO (sub L k sz ag) (fun v => K v (putA N A (σ.set p ⟨pre ++ L ++ post, true⟩))) := by
 rw [hLoad_eq ((putA_get hd).trans (Mem.get_set_same _ _ _)), sub_app hz hk]
theorem stO (hd : p ∉ N.l) {x : Value} {c : List Value} (hc : cellsOf x sz = some c) (hl : c.length = sz) (hk : k + sz ≤ L.length) (ho : c.all oneB = true) :
  hStore sz [.pointer (some ⟨p, pre.length + k, none⟩), x] K (putA N A (σ.set p ⟨pre ++ L ++ post, true⟩)) = K undef (putA N A (σ.set p ⟨pre ++ lay L k c ++ post, true⟩)) := by
 rw [hStore_eq ((putA_get hd).trans (Mem.get_set_same _ _ _)) hc (by simp; omega) ho, putA_setP hd, Mem.set_set, lay_app (by omega)]
theorem stOi (hd : p ∉ N.l) {kd : IntKind} {n : Int} (hk : k + 1 ≤ L.length) :
  hStore 1 [.pointer (some ⟨p, pre.length + k, none⟩), .int kd n] K (putA N A (σ.set p ⟨pre ++ L ++ post, true⟩)) = K undef (putA N A (σ.set p ⟨pre ++ lay L k [.int kd n] ++ post, true⟩)) := stO hd rfl rfl hk rfl
theorem stOb (hd : p ∉ N.l) {b : Bool} (hk : k + 1 ≤ L.length) :
  hStore 1 [.pointer (some ⟨p, pre.length + k, none⟩), .bool b] K (putA N A (σ.set p ⟨pre ++ L ++ post, true⟩)) = K undef (putA N A (σ.set p ⟨pre ++ lay L k [.bool b] ++ post, true⟩)) := stO hd rfl rfl hk rfl
theorem stOp (hd : p ∉ N.l) {b : Option Addr} (hk : k + 1 ≤ L.length) :
  hStore 1 [.pointer (some ⟨p, pre.length + k, none⟩), .pointer b] K (putA N A (σ.set p ⟨pre ++ L ++ post, true⟩)) = K undef (putA N A (σ.set p ⟨pre ++ lay L k [.pointer b] ++ post, true⟩)) := stO hd rfl rfl hk rfl
theorem stOa (hd : p ∉ N.l) {c : List Value} (hl : c.length = sz) (hk : k + sz ≤ L.length) (ho : c.all oneB = true) :
  hStore sz [.pointer (some ⟨p, pre.length + k, none⟩), .agg c.toArray] K (putA N A (σ.set p ⟨pre ++ L ++ post, true⟩)) = K undef (putA N A (σ.set p ⟨pre ++ lay L k c ++ post, true⟩)) :=
 stO hd (by subst hl; simp [cellsOf]) hl hk ho
theorem behind (hN : N.ok) (hd : p ∉ N.l) {c : Blk} {v : Value} (hk : ∀ τ, isA N A τ → τ.get p = some c → Keep (p :: N.l) σ τ → K v τ) : K v (putA N A (σ.set p c)) := by
 refine hk _ (isA_put hN) ((putA_get hd).trans (Mem.get_set_same _ _ _)) fun i b hi hn => ?_
 simp only [List.mem_cons, not_or] at hn
 rw [putA_get hn.2, Mem.get_set_ne _ _ hn.1]
 exact hi
end
structure Tk where
 pc : Int
 top : Int
 next : Int
 slot : Int
 ok : Bool
def Tk.l (t : Tk) : List Value := [.int .i64 t.pc, .int .u64 t.top, .int .i64 t.next, .int .i64 t.slot, .bool t.ok]
def Tk.new : Tk := ⟨0, 0, 0, 0, false⟩
def Tk.step (C : Cf) (who : Int) (A : Ar) (t : Tk) : Bool × Tk × Ar :=
 if t.pc = 0 then (decide (topS (A.w 1) < 0), ⟨1, A.w 1, t.next, topS (A.w 1), t.ok⟩, (A.by who).load 1)
 else if t.pc = 1 then (t.ok, ⟨2, t.top, topS (A.w (C.slot t.slot + 1)), t.slot, t.ok⟩, (A.by who).load (C.slot t.slot + 1))
 else (decide (A.w 1 = t.top), ⟨0, t.top, t.next, t.slot, decide (A.w 1 = t.top)⟩, (A.by who).cas 1 t.top (putTop t.next (topN t.top + 1)))
theorem c_Take_Step (hN : N.ok) (hC : C.ok) (hA : isA N A σ) {p : Nat} {pre post : List Value} {t : Tk} (hp : σ.get p = some ⟨pre ++ t.l ++ post, true⟩) (hd : p ∉ N.l)
  (hw : ∀ i, 0 ≤ A.w i ∧ A.w i < 18446744073709551616) (hn : C.len ≤ A.n) (h0 : 0 ≤ t.top ∧ t.top < 18446744073709551616) (h1 : t.pc = 1 → 0 ≤ t.slot ∧ t.slot < C.S) (h2 : 0 ≤ t.next + 1)
  (hk : ∀ τ, isA N (t.step C who A).2.2 τ → τ.get p = some ⟨pre ++ (t.step C who A).2.1.l ++ post, true⟩ → Keep (p :: N.l) σ τ → K (.bool (t.step C who A).1) τ) :
  s_c8 [.pointer (some ⟨p, pre.length, none⟩), N.env C who] K σ := by
 rw [hA.obj hp]
 have hl := len_bd hC
 have hT := hC.T
 have hS := hC.S
 have hCC := hC.C
 have hch : C.chunk C.C = 6 + C.T + 2 * C.S + 3 * C.C := rfl
 simp only [s_c8, w_c8, w_c8_j1, w_c8_j1b, Tk.l, ldO hd, c_lTop, ruS, ruL, ruE, Nat.reduceAdd, reduceIte, Int.reduceLT, Int.reduceLE, Int.reduceEq, Int.reduceNeg, Int.reduceAdd, Int.reduceSub, Nat.reduceLeDiff, Nat.reduceLT]
 by_cases c0 : t.pc = 0
 ·rw [if_pos c0, c_Load hN (by omega) (by omega)]
  simp only [stOi hd, ldO hd, ruS, ruL, ruE, Nat.reduceAdd, reduceIte, Int.reduceLT, Int.reduceLE, Int.reduceEq, Int.reduceNeg, Int.reduceAdd, Int.reduceSub, Nat.reduceLeDiff, Nat.reduceLT]
  rw [c_Top (hw 1).1 (hw 1).2]
  simp only [stOi hd, ldO hd, ruS, ruL, ruE, Nat.reduceAdd, reduceIte, Int.reduceLT, Int.reduceLE, Int.reduceEq, Int.reduceNeg, Int.reduceAdd, Int.reduceSub, Nat.reduceLeDiff, Nat.reduceLT]
  simp only [Tk.step, if_pos c0] at hk
  exact behind hN hd hk
 ·by_cases c1 : t.pc = 1
  ·have := h1 c1
   have ha : 0 ≤ C.slot t.slot + 1 ∧ C.slot t.slot + 1 < A.n := by unfold Cf.slot; unfold Cf.chunk at hl; have := hC.C; omega
   rw [if_neg c0, if_pos c1, c_Slot hC (by omega) (by omega)]
   simp only [xAdd]
   rw [IntWalk.i64_in (C.slot t.slot + 1) (by unfold Cf.slot; omega), c_Load hN ha.1 ha.2, c_Top (hw _).1 (hw _).2]
   simp only [stOi hd, ldO hd, ruS, ruL, ruE, Nat.reduceAdd, reduceIte, Int.reduceLT, Int.reduceLE, Int.reduceEq, Int.reduceNeg, Int.reduceAdd, Int.reduceSub, Nat.reduceLeDiff, Nat.reduceLT]
   simp only [Tk.step, if_neg c0, if_pos c1] at hk
   exact behind hN hd hk
  ·rw [if_neg c0, if_neg c1, c_Top h0.1 h0.2]
   simp only [stOi hd, ldO hd, c_lTop, ruS, ruL, ruE, Nat.reduceAdd, reduceIte, Int.reduceLT, Int.reduceLE, Int.reduceEq, Int.reduceNeg, Int.reduceAdd, Int.reduceSub, Nat.reduceLeDiff, Nat.reduceLT]
   have hN2 : 0 ≤ topN t.top ∧ topN t.top < 68719476736 := by unfold topN; omega
   rw [IntWalk.i64_in (topN t.top + 1) (by omega), c_PutTop (by omega), c_Cas hN (by omega) (by omega)]
   simp only [stOb hd, ldO hd, ruS, ruL, ruE, Nat.reduceAdd, reduceIte, Int.reduceLT, Int.reduceLE, Int.reduceEq, Int.reduceNeg, Int.reduceAdd, Int.reduceSub, Nat.reduceLeDiff, Nat.reduceLT]
   simp only [Tk.step, if_neg c0, if_neg c1] at hk
   exact behind hN hd hk
theorem c_Take_Slot (hA : isA N A σ) {p : Nat} {pre post : List Value} {t : Tk} (hp : σ.get p = some ⟨pre ++ t.l ++ post, true⟩) (hd : p ∉ N.l)
  (hk : K (.tuple #[.int .i64 (if t.ok = true then t.slot else 0), .bool t.ok]) σ) : s_c7 [.pointer (some ⟨p, pre.length, none⟩)] K σ := by
 have e := hA.obj hp
 generalize hq : σ = υ at *
 rw [e] at hk ⊢
 simp only [s_c7, w_c7, w_c7_j1, w_c7_j1b, Tk.l, ldO hd, ruS, ruL, ruE, Nat.reduceAdd, reduceIte, Int.reduceLT, Int.reduceLE, Int.reduceEq, Int.reduceNeg, Int.reduceAdd, Int.reduceSub, Nat.reduceLeDiff, Nat.reduceLT] at hk ⊢
 cases h : t.ok <;> simp only [h, xIfB, ldO hd, ruS, ruL, ruE, Nat.reduceAdd, reduceIte, Int.reduceLT, Int.reduceLE, Int.reduceEq, Int.reduceNeg, Int.reduceAdd, Int.reduceSub, Nat.reduceLeDiff, Nat.reduceLT] at hk ⊢ <;> exact hk
structure Gv where
 pc : Int
 slot : Int
 top : Int
def Gv.l (g : Gv) : List Value := [.int .i64 g.pc, .int .i64 g.slot, .int .u64 g.top]
def Gv.step (C : Cf) (who : Int) (A : Ar) (g : Gv) : Bool × Gv × Ar :=
 if g.pc = 0 then (false, ⟨1, g.slot, A.w 1⟩, (A.by who).load 1)
 else if g.pc = 1 then (false, ⟨2, g.slot, g.top⟩, (A.by who).store (C.slot g.slot + 1) (putTop (topS g.top) 0))
 else (decide (A.w 1 = g.top), ⟨0, g.slot, g.top⟩, (A.by who).cas 1 g.top (putTop g.slot (topN g.top + 1)))
theorem c_Give_Step (hN : N.ok) (hC : C.ok) (hA : isA N A σ) {p : Nat} {pre post : List Value} {t : Gv} (hp : σ.get p = some ⟨pre ++ t.l ++ post, true⟩) (hd : p ∉ N.l)
  (hw : ∀ i, 0 ≤ A.w i ∧ A.w i < 18446744073709551616) (hn : C.len ≤ A.n) (h0 : 0 ≤ t.top ∧ t.top < 18446744073709551616) (h1 : 0 ≤ t.slot ∧ t.slot < C.S)
  (hk : ∀ τ, isA N (t.step C who A).2.2 τ → τ.get p = some ⟨pre ++ (t.step C who A).2.1.l ++ post, true⟩ → Keep (p :: N.l) σ τ → K (.bool (t.step C who A).1) τ) :
  s_c5 [.pointer (some ⟨p, pre.length, none⟩), N.env C who] K σ := by
 rw [hA.obj hp]
 have hl := len_bd hC
 have hT := hC.T
 have hS := hC.S
 have hCC := hC.C
 have hch : C.chunk C.C = 6 + C.T + 2 * C.S + 3 * C.C := rfl
 simp only [s_c5, w_c5, w_c5_j1, w_c5_j1b, Gv.l, ldO hd, c_lTop, ruS, ruL, ruE, Nat.reduceAdd, reduceIte, Int.reduceLT, Int.reduceLE, Int.reduceEq, Int.reduceNeg, Int.reduceAdd, Int.reduceSub, Nat.reduceLeDiff, Nat.reduceLT]
 rw [c_Top h0.1 h0.2]
 simp only [ldO hd, c_lTop, ruS, ruL, ruE, Nat.reduceAdd, reduceIte, Int.reduceLT, Int.reduceLE, Int.reduceEq, Int.reduceNeg, Int.reduceAdd, Int.reduceSub, Nat.reduceLeDiff, Nat.reduceLT]
 by_cases c0 : t.pc = 0
 ·rw [if_pos c0, c_Load hN (by omega) (by omega)]
  simp only [stOi hd, ldO hd, ruS, ruL, ruE, Nat.reduceAdd, reduceIte, Int.reduceLT, Int.reduceLE, Int.reduceEq, Int.reduceNeg, Int.reduceAdd, Int.reduceSub, Nat.reduceLeDiff, Nat.reduceLT]
  simp only [Gv.step, if_pos c0] at hk
  exact behind hN hd hk
 ·by_cases c1 : t.pc = 1
  ·have ha : 0 ≤ C.slot t.slot + 1 ∧ C.slot t.slot + 1 < A.n := by unfold Cf.slot; omega
   have hN1 : -1 ≤ topS t.top := by unfold topS; omega
   rw [if_neg c0, if_pos c1, c_Slot hC (by omega) (by omega)]
   simp only [xAdd]
   rw [IntWalk.i64_in (C.slot t.slot + 1) (by unfold Cf.slot; omega), c_PutTop (by omega), c_Store hN ha.1 ha.2]
   simp only [stOi hd, ldO hd, ruS, ruL, ruE, Nat.reduceAdd, reduceIte, Int.reduceLT, Int.reduceLE, Int.reduceEq, Int.reduceNeg, Int.reduceAdd, Int.reduceSub, Nat.reduceLeDiff, Nat.reduceLT]
   simp only [Gv.step, if_neg c0, if_pos c1] at hk
   exact behind hN hd hk
  ·rw [if_neg c0, if_neg c1]
   simp only [stOi hd, ldO hd, c_lTop, ruS, ruL, ruE, Nat.reduceAdd, reduceIte, Int.reduceLT, Int.reduceLE, Int.reduceEq, Int.reduceNeg, Int.reduceAdd, Int.reduceSub, Nat.reduceLeDiff, Nat.reduceLT]
   have hN2 : 0 ≤ topN t.top ∧ topN t.top < 68719476736 := by unfold topN; omega
   rw [IntWalk.i64_in (topN t.top + 1) (by omega), c_PutTop (by omega), c_Cas hN (by omega) (by omega)]
   simp only [Gv.step, if_neg c0, if_neg c1] at hk
   exact behind hN hd hk
theorem hBox_i {cs : List Value} {sz : Nat} {K : Value → Mem → Prop} {σ : Mem} (h : cs.length = sz) (hk : ∀ id τ, σ.get id = none → τ.get id = some ⟨cs, true⟩ → Ext σ τ → K (.pointer (some ⟨id, 0, none⟩)) τ) :
  hBox sz [.agg cs.toArray] K σ := by
 rw [hBox_a h]
 exact fun id hid => hk id _ hid (Mem.get_set_same _ _ _) (Ext.fresh hid)
theorem Keep.fresh {L : List Nat} {τ υ : Mem} {id : Nat} (h : σ.get id = none) (e : Ext σ τ) (k : Keep (id :: L) τ υ) : Keep L σ υ := by
 intro i b hi hn
 refine k i b (e i b hi) ?_
 simp only [List.mem_cons, not_or]
 exact ⟨fun e' => (by rw [e', h] at hi; cases hi), hn⟩
theorem isA.new (h : isA N A σ) {id : Nat} (hid : σ.get id = none) : id ∉ N.l := by
 have := h.fresh hid
 simpa [Nm.l] using this
theorem c_NewGive {s : Int} (hk : ∀ id τ, σ.get id = none → τ.get id = some ⟨(Gv.mk 0 s 0).l, true⟩ → Ext σ τ → K (.pointer (some ⟨id, 0, none⟩)) τ) : s_c6 [.int .i64 s] K σ := by
 have b : ∀ K : Value → Prop, xF (fBuild [(0, 1), (1, 1), (2, 1)] [.int .i64 0, .int .i64 0, .int .u64 0] [1]) [.int .i64 s] K = K (.agg #[.int .i64 0, .int .i64 s, .int .u64 0]) := fun K => nr rfl
 simp only [s_c6, w_c6, b, ruS, Nat.reduceAdd, reduceIte, Int.reduceLT, Int.reduceLE, Int.reduceEq, Int.reduceNeg, Int.reduceAdd, Int.reduceSub]
 exact hBox_i (cs := [_, _, _]) rfl hk
theorem newB_i {c : List Value} {v : Nat → Value} {K : Value → Mem → Prop} {σ : Mem} (h : ∀ id τ, σ.get id = none → τ.get id = some ⟨c, true⟩ → Ext σ τ → K (v id) τ) : newB c v K σ :=
 fun id hid => h id _ hid (Mem.get_set_same _ _ _) (Ext.fresh hid)
theorem hBuildS_i {es len : Nat} {z : List Value} {idx : List Nat} {args : List Value} {K : Value → Mem → Prop} {σ : Mem} (c : List Value) (hc : fillL (fun i => some (i * es, es)) (List.replicate len z).flatten idx args = some c)
  (h : ∀ id τ, σ.get id = none → τ.get id = some ⟨c, true⟩ → Ext σ τ → K (.slice (some ⟨id, 0, none⟩) len es) τ) : hBuildS es len z idx args K σ := by
 simp only [hBuildS, hc]
 exact newB_i h
theorem xLoop_i {F : (List Value → List (List Value) → Mem → Prop) → List Value → List (List Value) → Mem → Prop} (enc : Int → List Value) (ls : List (List Value)) (m : Int) (I : Int → Mem → Prop)
  (hr : ∀ i σ, I i σ → ∀ R : List Value → List (List Value) → Mem → Prop, (∀ τ, i < m → I (i + 1) τ → R (enc (i + 1)) ls τ) → F R (enc i) ls σ) {i : Int} {σ : Mem} (h0 : I i σ) : xLoop F (enc i) ls σ := by
 refine xLoop_inv (fun k ts l τ => ∃ i, k = (m - i).toNat ∧ ts = enc i ∧ l = ls ∧ I i τ) ?_ (n := (m - i).toNat) ⟨i, rfl, rfl, rfl, h0⟩
 rintro k ts l τ ⟨i, rfl, rfl, rfl, h⟩
 exact hr i τ h _ fun υ hi h' => ⟨_, by omega, i + 1, rfl, rfl, rfl, h'⟩
theorem xLoop_r {F : (List Value → List (List Value) → Mem → Prop) → List Value → List (List Value) → Mem → Prop} (I : Nat → List Value → List (List Value) → Mem → Prop)
  (hr : ∀ n ts ls σ, I n ts ls σ → ∀ R : List Value → List (List Value) → Mem → Prop, (∀ m ts' ls' σ', m < n → I m ts' ls' σ' → R ts' ls' σ') → F R ts ls σ)
  {n : Nat} {ts : List Value} {ls : List (List Value)} {σ : Mem} (h0 : I n ts ls σ) : xLoop F ts ls σ :=
 xLoop_inv I (fun n ts ls σ h => hr n ts ls σ h _ fun m ts' ls' σ' hm h' => ⟨m, hm, h'⟩) h0
theorem ldCells {k : IntKind} {n q : Nat} {g : Int → Int} {i : Int} {b : Bool} (h : σ.get q = some ⟨cells k n g, b⟩) (h0 : 0 ≤ i) (h1 : i < n) :
  hLoad 1 false [.pointer (some ⟨q, i.toNat * 1, none⟩)] K σ = K (.int k (g i)) σ := by
 have := cells_sub k g h0 h1
 rw [Nat.zero_add] at this
 rw [hLoad_eq h, this, xOs]
theorem stCells {k : IntKind} {n q : Nat} {g : Int → Int} {i v : Int} (h : σ.get q = some ⟨cells k n g, true⟩) (h0 : 0 ≤ i) (h1 : i < n) :
  hStore 1 [.pointer (some ⟨q, i.toNat * 1, none⟩), .int k v] K σ = K undef (σ.set q ⟨cells k n (upd g i v), true⟩) := by
 have := cells_lay k g v h0 h1
 rw [Nat.zero_add] at this
 rw [hStore_eq h rfl (by simp; omega) rfl, this]
theorem hMakeS_i {es by' : Nat} {z : List Value} {n : Int} (h0 : 0 ≤ n) (h1 : n ≤ 1073741824) (hb : by' ≤ 1024)
  (hk : ∀ id τ, σ.get id = none → τ.get id = some ⟨(List.replicate n.toNat z).flatten, true⟩ → Ext σ τ → K (.slice (some ⟨id, 0, none⟩) n.toNat es) τ) : hMakeS es by' z [.int .i64 n, .int .i64 n] K σ := by
 rw [hMakeS_eq h0 h1 hb]
 exact fun id hid => hk id _ hid (Mem.get_set_same _ _ _) (Ext.fresh hid)
theorem xAndI {K : Value → Prop} {Q : EqK} {k : Nat} {a : Int} (hk : k ≤ 62) : xF (fBin .and Q) [.int .i64 a, .int .i64 (2 ^ k - 1)] K = K (.int .i64 (a % 2 ^ k)) := by
 have e : ((2 : Int) ^ k - 1) = ((2 ^ k - 1 : Nat) : Int) := by
  push_cast [Nat.one_le_two_pow]
  rfl
 have hp : 0 < 2 ^ k := Nat.two_pow_pos k
 have e2 : ((2 ^ k : Nat) : Int) = 2 ^ k := by push_cast; rfl
 have hb : 2 ^ k ≤ 2 ^ 62 := Nat.pow_le_pow_right (by decide) hk
 have hd : (2 ^ k : Nat) ∣ 2 ^ 64 := Nat.pow_dvd_pow 2 (by omega)
 have q : ((BitVec.ofInt 64 a &&& BitVec.ofInt 64 ((2 ^ k - 1 : Nat) : Int)).toNat : Int) = a % 2 ^ k := by
  rw [BitVec.toNat_and, BitVec.toNat_ofInt, BitVec.toNat_ofInt]
  have h4 : (((2 ^ k - 1 : Nat) : Int) % ((2 ^ 64 : Nat) : Int)).toNat = 2 ^ k - 1 := by omega
  rw [h4, Nat.and_two_pow_sub_one_eq_mod, Int.natCast_emod, Int.toNat_of_nonneg (by omega), Int.emod_emod_of_dvd a (Int.natCast_dvd_natCast.2 hd), e2]
 simp only [xF, fBin, isSh, binI, Bool.false_eq_true, if_false, if_true]
 show K (.int .i64 (IntKind.i64.wrap ((BitVec.ofInt 64 a &&& BitVec.ofInt 64 (2 ^ k - 1)).toNat : Int))) = _
 rw [e, q]
 have h1 : 0 ≤ a % 2 ^ k := by rw [← e2]; exact Int.emod_nonneg _ (by omega)
 have h2 : a % 2 ^ k < 2 ^ k := by rw [← e2]; exact Int.emod_lt_of_pos _ (by omega)
 have h3 : (2 : Int) ^ k ≤ 4611686018427387904 := by rw [← e2]; omega
 rw [IntWalk.i64_in _ (by omega)]
theorem andI7 {K : Value → Prop} {Q : EqK} {a : Int} : xF (fBin .and Q) [.int .i64 a, .int .i64 7] K = K (.int .i64 (a % 8)) := by simpa using xAndI (K := K) (Q := Q) (k := 3) (a := a) (by decide)
theorem andI15 {K : Value → Prop} {Q : EqK} {a : Int} : xF (fBin .and Q) [.int .i64 a, .int .i64 15] K = K (.int .i64 (a % 16)) := by simpa using xAndI (K := K) (Q := Q) (k := 4) (a := a) (by decide)
theorem gStoreE {k : Nat} : gStore 9 [.pointer (some ⟨k, 0, some 0⟩), N.env C who] [.int .i64 0, .int .i64 0, .int .i64 0, .int .i64 0, .int .i64 0, .int .i64 0, .int .i64 0, .pointer none, .int .i64 0] = some (N.el C who) := nr rfl
theorem c_PeekA (hN : N.ok) (hA : isA N A σ) {a : Int} (h0 : 0 ≤ a) (h1 : a < A.n) : s_cd [N.p, .int .i64 a] K σ = K (.int .u64 (A.w a)) σ := by
 have := c_mPeek (N := N) (A := A) (σ := σ) (K := K) hN h0 h1
 rwa [← hA.eq] at this
theorem c_LenA (hA : isA N A σ) : s_cb [N.p] K σ = K (.int .i64 A.n) σ := by
 have := c_mLen (N := N) (A := A) (σ := σ) (K := K)
 rwa [← hA.eq] at this
def cA (T S Ch W : Int) : Cf := ⟨T, S, Ch, W, 100, 600, 3⟩
theorem cA_ok {T S Ch W : Int} (h1 : 1 ≤ T ∧ T ≤ 8) (h2 : 1 ≤ S ∧ S ≤ 65536) (h3 : 1 ≤ Ch ∧ Ch ≤ 64) (h4 : 17 ≤ W ∧ W ≤ 256) : (cA T S Ch W).ok :=
 ⟨h1, h2, h3, h4, ⟨by show (1 : Int) ≤ 100; decide, by show (100 : Int) ≤ 65535; decide⟩, ⟨by show (0 : Int) ≤ 600; decide, by show (600 : Int) ≤ 1000; decide⟩, ⟨by show (1 : Int) ≤ 3; decide, by show (3 : Int) ≤ 16; decide⟩⟩
theorem Keep.get {L : List Nat} {τ : Mem} {i : Nat} {b : Blk} (k : Keep L σ τ) (h : σ.get i = some b) (hn : i ∉ L) : τ.get i = some b := k i b h hn
structure Aft (A A' : Ar) (k : Int) (w : Int → Int) : Prop where
 n : A'.n = A.n
 w : A'.w = w
 s : A'.s = A.s + k
 t : ∀ i, A'.t i = A.t i ∨ A.s < A'.t i ∧ A'.t i ≤ A'.s
theorem Aft.ok {A' : Ar} {k b : Int} {w : Int → Int} (h : Aft A A' k w) (hk : 0 ≤ k) (ho : A.ok b) (hw : ∀ i, 0 ≤ w i ∧ w i < 18446744073709551616) : A'.ok (b + k) := by
 refine ⟨fun i => by rw [h.w]; exact hw i, ?_, fun i => ?_⟩
 ·have := ho.s; have := h.s; omega
 ·have := ho.s; have := h.s; have := ho.t i
  rcases h.t i with e | e <;> omega
theorem Aft.trans {A' A'' : Ar} {k k' : Int} {w w' : Int → Int} (h : Aft A A' k w) (h' : Aft A' A'' k' w') (hk : 0 ≤ k) (hk' : 0 ≤ k') : Aft A A'' (k + k') w' := by
 refine ⟨h'.n.trans h.n, h'.w, by rw [h'.s, h.s]; omega, fun i => ?_⟩
 have := h.s; have := h'.s
 rcases h'.t i with e | e
 ·rw [e]
  rcases h.t i with e | e <;> omega
 ·omega
theorem aft_load {b a : Int} (h : A.ok b) (hb : b < 9223372036854775807) : Aft A ((A.by who).load a) 1 A.w :=
 ⟨rfl, rfl, by rw [load_s, by_s, h.s1 hb], fun i => .inl rfl⟩
theorem aft_store {b a v : Int} (h : A.ok b) (hb : b < 9223372036854775807) : Aft A ((A.by who).store a v) 1 (upd A.w a v) := by
 refine ⟨rfl, rfl, by rw [store_s, by_s, h.s1 hb], fun i => ?_⟩
 rw [store_t, by_s, h.s1 hb, store_s, by_s, h.s1 hb]
 split
 ·unfold upd; split
  ·right; omega
  ·left; rfl
 ·left; rfl
theorem aft_cas {b a o v : Int} (h : A.ok b) (hb : b < 9223372036854775807) : Aft A ((A.by who).cas a o v) 1 (if A.w a = o then upd A.w a v else A.w) := by
 by_cases hc : A.w a = o
 ·rw [if_pos hc, cas_yes (by exact hc)]; exact aft_store h hb
 ·rw [if_neg hc, cas_no (by exact hc)]; exact aft_load h hb
end Go.Fl
namespace Go.Fl
open Go
set_option linter.unusedVariables false
set_option linter.unusedSimpArgs false
variable {N : Nm} {A B : Ar} {σ : Mem} {K : Value → Mem → Prop} {C : Cf} {who : Int}
def ArgI (k : IntKind) (σ : Mem) (s : Value) (n : Nat) (g : Int → Int) : Prop := ∃ a c, s = .slice a n c ∧ (0 < n → ∃ b rw, a = some ⟨b, 0, none⟩ ∧ σ.get b = some ⟨cells k n g, rw⟩)
theorem Sl.argI {k : IntKind} {s : Value} {n : Nat} {cs : List Value} (h : Sl σ 1 n cs s) (hf : FlatL (List.replicate n [some k]).flatten cs) : ∃ g, ArgI k σ s n g ∧ ∀ i, (Lit.int k (g i)).wf = true := by
 obtain ⟨g, rfl, hw⟩ := hf.ints
 refine ⟨g, ?_, hw⟩
 generalize hc : cells k n g = cs at h
 cases h with
 | nil => exact ⟨none, 0, rfl, fun h => absurd h (Nat.lt_irrefl 0)⟩
 | mk hl hg =>
  rename_i b
  refine ⟨some ⟨b, 0, none⟩, 1, rfl, fun h => ?_⟩
  rcases hg with hg | ⟨rw, hg⟩
  ·omega
  ·exact ⟨b, rw, rfl, by rw [hg, hc]⟩
theorem ArgI.keep {kd : IntKind} {s : Value} {n : Nat} {g : Int → Int} {τ : Mem} (h : ArgI kd σ s n g) (k : Ext σ τ) : ArgI kd τ s n g := by
 obtain ⟨a, c, rfl, h⟩ := h
 refine ⟨a, c, rfl, fun hn => ?_⟩
 obtain ⟨b, rw, e, h⟩ := h hn
 exact ⟨b, rw, e, k _ _ h⟩
theorem ArgI.len {k : IntKind} {s : Value} {n : Nat} {g : Int → Int} (h : ArgI k σ s n g) {K : Value → Prop} : xF fLen [s] K = K (.int .i64 n) := by
 obtain ⟨a, c, rfl, _⟩ := h; exact xLen
theorem ArgI.ix {k' : IntKind} {s : Value} {n : Nat} {g : Int → Int} (h : ArgI k' σ s n g) {i : Int} (h0 : 0 ≤ i) (h1 : i < n) {kd : IntKind} :
  (xF (fIxS 1) [s, .int kd i] fun v => hLoad 1 false [v] K σ) = K (.int k' (g i)) σ := by
 obtain ⟨a, c, rfl, h⟩ := h
 obtain ⟨b, rw, rfl, h'⟩ := h (by omega)
 rw [xIxS h0 h1]
 simp only [Nat.zero_add]
 exact ldCells h' h0 h1
theorem Ext.keep' {σ0 τ : Mem} {L : List Nat} (h : Ext σ0 σ) (k : Keep L σ τ) (hL : ∀ i ∈ L, σ0.get i = none) : Ext σ0 τ := by
 intro i b hi
 refine k i b (h i b hi) fun hm => ?_
 rw [hL i hm] at hi; cases hi
theorem Ext.none {τ : Mem} (h : Ext σ τ) {i : Nat} (hi : τ.get i = none) : σ.get i = none := by
 cases e : σ.get i with
 | none => rfl
 | some b => rw [h i b e] at hi; cases hi
theorem Nm.fr.all (h : N.fr σ) : ∀ i ∈ N.l, σ.get i = none := by
 intro i hi
 simp only [Nm.l, List.mem_cons, List.not_mem_nil, or_false] at hi
 rcases hi with rfl | rfl | rfl
 ·exact h.m
 ·exact h.w
 ·exact h.t
theorem FlatL.split : ∀ {ks ls : List (Option IntKind)} {cs : List Value}, FlatL (ks ++ ls) cs → FlatL ks (cs.take ks.length) ∧ FlatL ls (cs.drop ks.length)
 | [], ls, cs, h => ⟨.nil, h⟩
 | k :: ks, ls, cs, h => by
  cases h with
  | cons h1 h2 =>
   obtain ⟨a, b⟩ := FlatL.split h2
   exact ⟨.cons h1 a, b⟩
section
variable {b o : Nat} {pre L post : List Value} {rw : Bool}
theorem hAppendL_i {by' k n : Nat} {x : Value} (h : σ.get b = some ⟨pre ++ L, true⟩) (ho : pre.length = o) (hn : L.length = n) (hb : by' ≤ 1024) (hx : oneB x = true) (hl : n < 1073741823)
  (hk : ∀ id τ, σ.get id = none → τ.get id = some ⟨L ++ [x], true⟩ → Keep [b] σ τ → K (.slice (some ⟨id, 0, none⟩) (n + 1) 1) τ) : hAppendL 1 by' [x] [.slice (some ⟨b, o, none⟩) n 1, locS k 1 1] K σ := by
 subst ho; subst hn
 simp only [hAppendL, locS, app, h]
 rw [if_pos ⟨hb, rfl, by simp [hx]⟩, if_pos ⟨trivial, trivial, by decide, by simp, by omega⟩, List.drop_left]
 intro id hid
 have hne : id ≠ b := by rintro rfl; rw [h] at hid; cases hid
 refine hk id _ hid (by simp [Mem.del, Mem.set, hne]) fun i c hi hn => ?_
 simp only [List.mem_cons, List.not_mem_nil, or_false] at hn
 have : i ≠ id := by rintro rfl; rw [hid] at hi; cases hi
 simp [Mem.del, Mem.set, hn, this, hi]
end
end Go.Fl
namespace Go.Fl
open Go
set_option linter.unusedVariables false
set_option linter.unusedSimpArgs false
variable {N : Nm} {A B : Ar} {σ : Mem} {K : Value → Mem → Prop} {C : Cf} {who : Int}
def slS (w : Int) : Int := w % 8
def slA (w : Int) : Int := w / 8 % 1048576
def slG (w : Int) : Int := w / 8388608 % 65536
def slV (w : Int) : Int := w / 549755813888 % 4194304
theorem c_wSlot {w : Int} (h0 : 0 ≤ w) (h1 : w < 18446744073709551616) : s_dj [.int .u64 w] K σ = K (.agg #[.int .i64 (slS w), .int .i64 (slA w), .int .i64 (slG w), .int .i64 (slV w)]) σ := by
 have b : ∀ (a b c d : Int) (K : Value → Prop), xF (fBuild [(0, 1), (1, 1), (2, 1), (3, 1)] [.int .i64 0, .int .i64 0, .int .i64 0, .int .i64 0] [0, 1, 2, 3]) [.int .i64 a, .int .i64 b, .int .i64 c, .int .i64 d] K =
   K (.agg #[.int .i64 a, .int .i64 b, .int .i64 c, .int .i64 d]) := fun _ _ _ _ K => nr rfl
 simp only [s_dj, w_dj, gAlloc_s, xCs, ruS, Nat.reduceAdd, reduceIte, Int.reduceLT, Int.reduceLE, Int.reduceEq, Int.reduceNeg, Int.reduceAdd, Int.reduceSub]
 rw [and3 h0 h1]
 simp only [ruS, Nat.reduceAdd, reduceIte, Int.reduceLT, Int.reduceLE, Int.reduceEq, Int.reduceNeg, Int.reduceAdd, Int.reduceSub]
 rw [shr3 h0, and20 (by omega) (by omega)]
 simp only [ruS, Nat.reduceAdd, reduceIte, Int.reduceLT, Int.reduceLE, Int.reduceEq, Int.reduceNeg, Int.reduceAdd, Int.reduceSub]
 rw [shr23 h0, and16 (by omega) (by omega)]
 simp only [ruS, Nat.reduceAdd, reduceIte, Int.reduceLT, Int.reduceLE, Int.reduceEq, Int.reduceNeg, Int.reduceAdd, Int.reduceSub]
 rw [shr39 h0, and22 (by omega) (by omega)]
 simp only [ruS, Nat.reduceAdd, reduceIte, Int.reduceLT, Int.reduceLE, Int.reduceEq, Int.reduceNeg, Int.reduceAdd, Int.reduceSub]
 rw [IntWalk.i64_in (w % 8) (by omega), IntWalk.i64_in (w / 8 % 1048576) (by omega), IntWalk.i64_in (w / 8388608 % 65536) (by omega), IntWalk.i64_in (w / 549755813888 % 4194304) (by omega), b]
 simp only [ruS, ruL, ruX, Nat.reduceAdd, reduceIte, Int.reduceLT, Int.reduceLE, Int.reduceEq, Int.reduceNeg, Int.reduceAdd, Int.reduceSub, Nat.reduceLeDiff]
 rfl
theorem slA_bd (w : Int) : 0 ≤ slA w ∧ slA w ≤ 1048575 := by unfold slA; omega
theorem slG_bd (w : Int) : 0 ≤ slG w ∧ slG w ≤ 65535 := by unfold slG; omega
theorem slV_bd (w : Int) : 0 ≤ slV w ∧ slV w ≤ 4194303 := by unfold slV; omega
theorem sl_put {st ad ge ve : Int} (h1 : 0 ≤ st ∧ st ≤ 7) (h2 : 0 ≤ ad ∧ ad ≤ 1048575) (h3 : 0 ≤ ge ∧ ge ≤ 65535) (h4 : 0 ≤ ve ∧ ve ≤ 4194303) :
  slS (putSlot st ad ge ve) = st ∧ slA (putSlot st ad ge ve) = ad ∧ slG (putSlot st ad ge ve) = ge ∧ slV (putSlot st ad ge ve) = ve := by
 have e : putSlot st ad ge ve = st + ad * 8 + ge * 8388608 + ve * 549755813888 := by unfold putSlot; rw [cl_in h1.1 h1.2, cl_in h2.1 h2.2, cl_in h3.1 h3.2, cl_in h4.1 h4.2]
 rw [e]; unfold slS slA slG slV; omega
def bI (b : Bool) : Int := if b = true then 1 else 0
def putHead (k s t g : Int) (o : Bool) : Int := cl k 3 + cl s 65535 * 4 + cl t 65535 * 262144 + cl g 65535 * 17179869184 + bI o * 1125899906842624
theorem bI_bd (b : Bool) : 0 ≤ bI b ∧ bI b ≤ 1 := by cases b <;> decide
theorem putHead_in (k s t g : Int) (o : Bool) : 0 ≤ putHead k s t g o ∧ putHead k s t g o < 18446744073709551616 := by have := bI_bd o; unfold putHead cl; omega
def hdK (w : Int) : Int := w % 4
def hdS (w : Int) : Int := w / 4 % 65536
def hdT (w : Int) : Int := w / 262144 % 65536
def hdG (w : Int) : Int := w / 17179869184 % 65536
def hdO (w : Int) : Bool := decide (w / 1125899906842624 % 2 = 1)
theorem hd_put {k s t g : Int} {o : Bool} (h1 : 0 ≤ k ∧ k ≤ 3) (h2 : 0 ≤ s ∧ s ≤ 65535) (h3 : 0 ≤ t ∧ t ≤ 65535) (h4 : 0 ≤ g ∧ g ≤ 65535) :
  hdK (putHead k s t g o) = k ∧ hdS (putHead k s t g o) = s ∧ hdT (putHead k s t g o) = t ∧ hdG (putHead k s t g o) = g ∧ hdO (putHead k s t g o) = o := by
 have e : putHead k s t g o = k + s * 4 + t * 262144 + g * 17179869184 + bI o * 1125899906842624 := by unfold putHead; rw [cl_in h1.1 h1.2, cl_in h2.1 h2.2, cl_in h3.1 h3.2, cl_in h4.1 h4.2]
 have hb := bI_bd o
 rw [e]; unfold hdK hdS hdT hdG hdO
 refine ⟨by omega, by omega, by omega, by omega, ?_⟩
 have : (k + s * 4 + t * 262144 + g * 17179869184 + bI o * 1125899906842624) / 1125899906842624 % 2 = bI o := by omega
 rw [this]; cases o <;> rfl
theorem c_PutHead {k s t g : Int} {o : Bool} : s_dg [.agg #[.int .i64 k, .int .i64 s, .int .i64 t, .int .i64 g, .bool o]] K σ = K (.int .u64 (putHead k s t g o)) σ := by
 simp only [s_dg, w_dg, w_dg_j1, w_dg_j1b, ruS, ruL, ruX, Nat.reduceAdd, reduceIte, Int.reduceLT, Int.reduceLE, Int.reduceEq, Int.reduceNeg, Int.reduceAdd, Int.reduceSub, Nat.reduceLeDiff]
 have h1 := @cl_le k 3
 have h2 := @cl_nn k 3 (by decide)
 have h3 := @cl_le s 65535
 have h4 := @cl_nn s 65535 (by decide)
 have h5 := @cl_le t 65535
 have h6 := @cl_nn t 65535 (by decide)
 have h7 := @cl_le g 65535
 have h8 := @cl_nn g 65535 (by decide)
 rw [c_fit (by decide) (by decide), c_fit (by decide) (by decide), shl2 h4 (by omega), or2 h2 (by omega) h4 (by omega), c_fit (by decide) (by decide), shl18 h6 (by omega), or18 (by omega) (by omega) h6 (by omega),
  c_fit (by decide) (by decide), shl34 h8 (by omega), or34 (by omega) (by omega) h8 (by omega)]
 have o50 : ∀ K : Value → Prop, xF (fBin .or .no) [.int .u64 (cl k 3 + cl s 65535 * 4 + cl t 65535 * 262144 + cl g 65535 * 17179869184), .int .u64 1125899906842624] K = K (.int .u64 (cl k 3 + cl s 65535 * 4 + cl t 65535 * 262144 + cl g 65535 * 17179869184 + 1 * 1125899906842624)) :=
  fun K => or50 (c := 1) (by omega) (by omega) (by decide) (by omega)
 cases o
 ·simp only [xIfB, ruS, ruL, ruX, Nat.reduceAdd, reduceIte, Int.reduceLT, Int.reduceLE, Int.reduceEq, Int.reduceNeg, Int.reduceAdd, Int.reduceSub, Nat.reduceLeDiff]
  unfold putHead bI; simp
 ·simp only [xIfB, o50, ruS, ruL, ruX, Nat.reduceAdd, reduceIte, Int.reduceLT, Int.reduceLE, Int.reduceEq, Int.reduceNeg, Int.reduceAdd, Int.reduceSub, Nat.reduceLeDiff]
  unfold putHead bI; simp
theorem c_wHead {w : Int} (h0 : 0 ≤ w) (h1 : w < 18446744073709551616) : s_dc [.int .u64 w] K σ = K (.agg #[.int .i64 (hdK w), .int .i64 (hdS w), .int .i64 (hdT w), .int .i64 (hdG w), .bool (hdO w)]) σ := by
 have b : ∀ (a b c d : Int) (e : Bool) (K : Value → Prop), xF (fBuild [(0, 1), (1, 1), (2, 1), (3, 1), (4, 1)] [.int .i64 0, .int .i64 0, .int .i64 0, .int .i64 0, .bool false] [0, 1, 2, 3, 4]) [.int .i64 a, .int .i64 b, .int .i64 c, .int .i64 d, .bool e] K =
   K (.agg #[.int .i64 a, .int .i64 b, .int .i64 c, .int .i64 d, .bool e]) := fun _ _ _ _ _ K => nr rfl
 simp only [s_dc, w_dc, gAlloc_s, xCs, ruS, Nat.reduceAdd, reduceIte, Int.reduceLT, Int.reduceLE, Int.reduceEq, Int.reduceNeg, Int.reduceAdd, Int.reduceSub]
 rw [and2 h0 h1]
 simp only [ruS, Nat.reduceAdd, reduceIte, Int.reduceLT, Int.reduceLE, Int.reduceEq, Int.reduceNeg, Int.reduceAdd, Int.reduceSub]
 rw [shr2 h0, and16 (by omega) (by omega)]
 simp only [ruS, Nat.reduceAdd, reduceIte, Int.reduceLT, Int.reduceLE, Int.reduceEq, Int.reduceNeg, Int.reduceAdd, Int.reduceSub]
 rw [shr18 h0, and16 (by omega) (by omega)]
 simp only [ruS, Nat.reduceAdd, reduceIte, Int.reduceLT, Int.reduceLE, Int.reduceEq, Int.reduceNeg, Int.reduceAdd, Int.reduceSub]
 rw [shr34 h0, and16 (by omega) (by omega)]
 simp only [ruS, Nat.reduceAdd, reduceIte, Int.reduceLT, Int.reduceLE, Int.reduceEq, Int.reduceNeg, Int.reduceAdd, Int.reduceSub]
 rw [shr50 h0, and1 (by omega) (by omega)]
 simp only [ruS, Nat.reduceAdd, reduceIte, Int.reduceLT, Int.reduceLE, Int.reduceEq, Int.reduceNeg, Int.reduceAdd, Int.reduceSub]
 rw [IntWalk.i64_in (w % 4) (by omega), IntWalk.i64_in (w / 4 % 65536) (by omega), IntWalk.i64_in (w / 262144 % 65536) (by omega), IntWalk.i64_in (w / 17179869184 % 65536) (by omega), b]
 simp only [ruS, ruL, ruX, Nat.reduceAdd, reduceIte, Int.reduceLT, Int.reduceLE, Int.reduceEq, Int.reduceNeg, Int.reduceAdd, Int.reduceSub, Nat.reduceLeDiff]
 rfl
def putHandle (s g : Int) : Int := cl s 65535 + cl g 65535 * 65536
theorem c_PutHandle {s g : Int} : s_df [.agg #[.int .i64 s, .int .i64 g]] K σ = K (.int .u64 (putHandle s g)) σ := by
 simp only [s_df, w_df, ruS, ruL, ruX, Nat.reduceAdd, reduceIte, Int.reduceLT, Int.reduceLE, Int.reduceEq, Int.reduceNeg, Int.reduceAdd, Int.reduceSub, Nat.reduceLeDiff]
 have h1 := @cl_le s 65535
 have h2 := @cl_nn s 65535 (by decide)
 have h3 := @cl_le g 65535
 have h4 := @cl_nn g 65535 (by decide)
 rw [c_fit (by decide) (by decide), c_fit (by decide) (by decide), shl16 h4 (by omega), or16 h2 (by omega) h4 (by omega)]
 rfl
theorem c_wHandle {w : Int} (h0 : 0 ≤ w) (h1 : w < 4294967296) (h2 : 65536 ≤ w) : s_db [.int .u64 w] K σ = K (.tuple #[.agg #[.int .i64 (w % 65536), .int .i64 (w / 65536)], .bool true]) σ := by
 have b : ∀ (a b : Int) (K : Value → Prop), xF (fBuild [(0, 1), (1, 1)] [.int .i64 0, .int .i64 0] [0, 1]) [.int .i64 a, .int .i64 b] K = K (.agg #[.int .i64 a, .int .i64 b]) := fun _ _ K => nr rfl
 simp only [s_db, w_db, w_db_j1, w_db_j1b, gAlloc_s, xCs, ruS, Nat.reduceAdd, reduceIte, Int.reduceLT, Int.reduceLE, Int.reduceEq, Int.reduceNeg, Int.reduceAdd, Int.reduceSub]
 have e1 : w / 4294967296 = 0 := by omega
 have e2 : ¬ w / 65536 = 0 := by omega
 rw [shr32 h0, e1]
 simp only [ruS, Nat.reduceAdd, reduceIte, Int.reduceLT, Int.reduceLE, Int.reduceEq, Int.reduceNeg, Int.reduceAdd, Int.reduceSub]
 rw [shr16 h0]
 simp only [e2, ruS, Nat.reduceAdd, reduceIte, Int.reduceLT, Int.reduceLE, Int.reduceEq, Int.reduceNeg, Int.reduceAdd, Int.reduceSub]
 rw [and16 h0 (by omega)]
 simp only [ruS, Nat.reduceAdd, reduceIte, Int.reduceLT, Int.reduceLE, Int.reduceEq, Int.reduceNeg, Int.reduceAdd, Int.reduceSub]
 rw [shr16 h0]
 simp only [ruS, Nat.reduceAdd, reduceIte, Int.reduceLT, Int.reduceLE, Int.reduceEq, Int.reduceNeg, Int.reduceAdd, Int.reduceSub]
 rw [IntWalk.i64_in (w % 65536) (by omega), IntWalk.i64_in (w / 65536) (by omega), b]
 simp only [ruS, ruL, ruX, Nat.reduceAdd, reduceIte, Int.reduceLT, Int.reduceLE, Int.reduceEq, Int.reduceNeg, Int.reduceAdd, Int.reduceSub, Nat.reduceLeDiff]
end Go.Fl
namespace Go.Fl
open Go
set_option linter.unusedVariables false
set_option linter.unusedSimpArgs false
variable {N : Nm} {A B : Ar} {σ : Mem} {K : Value → Mem → Prop} {C : Cf} {who : Int}
def chS (w : Int) : Int := w % 4
def chC (w : Int) : Int := w / 4 % 64
def chU (w : Int) : Int := w / 256 % 1048576
def chN (w : Int) : Int := w / 268435456 % 68719476736
def putChunk (st c us sp : Int) : Int := cl st 3 + cl c 63 * 4 + cl us 1048575 * 256 + cl sp 68719476735 * 268435456
theorem putChunk_in (st c us sp : Int) : 0 ≤ putChunk st c us sp ∧ putChunk st c us sp < 18446744073709551616 := by unfold putChunk cl; omega
theorem c_PutChunk {st c us sp : Int} : s_de [.agg #[.int .i64 st, .int .i64 c, .int .i64 us, .int .i64 sp]] K σ = K (.int .u64 (putChunk st c us sp)) σ := by
 simp only [s_de, w_de, ruS, ruL, ruX, Nat.reduceAdd, reduceIte, Int.reduceLT, Int.reduceLE, Int.reduceEq, Int.reduceNeg, Int.reduceAdd, Int.reduceSub, Nat.reduceLeDiff]
 have h1 := @cl_le st 3
 have h2 := @cl_nn st 3 (by decide)
 have h3 := @cl_le c 63
 have h4 := @cl_nn c 63 (by decide)
 have h5 := @cl_le us 1048575
 have h6 := @cl_nn us 1048575 (by decide)
 have h7 := @cl_le sp 68719476735
 have h8 := @cl_nn sp 68719476735 (by decide)
 rw [c_fit (by decide) (by decide), c_fit (by decide) (by decide), shl2 h4 (by omega), or2 h2 (by omega) h4 (by omega), c_fit (by decide) (by decide), shl8 h6 (by omega), or8 (by omega) (by omega) h6 (by omega),
  c_fit (by decide) (by decide), shl28 h8 (by omega), or28 (by omega) (by omega) h8 (by omega)]
 rfl
theorem c_wChunk {w : Int} (h0 : 0 ≤ w) (h1 : w < 18446744073709551616) : s_da [.int .u64 w] K σ = K (.agg #[.int .i64 (chS w), .int .i64 (chC w), .int .i64 (chU w), .int .i64 (chN w)]) σ := by
 have b : ∀ (a b c d : Int) (K : Value → Prop), xF (fBuild [(0, 1), (1, 1), (2, 1), (3, 1)] [.int .i64 0, .int .i64 0, .int .i64 0, .int .i64 0] [0, 1, 2, 3]) [.int .i64 a, .int .i64 b, .int .i64 c, .int .i64 d] K =
   K (.agg #[.int .i64 a, .int .i64 b, .int .i64 c, .int .i64 d]) := fun _ _ _ _ K => nr rfl
 simp only [s_da, w_da, gAlloc_s, xCs, ruS, Nat.reduceAdd, reduceIte, Int.reduceLT, Int.reduceLE, Int.reduceEq, Int.reduceNeg, Int.reduceAdd, Int.reduceSub]
 rw [and2 h0 h1]
 simp only [ruS, Nat.reduceAdd, reduceIte, Int.reduceLT, Int.reduceLE, Int.reduceEq, Int.reduceNeg, Int.reduceAdd, Int.reduceSub]
 rw [shr2 h0, and6 (by omega) (by omega)]
 simp only [ruS, Nat.reduceAdd, reduceIte, Int.reduceLT, Int.reduceLE, Int.reduceEq, Int.reduceNeg, Int.reduceAdd, Int.reduceSub]
 rw [shr8 h0, and20 (by omega) (by omega)]
 simp only [ruS, Nat.reduceAdd, reduceIte, Int.reduceLT, Int.reduceLE, Int.reduceEq, Int.reduceNeg, Int.reduceAdd, Int.reduceSub]
 rw [shr28 h0, and36 (by omega) (by omega)]
 simp only [ruS, Nat.reduceAdd, reduceIte, Int.reduceLT, Int.reduceLE, Int.reduceEq, Int.reduceNeg, Int.reduceAdd, Int.reduceSub]
 rw [IntWalk.i64_in (w % 4) (by omega), IntWalk.i64_in (w / 4 % 64) (by omega), IntWalk.i64_in (w / 256 % 1048576) (by omega), IntWalk.i64_in (w / 268435456 % 68719476736) (by omega), b]
 simp only [ruS, ruL, ruX, Nat.reduceAdd, reduceIte, Int.reduceLT, Int.reduceLE, Int.reduceEq, Int.reduceNeg, Int.reduceAdd, Int.reduceSub, Nat.reduceLeDiff]
 rfl
theorem chS_bd (w : Int) : 0 ≤ chS w ∧ chS w ≤ 3 := by unfold chS; omega
theorem chC_bd (w : Int) : 0 ≤ chC w ∧ chC w ≤ 63 := by unfold chC; omega
theorem chU_bd (w : Int) : 0 ≤ chU w ∧ chU w ≤ 1048575 := by unfold chU; omega
theorem chN_bd (w : Int) : 0 ≤ chN w ∧ chN w ≤ 68719476735 := by unfold chN; omega
theorem ch_put {st c us sp : Int} (h1 : 0 ≤ st ∧ st ≤ 3) (h2 : 0 ≤ c ∧ c ≤ 63) (h3 : 0 ≤ us ∧ us ≤ 1048575) (h4 : 0 ≤ sp ∧ sp ≤ 68719476735) :
  chS (putChunk st c us sp) = st ∧ chC (putChunk st c us sp) = c ∧ chU (putChunk st c us sp) = us ∧ chN (putChunk st c us sp) = sp := by
 have e : putChunk st c us sp = st + c * 4 + us * 256 + sp * 268435456 := by unfold putChunk; rw [cl_in h1.1 h1.2, cl_in h2.1 h2.2, cl_in h3.1 h3.2, cl_in h4.1 h4.2]
 rw [e]; unfold chS chC chU chN; omega
structure Pl where
 cls : Int
 pc : Int
 opn : Int
 at' : Int
 w : Int
 sa : Int
 sc : Int
 ok : Bool
def Pl.l (p : Pl) : List Value := [.int .i64 p.cls, .int .i64 p.pc, .int .u64 p.opn, .int .i64 p.at', .int .u64 p.w, .int .i64 p.sa, .int .i64 p.sc, .bool p.ok]
def Pl.new (c : Int) : Pl := ⟨c, 0, 0, 0, 0, 0, 0, false⟩
def Pl.fresh (p : Pl) : Int := putChunk 1 p.cls 0 (chN p.w + 1)
def Pl.next (C : Cf) (p : Pl) : Bool × Pl := (decide (C.C ≤ p.at' + 1), { p with at' := p.at' + 1, pc := 3 })
def Pl.step (C : Cf) (who : Int) (A : Ar) (p : Pl) : Bool × Pl × Ar :=
 if p.pc = 0 then
  let w := A.w (2 + p.cls)
  (false, (if IntKind.i64.wrap w - 1 < 0 then { p with opn := w, at' := 0, pc := 3 } else { p with opn := w, at' := IntKind.i64.wrap w - 1, pc := 1 }), (A.by who).load (2 + p.cls))
 else if p.pc = 1 then
  let w := A.w (C.chunk p.at')
  (false, (if chS w ≠ 1 ∨ chC w ≠ p.cls ∨ C.W < chU w + roomOf p.cls then { p with w := w, at' := 0, pc := 3 } else { p with w := w, pc := 2 }), (A.by who).load (C.chunk p.at'))
 else if p.pc = 2 then
  let good := A.w (C.chunk p.at') = p.w
  (decide good, (if good then { p with pc := 0, sa := C.base p.at' + chU p.w, sc := p.at', ok := true } else { p with pc := 0 }), (A.by who).cas (C.chunk p.at') p.w (putChunk (chS p.w) (chC p.w) (chU p.w + roomOf p.cls) (chN p.w)))
 else if p.pc = 3 then
  let w := A.w (C.chunk p.at')
  let q : Pl := { p with w := w }
  if chS w ≠ 0 then ((q.next C).1, (q.next C).2, (A.by who).load (C.chunk p.at')) else (false, { q with pc := 4 }, (A.by who).load (C.chunk p.at'))
 else if p.pc = 4 then
  if A.w (C.chunk p.at') = p.w then (false, { p with pc := 5 }, (A.by who).cas (C.chunk p.at') p.w p.fresh) else ((p.next C).1, (p.next C).2, (A.by who).cas (C.chunk p.at') p.w p.fresh)
 else if p.pc = 5 then
  (false, (if A.w (2 + p.cls) = p.opn then { p with pc := 0 } else { p with pc := 6 }), (A.by who).cas (2 + p.cls) p.opn (p.at' + 1))
 else (false, { p with pc := 0 }, (A.by who).cas (C.chunk p.at') p.fresh (putChunk 0 0 0 (chN p.w + 2)))
structure Pl.fit (C : Cf) (p : Pl) : Prop where
 cls : 0 ≤ p.cls ∧ p.cls ≤ 3
 opn : 0 ≤ p.opn ∧ p.opn < 18446744073709551616
 at' : 0 ≤ p.at' ∧ p.at' < C.C
 w : 0 ≤ p.w ∧ p.w < 18446744073709551616
theorem c_PlaceNew {c : Int} (hk : ∀ id τ, σ.get id = none → τ.get id = some ⟨(Pl.new c).l, true⟩ → Ext σ τ → K (.pointer (some ⟨id, 0, none⟩)) τ) : s_cw [.int .i64 c] K σ := by
 have b : ∀ K : Value → Prop, xF (fBuild [(0, 1), (1, 1), (2, 1), (3, 1), (4, 1), (5, 2), (7, 1)] [.int .i64 0, .int .i64 0, .int .u64 0, .int .i64 0, .int .u64 0, .int .i64 0, .int .i64 0, .bool false] [0]) [.int .i64 c] K =
   K (.agg #[.int .i64 c, .int .i64 0, .int .u64 0, .int .i64 0, .int .u64 0, .int .i64 0, .int .i64 0, .bool false]) := fun K => nr rfl
 simp only [s_cw, w_cw, b, ruS, Nat.reduceAdd, reduceIte, Int.reduceLT, Int.reduceLE, Int.reduceEq, Int.reduceNeg, Int.reduceAdd, Int.reduceSub]
 exact hBox_i (cs := [_, _, _, _, _, _, _, _]) rfl hk
theorem c_Place_Spot (hA : isA N A σ) {p : Nat} {pre post : List Value} {t : Pl} (hp : σ.get p = some ⟨pre ++ t.l ++ post, true⟩) (hd : p ∉ N.l)
  (hk : K (.tuple #[if t.ok = true then .agg #[.int .i64 t.sa, .int .i64 t.sc] else .agg #[.int .i64 0, .int .i64 0], .bool t.ok]) σ) : s_cx [.pointer (some ⟨p, pre.length, none⟩)] K σ := by
 have b : ∀ K : Value → Prop, xF (fBuild [(0, 1), (1, 1)] [.int .i64 0, .int .i64 0] []) [] K = K (.agg #[.int .i64 0, .int .i64 0]) := fun K => nr rfl
 have e := hA.obj hp
 generalize hq : σ = υ at *
 rw [e] at hk ⊢
 simp only [s_cx, w_cx, w_cx_j1, w_cx_j1b, Pl.l, ldO hd, b, ruS, ruL, ruE, Nat.reduceAdd, reduceIte, Int.reduceLT, Int.reduceLE, Int.reduceEq, Int.reduceNeg, Int.reduceAdd, Int.reduceSub, Nat.reduceLeDiff, Nat.reduceLT] at hk ⊢
 cases h : t.ok <;> simp only [h, xIfB, ldO hd, ruS, ruL, ruE, Nat.reduceAdd, reduceIte, Int.reduceLT, Int.reduceLE, Int.reduceEq, Int.reduceNeg, Int.reduceAdd, Int.reduceSub, Nat.reduceLeDiff, Nat.reduceLT, sub_l] at hk ⊢ <;> exact hk
theorem c_fresh {p : Nat} {pre post : List Value} {t : Pl} (hd : p ∉ N.l) (hw : 0 ≤ t.w ∧ t.w < 18446744073709551616) :
  s_cz [.pointer (some ⟨p, pre.length, none⟩)] K (putA N A (σ.set p ⟨pre ++ t.l ++ post, true⟩)) = K (.int .u64 t.fresh) (putA N A (σ.set p ⟨pre ++ t.l ++ post, true⟩)) := by
 have b : ∀ (a b c : Int) (K : Value → Prop), xF (fBuild [(0, 1), (1, 1), (2, 1), (3, 1)] [.int .i64 0, .int .i64 0, .int .i64 0, .int .i64 0] [0, 1, 3]) [.int .i64 a, .int .i64 b, .int .i64 c] K = K (.agg #[.int .i64 a, .int .i64 b, .int .i64 0, .int .i64 c]) := fun _ _ _ K => nr rfl
 have hN := chN_bd t.w
 simp only [s_cz, w_cz, Pl.l, ldO hd, ruS, ruL, ruE, Nat.reduceAdd, reduceIte, Int.reduceLT, Int.reduceLE, Int.reduceEq, Int.reduceNeg, Int.reduceAdd, Int.reduceSub, Nat.reduceLeDiff, Nat.reduceLT]
 rw [c_wChunk hw.1 hw.2]
 simp only [ruS, ruL, ruE, Nat.reduceAdd, reduceIte, Int.reduceLT, Int.reduceLE, Int.reduceEq, Int.reduceNeg, Int.reduceAdd, Int.reduceSub, Nat.reduceLeDiff, Nat.reduceLT]
 rw [IntWalk.i64_in (chN t.w + 1) (by omega), b, c_PutChunk]
 rfl
theorem c_on {p : Nat} {pre post : List Value} {t : Pl} (hd : p ∉ N.l) (ha : 0 ≤ t.at' ∧ t.at' < 1000) :
  s_c1 [.pointer (some ⟨p, pre.length, none⟩), N.env C who] K (putA N A (σ.set p ⟨pre ++ t.l ++ post, true⟩)) = K (.bool (t.next C).1) (putA N A (σ.set p ⟨pre ++ (t.next C).2.l ++ post, true⟩)) := by
 simp only [s_c1, w_c1, Pl.l, stOi hd, ldO hd, ruS, ruL, ruE, Nat.reduceAdd, reduceIte, Int.reduceLT, Int.reduceLE, Int.reduceEq, Int.reduceNeg, Int.reduceAdd, Int.reduceSub, Nat.reduceLeDiff, Nat.reduceLT]
 rw [IntWalk.i64_in (t.at' + 1) (by omega)]
 rfl
end Go.Fl
namespace Go.Fl
open Go
set_option linter.unusedVariables false
set_option linter.unusedSimpArgs false
variable {N : Nm} {A B : Ar} {σ : Mem} {K : Value → Mem → Prop} {C : Cf} {who : Int}
theorem room_bd {k : Int} (h0 : 0 ≤ k) (h1 : k ≤ 3) : 3 ≤ roomOf k ∧ roomOf k ≤ 17 := by
 rcases (show k = 0 ∨ k = 1 ∨ k = 2 ∨ k = 3 by omega) with rfl | rfl | rfl | rfl <;> decide
theorem chunk_bd (h : C.ok) {a : Int} (h0 : 0 ≤ a) (h1 : a < C.C) (hn : C.len ≤ A.n) : 0 ≤ C.chunk a ∧ C.chunk a < A.n := by
 have := len_bd h; have := h.T; have := h.S; have := h.C
 unfold Cf.chunk at *; omega
theorem base_bd (h : C.ok) {a : Int} (h0 : 0 ≤ a) (h1 : a < 65536) : 0 ≤ C.base a ∧ C.base a ≤ 1000000000 := by
 have := h.T; have := h.S; have := h.C
 have := mulW h h0 (by omega)
 unfold Cf.base; omega
theorem gStoreH {a b c d w x y z : Int} : gStore 4 [.pointer (some ⟨5, 0, none⟩), .agg #[.int .i64 a, .int .i64 b, .int .i64 c, .int .i64 d]] [.int .i64 w, .int .i64 x, .int .i64 y, .int .i64 z] = some [.int .i64 a, .int .i64 b, .int .i64 c, .int .i64 d] := rfl
theorem sub4 {a b c d : Value} : sub [a, b, c, d] 0 4 true = some (.agg #[a, b, c, d]) := rfl
theorem c_Place_Step (hN : N.ok) (hC : C.ok) (hA : isA N A σ) {p : Nat} {pre post : List Value} {t : Pl} (hp : σ.get p = some ⟨pre ++ t.l ++ post, true⟩) (hd : p ∉ N.l)
  (hw : ∀ i, 0 ≤ A.w i ∧ A.w i < 18446744073709551616) (hn : C.len ≤ A.n) (hf : t.fit C) (ho : A.w (2 + t.cls) ≤ C.C)
  (hk : ∀ τ, isA N (t.step C who A).2.2 τ → τ.get p = some ⟨pre ++ (t.step C who A).2.1.l ++ post, true⟩ → Keep (p :: N.l) σ τ → K (.bool (t.step C who A).1) τ) :
  s_cy [.pointer (some ⟨p, pre.length, none⟩), N.env C who] K σ := by
 rw [hA.obj hp]
 have hl := len_bd hC
 have hT := hC.T
 have hS := hC.S
 have hCC := hC.C
 have hW := hC.W
 obtain ⟨f1, f2, f3, f4⟩ := hf
 have hch : C.chunk C.C = 6 + C.T + 2 * C.S + 3 * C.C := rfl
 have hcb := chunk_bd hC f3.1 f3.2 hn
 have hbb := base_bd hC f3.1 (by omega)
 have hrb := room_bd f1.1 f1.2
 have hwo := hw (2 + t.cls)
 have hwc := hw (C.chunk t.at')
 have hwr : IntKind.i64.wrap (A.w (2 + t.cls)) = A.w (2 + t.cls) := IntWalk.i64_in _ (by omega)
 simp only [s_cy, w_cy, w_cy_j1, w_cy_j1b, w_cy_j2, w_cy_j2b, Pl.l, ldO hd, ruS, ruL, ruE, Nat.reduceAdd, reduceIte, Int.reduceLT, Int.reduceLE, Int.reduceEq, Int.reduceNeg, Int.reduceAdd, Int.reduceSub, Nat.reduceLeDiff, Nat.reduceLT]
 by_cases c0 : t.pc = 0
 ·rw [if_pos c0, c_Open f1.1 (by omega), c_Load hN (by omega) (by omega)]
  simp only [stOi hd, stOb hd, ldO hd, ruS, ruL, ruE, Nat.reduceAdd, reduceIte, Int.reduceLT, Int.reduceLE, Int.reduceEq, Int.reduceNeg, Int.reduceAdd, Int.reduceSub, Nat.reduceLeDiff, Nat.reduceLT]
  rw [hwr, IntWalk.i64_in (A.w (2 + t.cls) - 1) (by omega)]
  simp only [Pl.step, if_pos c0, hwr] at hk
  by_cases q : A.w (2 + t.cls) - 1 < 0
  ·rw [if_pos q] at hk ⊢
   exact behind hN hd hk
  ·rw [if_neg q] at hk ⊢
   exact behind hN hd hk
 ·by_cases c1 : t.pc = 1
  ·rw [if_neg c0, if_pos c1, c_Chunk hC f3.1 (by omega), c_Load hN hcb.1 hcb.2]
   simp only [stOi hd, stOb hd, ldO hd, ruS, ruL, ruE, Nat.reduceAdd, reduceIte, Int.reduceLT, Int.reduceLE, Int.reduceEq, Int.reduceNeg, Int.reduceAdd, Int.reduceSub, Nat.reduceLeDiff, Nat.reduceLT]
   rw [c_wChunk hwc.1 hwc.2]
   simp only [stOi hd, ldO hd, gStoreH, Cf.v, Cf.l, ruS, ruL, ruE, Nat.reduceAdd, reduceIte, Int.reduceLT, Int.reduceLE, Int.reduceEq, Int.reduceNeg, Int.reduceAdd, Int.reduceSub, Nat.reduceLeDiff, Nat.reduceLT]
   simp only [Pl.step, if_neg c0, if_pos c1] at hk
   have hu := chU_bd (A.w (C.chunk t.at'))
   by_cases q1 : chS (A.w (C.chunk t.at')) = 1
   ·by_cases q2 : chC (A.w (C.chunk t.at')) = t.cls
    ·simp only [q1, q2, ruS, ruL, ruE, Nat.reduceAdd, reduceIte, Int.reduceLT, Int.reduceLE, Int.reduceEq, Int.reduceNeg, Int.reduceAdd, Int.reduceSub, Nat.reduceLeDiff, Nat.reduceLT]
     rw [c_Room f1.1 f1.2]
     simp only [ruS, ruL, ruE, Nat.reduceAdd, reduceIte, Int.reduceLT, Int.reduceLE, Int.reduceEq, Int.reduceNeg, Int.reduceAdd, Int.reduceSub, Nat.reduceLeDiff, Nat.reduceLT]
     rw [IntWalk.i64_in (chU (A.w (C.chunk t.at')) + roomOf t.cls) (by omega)]
     by_cases q3 : C.W < chU (A.w (C.chunk t.at')) + roomOf t.cls
     ·simp only [q3, stOi hd, ruS, ruL, ruE, Nat.reduceAdd, reduceIte, Int.reduceLT, Int.reduceLE, Int.reduceEq, Int.reduceNeg, Int.reduceAdd, Int.reduceSub, Nat.reduceLeDiff, Nat.reduceLT]
      rw [if_pos (.inr (.inr q3))] at hk
      exact behind hN hd hk
     ·simp only [q3, ruS, ruL, ruE, Nat.reduceAdd, reduceIte, Int.reduceLT, Int.reduceLE, Int.reduceEq, Int.reduceNeg, Int.reduceAdd, Int.reduceSub, Nat.reduceLeDiff, Nat.reduceLT]
      rw [if_neg (by rintro (h | h | h) <;> contradiction)] at hk
      exact behind hN hd hk
    ·simp only [q1, q2, ruS, ruL, ruE, Nat.reduceAdd, reduceIte, Int.reduceLT, Int.reduceLE, Int.reduceEq, Int.reduceNeg, Int.reduceAdd, Int.reduceSub, Nat.reduceLeDiff, Nat.reduceLT]
     rw [if_pos (.inr (.inl q2))] at hk
     exact behind hN hd hk
   ·simp only [q1, ruS, ruL, ruE, Nat.reduceAdd, reduceIte, Int.reduceLT, Int.reduceLE, Int.reduceEq, Int.reduceNeg, Int.reduceAdd, Int.reduceSub, Nat.reduceLeDiff, Nat.reduceLT]
    rw [if_pos (.inl q1)] at hk
    exact behind hN hd hk
  ·by_cases c2 : t.pc = 2
   ·rw [if_neg c0, if_neg c1, if_pos c2]
    simp only [Pl.step, if_neg c0, if_neg c1, if_pos c2] at hk
    simp only [s_c0, w_c0, ldO hd, ruS, ruL, ruE, Nat.reduceAdd, reduceIte, Int.reduceLT, Int.reduceLE, Int.reduceEq, Int.reduceNeg, Int.reduceAdd, Int.reduceSub, Nat.reduceLeDiff, Nat.reduceLT]
    rw [c_wChunk f4.1 f4.2]
    have hu := chU_bd t.w
    simp only [stOi hd, ldO hd, gStoreH, ruS, ruL, ruE, Nat.reduceAdd, reduceIte, Int.reduceLT, Int.reduceLE, Int.reduceEq, Int.reduceNeg, Int.reduceAdd, Int.reduceSub, Nat.reduceLeDiff, Nat.reduceLT]
    rw [c_Room f1.1 f1.2]
    simp only [ruS, ruL, ruE, Nat.reduceAdd, reduceIte, Int.reduceLT, Int.reduceLE, Int.reduceEq, Int.reduceNeg, Int.reduceAdd, Int.reduceSub, Nat.reduceLeDiff, Nat.reduceLT]
    rw [IntWalk.i64_in (chU t.w + roomOf t.cls) (by omega)]
    simp only [stOi hd, ldO hd, ruS, ruL, ruE, Nat.reduceAdd, reduceIte, Int.reduceLT, Int.reduceLE, Int.reduceEq, Int.reduceNeg, Int.reduceAdd, Int.reduceSub, Nat.reduceLeDiff, Nat.reduceLT]
    rw [c_Chunk hC f3.1 (by omega)]
    simp only [stOi hd, ldO hd, sub4, ruS, ruL, ruE, Nat.reduceAdd, reduceIte, Int.reduceLT, Int.reduceLE, Int.reduceEq, Int.reduceNeg, Int.reduceAdd, Int.reduceSub, Nat.reduceLeDiff, Nat.reduceLT]
    rw [c_PutChunk, c_Cas hN hcb.1 hcb.2]
    by_cases q : A.w (C.chunk t.at') = t.w
    ·have b : ∀ (a c : Int) (K : Value → Prop), xF (fBuild [(0, 1), (1, 1)] [.int .i64 0, .int .i64 0] [0, 1]) [.int .i64 a, .int .i64 c] K = K (.agg #[.int .i64 a, .int .i64 c]) := fun _ _ K => nr rfl
     simp only [q, ldO hd, ruS, ruL, ruE, Nat.reduceAdd, reduceIte, Int.reduceLT, Int.reduceLE, Int.reduceEq, Int.reduceNeg, Int.reduceAdd, Int.reduceSub, Nat.reduceLeDiff, Nat.reduceLT]
     rw [c_Base hC f3.1 (by omega)]
     simp only [ldO hd, ruS, ruL, ruE, Nat.reduceAdd, reduceIte, Int.reduceLT, Int.reduceLE, Int.reduceEq, Int.reduceNeg, Int.reduceAdd, Int.reduceSub, Nat.reduceLeDiff, Nat.reduceLT]
     rw [IntWalk.i64_in (C.base t.at' + chU t.w) (by omega), b]
     simp only [stOa hd, stOb hd, q, ruS, ruL, ruE, Nat.reduceAdd, reduceIte, Int.reduceLT, Int.reduceLE, Int.reduceEq, Int.reduceNeg, Int.reduceAdd, Int.reduceSub, Nat.reduceLeDiff, Nat.reduceLT] at hk ⊢
     exact behind hN hd hk
    ·simp only [q, ruS, ruL, ruE, Nat.reduceAdd, reduceIte, Int.reduceLT, Int.reduceLE, Int.reduceEq, Int.reduceNeg, Int.reduceAdd, Int.reduceSub, Nat.reduceLeDiff, Nat.reduceLT] at hk ⊢
     exact behind hN hd hk
   ·by_cases c3 : t.pc = 3
    ·rw [if_neg c0, if_neg c1, if_neg c2, if_pos c3, c_Chunk hC f3.1 (by omega), c_Load hN hcb.1 hcb.2]
     simp only [Pl.step, if_neg c0, if_neg c1, if_neg c2, if_pos c3] at hk
     simp only [stOi hd, stOb hd, ldO hd, ruS, ruL, ruE, Nat.reduceAdd, reduceIte, Int.reduceLT, Int.reduceLE, Int.reduceEq, Int.reduceNeg, Int.reduceAdd, Int.reduceSub, Nat.reduceLeDiff, Nat.reduceLT]
     rw [c_wChunk hwc.1 hwc.2]
     simp only [stOi hd, ldO hd, ruS, ruL, ruE, Nat.reduceAdd, reduceIte, Int.reduceLT, Int.reduceLE, Int.reduceEq, Int.reduceNeg, Int.reduceAdd, Int.reduceSub, Nat.reduceLeDiff, Nat.reduceLT]
     by_cases q : chS (A.w (C.chunk t.at')) = 0
     ·simp only [q, ruS, ruL, ruE, Nat.reduceAdd, reduceIte, Int.reduceLT, Int.reduceLE, Int.reduceEq, Int.reduceNeg, Int.reduceAdd, Int.reduceSub, Nat.reduceLeDiff, Nat.reduceLT]
      rw [if_neg (fun h => h q)] at hk
      exact behind hN hd hk
     ·simp only [q, ruS, ruL, ruE, Nat.reduceAdd, reduceIte, Int.reduceLT, Int.reduceLE, Int.reduceEq, Int.reduceNeg, Int.reduceAdd, Int.reduceSub, Nat.reduceLeDiff, Nat.reduceLT]
      rw [if_pos q] at hk
      exact Eq.mpr (c_on (K := K) (t := ⟨t.cls, t.pc, t.opn, t.at', A.w (C.chunk t.at'), t.sa, t.sc, t.ok⟩) hd ⟨f3.1, by dsimp only; omega⟩) (behind hN hd hk)
    ·by_cases c4 : t.pc = 4
     ·rw [if_neg c0, if_neg c1, if_neg c2, if_neg c3, if_pos c4, c_Chunk hC f3.1 (by omega)]
      simp only [Pl.step, if_neg c0, if_neg c1, if_neg c2, if_neg c3, if_pos c4] at hk
      simp only [stOi hd, stOb hd, ldO hd, ruS, ruL, ruE, Nat.reduceAdd, reduceIte, Int.reduceLT, Int.reduceLE, Int.reduceEq, Int.reduceNeg, Int.reduceAdd, Int.reduceSub, Nat.reduceLeDiff, Nat.reduceLT]
      refine Eq.mpr (c_fresh (t := t) hd f4) ?_
      rw [c_Cas hN hcb.1 hcb.2]
      by_cases q : A.w (C.chunk t.at') = t.w
      ·simp only [q, stOi hd, ldO hd, Pl.l, ruS, ruL, ruE, Nat.reduceAdd, reduceIte, Int.reduceLT, Int.reduceLE, Int.reduceEq, Int.reduceNeg, Int.reduceAdd, Int.reduceSub, Nat.reduceLeDiff, Nat.reduceLT] at hk ⊢
       exact behind hN hd hk
      ·simp only [q, ruS, ruL, ruE, Nat.reduceAdd, reduceIte, Int.reduceLT, Int.reduceLE, Int.reduceEq, Int.reduceNeg, Int.reduceAdd, Int.reduceSub, Nat.reduceLeDiff, Nat.reduceLT] at hk ⊢
       exact Eq.mpr (c_on (K := K) (t := t) hd ⟨f3.1, by omega⟩) (behind hN hd hk)
     ·by_cases c5 : t.pc = 5
      ·rw [if_neg c0, if_neg c1, if_neg c2, if_neg c3, if_neg c4, if_pos c5]
       simp only [Pl.step, if_neg c0, if_neg c1, if_neg c2, if_neg c3, if_neg c4, if_pos c5] at hk
       simp only [stOi hd, ldO hd, ruS, ruL, ruE, Nat.reduceAdd, reduceIte, Int.reduceLT, Int.reduceLE, Int.reduceEq, Int.reduceNeg, Int.reduceAdd, Int.reduceSub, Nat.reduceLeDiff, Nat.reduceLT]
       rw [c_Open f1.1 (by omega)]
       simp only [stOi hd, ldO hd, ruS, ruL, ruE, Nat.reduceAdd, reduceIte, Int.reduceLT, Int.reduceLE, Int.reduceEq, Int.reduceNeg, Int.reduceAdd, Int.reduceSub, Nat.reduceLeDiff, Nat.reduceLT]
       rw [IntWalk.i64_in (t.at' + 1) (by omega), show IntKind.u64.wrap (t.at' + 1) = t.at' + 1 from IntWalk.u64_in _ (by omega), c_Cas hN (by omega) (by omega)]
       by_cases q : A.w (2 + t.cls) = t.opn
       ·simp only [q, stOi hd, ldO hd, ruS, ruL, ruE, Nat.reduceAdd, reduceIte, Int.reduceLT, Int.reduceLE, Int.reduceEq, Int.reduceNeg, Int.reduceAdd, Int.reduceSub, Nat.reduceLeDiff, Nat.reduceLT] at hk ⊢
        exact behind hN hd hk
       ·simp only [q, ruS, ruL, ruE, Nat.reduceAdd, reduceIte, Int.reduceLT, Int.reduceLE, Int.reduceEq, Int.reduceNeg, Int.reduceAdd, Int.reduceSub, Nat.reduceLeDiff, Nat.reduceLT] at hk ⊢
        exact behind hN hd hk
      ·rw [if_neg c0, if_neg c1, if_neg c2, if_neg c3, if_neg c4, if_neg c5, c_wChunk f4.1 f4.2]
       simp only [Pl.step, if_neg c0, if_neg c1, if_neg c2, if_neg c3, if_neg c4, if_neg c5] at hk
       have hN := chN_bd t.w
       have b : ∀ (a : Int) (K : Value → Prop), xF (fBuild [(0, 1), (1, 1), (2, 1), (3, 1)] [.int .i64 0, .int .i64 0, .int .i64 0, .int .i64 0] [3]) [.int .i64 a] K = K (.agg #[.int .i64 0, .int .i64 0, .int .i64 0, .int .i64 a]) := fun _ K => nr rfl
       simp only [ruS, ruL, ruE, Nat.reduceAdd, reduceIte, Int.reduceLT, Int.reduceLE, Int.reduceEq, Int.reduceNeg, Int.reduceAdd, Int.reduceSub, Nat.reduceLeDiff, Nat.reduceLT]
       rw [IntWalk.i64_in (chN t.w + 2) (by omega), b, c_PutChunk]
       simp only [stOi hd, ldO hd, ruS, ruL, ruE, Nat.reduceAdd, reduceIte, Int.reduceLT, Int.reduceLE, Int.reduceEq, Int.reduceNeg, Int.reduceAdd, Int.reduceSub, Nat.reduceLeDiff, Nat.reduceLT]
       rw [c_Chunk hC f3.1 (by omega)]
       refine Eq.mpr (c_fresh (t := t) hd f4) ?_
       rw [c_Cas ‹N.ok› hcb.1 hcb.2]
       simp only [stOi hd, ldO hd, Pl.l, ruS, ruL, ruE, Nat.reduceAdd, reduceIte, Int.reduceLT, Int.reduceLE, Int.reduceEq, Int.reduceNeg, Int.reduceAdd, Int.reduceSub, Nat.reduceLeDiff, Nat.reduceLT] at hk ⊢
       exact behind ‹N.ok› hd hk
end Go.Fl
