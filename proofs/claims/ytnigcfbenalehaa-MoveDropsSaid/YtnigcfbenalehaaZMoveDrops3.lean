/- What the claim leans on, part 3: own readings of the program's functions, what they come to, laws of them. No condition. -/
import Derived.Test.YtnigcfbenalehaaZMoveDrops2
namespace Go.Fl
open Go Go.Proofs
set_option linter.unusedVariables false
set_option maxRecDepth 10000000
def w_b7_j1b (K : Value → Mem → Prop) (σ : Mem) : Prop :=
xF fMove [.bool false] fun v4 =>
K v4 σ
def w_b7_j1 (K : Value → Mem → Prop) (ts : List Value) (ls : List (List Value)) (σ : Mem) : Prop := w_b7_j1b K σ
def w_b7 (a0 a1 : Value) (K : Value → Mem → Prop) (σ : Mem) : Prop :=
xC (gBox 9 [a1] []) fun c3 =>
xF fMove [.bool false] fun v4 =>
xF fMove [a0] fun v6 =>
xF fNil [v6] fun v7 =>
xF (fFld 1) [v7] fun v8 =>
xF (fFld 1) [v8] fun v9 =>
hLoad 1 false [v9] (fun v10 σ =>
s_be [v10] (fun v11 σ =>
s_bo [v11] (fun v12 σ =>
xF fMove [v12] fun v5 =>
xJoin (w_b7_j1 K) fun J1 =>
xF fMove [a0] fun v13 =>
xF fNil [v13] fun v14 =>
xF (fFld 6) [v14] fun v15 =>
hLoad 1 false [v15] (fun v16 σ =>
xF (fBin .eql .no) [v16, .int .i64 8] fun v27 =>
xF fMove [v27] fun v26 =>
xIf v26
 (xO (gLoad 9 true [(locP 3)] c3) fun v28 =>
xF fMove [a0] fun v29 =>
xF fNil [v29] fun v30 =>
xF (fFld 9) [v30] fun v31 =>
xF (fFld 0) [v31] fun v32 =>
hLoad 1 false [v32] (fun v33 σ =>
xF fMove [a0] fun v34 =>
s_b8 [v34, .int .i64 2] (fun v35 σ =>
s_bj [v28, v33, v35] (fun v36 σ =>
xF fMove [a0] fun v37 =>
xF fNil [v37] fun v38 =>
xF (fFld 6) [v38] fun v39 =>
hStore 1 [v39, .int .i64 9] (fun _v σ =>
J1 [] [] σ) σ) σ) σ) σ)
 (xF (fBin .eql .no) [v16, .int .i64 9] fun v41 =>
xF fMove [v41] fun v40 =>
xIf v40
 (xO (gLoad 9 true [(locP 3)] c3) fun v42 =>
xF (fFld 0) [(locP 3)] fun v43 =>
xO (gLoad 7 true [v43] c3) fun v44 =>
xF fMove [a0] fun v45 =>
xF fNil [v45] fun v46 =>
xF (fFld 9) [v46] fun v47 =>
xF (fFld 1) [v47] fun v48 =>
hLoad 1 false [v48] (fun v49 σ =>
s_bd [v44, v49] (fun v50 σ =>
xF (fBin .add .no) [v50, .int .i64 1] fun v51 =>
xF fMove [v5] fun v52 =>
s_bf [v42, v51, v52] (fun v53 σ =>
xF fMove [a0] fun v54 =>
xF fNil [v54] fun v55 =>
xF (fFld 6) [v55] fun v56 =>
hStore 1 [v56, .int .i64 10] (fun _v σ =>
J1 [] [] σ) σ) σ) σ) σ)
 (xF (fBin .eql .no) [v16, .int .i64 10] fun v58 =>
xF fMove [v58] fun v57 =>
xIf v57
 (xO (gLoad 9 true [(locP 3)] c3) fun v59 =>
xF (fFld 0) [(locP 3)] fun v60 =>
xO (gLoad 7 true [v60] c3) fun v61 =>
xF (fFld 0) [(locP 3)] fun v62 =>
xO (gLoad 7 true [v62] c3) fun v63 =>
xF fMove [a0] fun v64 =>
xF fNil [v64] fun v65 =>
xF (fFld 0) [v65] fun v66 =>
hLoad 1 false [v66] (fun v67 σ =>
s_bm [v63, v67] (fun v68 σ =>
s_bd [v61, v68] (fun v69 σ =>
xF (fBin .add .no) [v69, .int .i64 1] fun v70 =>
xF fMove [v5] fun v71 =>
xF (fUn .neg) [v71] fun v72 =>
s_bf [v59, v70, v72] (fun v73 σ =>
xF fMove [a0] fun v74 =>
xF fNil [v74] fun v75 =>
xF (fFld 15) [v75] fun v76 =>
hStore 1 [v76, .int .i64 1] (fun _v σ =>
xF fMove [.bool true] fun v4 =>
K v4 σ) σ) σ) σ) σ) σ)
 (xO (gLoad 9 true [(locP 3)] c3) fun v17 =>
xF fMove [a0] fun v18 =>
xF fNil [v18] fun v19 =>
xF (fFld 9) [v19] fun v20 =>
xF (fFld 0) [v20] fun v21 =>
hLoad 1 false [v21] (fun v22 σ =>
xF fMove [a0] fun v23 =>
s_b8 [v23, .int .i64 3] (fun v24 σ =>
s_bj [v17, v22, v24] (fun v25 σ =>
xF fMove [.bool true] fun v4 =>
K v4 σ) σ) σ) σ)))) σ) σ) σ) σ
def s_b7 : Spec := fun args K σ => match args with
  | [a0, a1] => w_b7 a0 a1 K σ
  | _ => False
noncomputable def cx_b7 : Cx := { P := Try.prog, T := [(31, .write, s_be), (30, .none, s_bo), (47, .read, s_b8), (46, .write, s_bj), (21, .none, s_bd), (85, .write, s_bf), (22, .none, s_bm)], loc := [(3, 3), (43, 3), (60, 3), (62, 3)], eqt := [], n := 77, keep := [(1000016, [], [])] }
theorem q_b7 : FnS cx_b7 Try.f55 (bodyOf Try.f55) 2 = s_b7 := by
  funext args K σ
  rcases args with _ | ⟨a0, _ | ⟨a1, _ | ⟨b, r⟩⟩⟩ <;> kernel_rfl
theorem e_b7 : Entry Try.prog 55 .write s_b7 :=
  entry (C := cx_b7) (TOk.cons e_be (TOk.cons e_bo (TOk.cons e_b8 (TOk.cons e_bj (TOk.cons e_bd (TOk.cons e_bf (TOk.cons e_bm TOk.nil))))))) mixedOk Try.func55 (by kernel_rfl) (by kernel_rfl) (by kernel_rfl) q_b7
def xl_b7 : List (Nat × Nat) := [(3, 3), (43, 3), (60, 3), (62, 3)]
noncomputable def xc_b7 : XC XN :=
(.seq none
 (.reg [zy xl_b7 (.lb 3 9) 3 [.tmp 1],
  zc 4 (.bool false)])
 (.seq none
 (.reg [zM 6 0,
  zN 7 6,
  zF 1 8 7,
  zF 1 9 8,
  zL 10 9,
  zk .write s_be v_be 11 [.tmp 10],
  zk .none s_bo v_bo 12 [.tmp 11],
  zM 5 12])
 (.seq (some ([], []))
 (.seq none
 (.reg [zM 13 0,
  zN 14 13,
  zF 6 15 14,
  zL 16 15])
 (.block 0
 (.seq none
 (.reg [zb .eql rEql 27 [.tmp 16, .const (.int .i64 8)],
  zM 26 27])
 (.cond (.tmp 26)
 (.seq none
 (.reg [zy xl_b7 (.lr 3 9 true) 28 [.tmp 3],
  zM 29 0,
  zN 30 29,
  zF 9 31 30,
  zF 0 32 31,
  zL 33 32,
  zM 34 0,
  zk .read s_b8 v_b8 35 [.tmp 34, .const (.int .i64 2)],
  zk .write s_bj v_bj 36 [.tmp 28, .tmp 33, .tmp 35]])
 (.reg [zM 37 0,
  zN 38 37,
  zF 6 39 38,
  zS [.tmp 39, .const (.int .i64 9)]]))
 (.seq none
 (.reg [zb .eql rEql 41 [.tmp 16, .const (.int .i64 9)],
  zM 40 41])
 (.cond (.tmp 40)
 (.seq none
 (.reg [zy xl_b7 (.lr 3 9 true) 42 [.tmp 3],
  zF 0 43 3,
  zy xl_b7 (.lr 3 7 true) 44 [.tmp 43],
  zM 45 0,
  zN 46 45,
  zF 9 47 46,
  zF 1 48 47,
  zL 49 48,
  zk .none s_bd v_bd 50 [.tmp 44, .tmp 49],
  zb .add rAdd 51 [.tmp 50, .const (.int .i64 1)],
  zM 52 5,
  zk .write s_bf v_bf 53 [.tmp 42, .tmp 51, .tmp 52]])
 (.reg [zM 54 0,
  zN 55 54,
  zF 6 56 55,
  zS [.tmp 56, .const (.int .i64 10)]]))
 (.seq none
 (.reg [zb .eql rEql 58 [.tmp 16, .const (.int .i64 10)],
  zM 57 58])
 (.cond (.tmp 57)
 (.seq none
 (.reg [zy xl_b7 (.lr 3 9 true) 59 [.tmp 3],
  zF 0 60 3,
  zy xl_b7 (.lr 3 7 true) 61 [.tmp 60],
  zF 0 62 3,
  zy xl_b7 (.lr 3 7 true) 63 [.tmp 62],
  zM 64 0,
  zN 65 64,
  zF 0 66 65,
  zL 67 66,
  zk .none s_bm v_bm 68 [.tmp 63, .tmp 67],
  zk .none s_bd v_bd 69 [.tmp 61, .tmp 68],
  zb .add rAdd 70 [.tmp 69, .const (.int .i64 1)],
  zM 71 5,
  zy xl_b7 (.f (fUn .neg)) 72 [.tmp 71],
  zk .write s_bf v_bf 73 [.tmp 59, .tmp 70, .tmp 72]])
 (.seq none
 (.reg [zM 74 0,
  zN 75 74,
  zF 15 76 75,
  zS [.tmp 76, .const (.int .i64 1)]])
 (.seq none
 (.reg [zc 4 (.bool true)])
 .ret)))
 (.seq none
 (.reg [zy xl_b7 (.lr 3 9 true) 17 [.tmp 3],
  zM 18 0,
  zN 19 18,
  zF 9 20 19,
  zF 0 21 20,
  zL 22 21,
  zM 23 0,
  zk .read s_b8 v_b8 24 [.tmp 23, .const (.int .i64 3)],
  zk .write s_bj v_bj 25 [.tmp 17, .tmp 22, .tmp 24]])
 (.seq none
 (.reg [zc 4 (.bool true)])
 .ret))))))))))
 (.seq none
 (.reg [zc 4 (.bool false)])
 .ret))))
noncomputable def v_b7 : EvF := evFn 2 xc_b7 [.t 4]
theorem xt_b7 : toC cx_b7 (bodyOf Try.f55) = some (xc_b7.map XN.sm) := by kernel_rfl
theorem xr_b7 : toR cx_b7 Try.f55.results.toList = some [.t 4] := by kernel_rfl
theorem xo_b7 : xc_b7.ok xl_b7 := ⟨⟨rAny_ok (trivial), rMove_ok, trivial⟩, ⟨⟨rMove_ok, rNil_ok, rFld_ok _, rFld_ok _, rLoad1_ok, rCall_ok ve_be, rCall_ok ve_bo, rMove_ok, trivial⟩, ⟨⟨⟨rMove_ok, rNil_ok, rFld_ok _, rLoad1_ok, trivial⟩, ⟨⟨rEql_ok, rMove_ok, trivial⟩, ⟨⟨⟨rAny_ok (trivial), rMove_ok, rNil_ok, rFld_ok _, rFld_ok _, rLoad1_ok, rMove_ok, rCall_ok ve_b8, rCall_ok ve_bj, trivial⟩, ⟨rMove_ok, rNil_ok, rFld_ok _, rStore1_ok, trivial⟩⟩, ⟨⟨rEql_ok, rMove_ok, trivial⟩, ⟨⟨⟨rAny_ok (trivial), rFld_ok _, rAny_ok (trivial), rMove_ok, rNil_ok, rFld_ok _, rFld_ok _, rLoad1_ok, rCall_ok ve_bd, rAdd_ok, rMove_ok, rCall_ok ve_bf, trivial⟩, ⟨rMove_ok, rNil_ok, rFld_ok _, rStore1_ok, trivial⟩⟩, ⟨⟨rEql_ok, rMove_ok, trivial⟩, ⟨⟨⟨rAny_ok (trivial), rFld_ok _, rAny_ok (trivial), rFld_ok _, rAny_ok (trivial), rMove_ok, rNil_ok, rFld_ok _, rLoad1_ok, rCall_ok ve_bm, rCall_ok ve_bd, rAdd_ok, rMove_ok, rAny_ok (eqv_un _), rCall_ok ve_bf, trivial⟩, ⟨⟨rMove_ok, rNil_ok, rFld_ok _, rStore1_ok, trivial⟩, ⟨⟨rMove_ok, trivial⟩, trivial⟩⟩⟩, ⟨⟨rAny_ok (trivial), rMove_ok, rNil_ok, rFld_ok _, rFld_ok _, rLoad1_ok, rMove_ok, rCall_ok ve_b8, rCall_ok ve_bj, trivial⟩, ⟨⟨rMove_ok, trivial⟩, trivial⟩⟩⟩⟩⟩⟩⟩⟩⟩, ⟨⟨rMove_ok, trivial⟩, trivial⟩⟩⟩⟩
theorem ve_b7 : EvOk s_b7 v_b7 := EvOk.of (evFn_sound (C := cx_b7) xt_b7 xr_b7 xo_b7) q_b7
attribute [irreducible] w_b7_j1b w_b7_j1 w_b7 s_b7
def w_b5_j1b (K : Value → Mem → Prop) (σ : Mem) : Prop :=
xF fMove [.bool false] fun v4 =>
K v4 σ
def w_b5_j1 (K : Value → Mem → Prop) (ts : List Value) (ls : List (List Value)) (σ : Mem) : Prop := w_b5_j1b K σ
def w_b5_j2b (K : Value → Mem → Prop) (J1 : List Value → List (List Value) → Mem → Prop) (v0 v128 : Value) (σ : Mem) : Prop :=
xIf v128
 (xF fMove [v0] fun v129 =>
xF fNil [v129] fun v130 =>
xF (fFld 6) [v130] fun v131 =>
hStore 1 [v131, .int .i64 6] (fun _v σ =>
J1 [] [] σ) σ)
 (J1 [] [] σ)
def w_b5_j2 (K : Value → Mem → Prop) (J1 : List Value → List (List Value) → Mem → Prop) (ts : List Value) (ls : List (List Value)) (σ : Mem) : Prop := w_b5_j2b K J1 (ts.getD 0 poison) (ts.getD 1 poison) σ
def w_b5 (a0 a1 : Value) (K : Value → Mem → Prop) (σ : Mem) : Prop :=
xC (gBox 9 [a1] []) fun c3 =>
xF fMove [.bool false] fun v4 =>
xJoin (w_b5_j1 K) fun J1 =>
xF fMove [a0] fun v7 =>
xF fNil [v7] fun v8 =>
xF (fFld 6) [v8] fun v9 =>
hLoad 1 false [v9] (fun v10 σ =>
xF (fBin .eql .no) [v10, .int .i64 0] fun v15 =>
xF fMove [v15] fun v14 =>
xIf v14
 (xF fMove [a0] fun v16 =>
xO (gLoad 9 true [(locP 3)] c3) fun v17 =>
s_ca [v16, v17] (fun v18 σ =>
xF fMove [v18] fun v4 =>
K v4 σ) σ)
 (xF (fBin .eql .no) [v10, .int .i64 1] fun v20 =>
xF fMove [v20] fun v19 =>
xIf v19
 (xF fMove [a0] fun v21 =>
xF fNil [v21] fun v22 =>
xF (fFld 8) [v22] fun v23 =>
hLoad 1 false [v23] (fun v24 σ =>
xO (gLoad 9 true [(locP 3)] c3) fun v25 =>
s_cg [v24, v25] (fun v26 σ =>
xIf v26
 (xF fMove [a0] fun v28 =>
xF fMove [a0] fun v29 =>
xF fMove [a0] fun v30 =>
xF fNil [v30] fun v31 =>
xF (fFld 8) [v31] fun v32 =>
hLoad 1 false [v32] (fun v33 σ =>
s_cf [v33] (fun v34 σ =>
xF fMove [v34] fun v27 =>
xF (fExt 0) [v27] fun v35 =>
xF (fExt 1) [v27] fun v36 =>
xF fNil [v28] fun v37 =>
xF (fFld 9) [v37] fun v38 =>
hStore 2 [v38, v35] (fun _v σ =>
xF fNil [v29] fun v39 =>
xF (fFld 11) [v39] fun v40 =>
hStore 1 [v40, v36] (fun _v σ =>
xF fMove [a0] fun v41 =>
xF fNil [v41] fun v42 =>
xF (fFld 6) [v42] fun v43 =>
hStore 1 [v43, .int .i64 2] (fun _v σ =>
xF fMove [a0] fun v44 =>
xF fNil [v44] fun v45 =>
xF (fFld 11) [v45] fun v46 =>
hLoad 1 false [v46] (fun v47 σ =>
xF (fUn .not) [v47] fun v48 =>
xIf v48
 (xF fMove [a0] fun v49 =>
s_b9 [v49, .int .i64 4] (fun v50 σ =>
xF fMove [v50] fun v4 =>
K v4 σ) σ)
 (J1 [] [] σ)) σ) σ) σ) σ) σ) σ)
 (J1 [] [] σ)) σ) σ)
 (xF (fBin .eql .no) [v10, .int .i64 2] fun v52 =>
xF fMove [v52] fun v51 =>
xIf v51
 (xO (gLoad 9 true [(locP 3)] c3) fun v53 =>
xF fMove [a0] fun v54 =>
xF fNil [v54] fun v55 =>
xF (fFld 9) [v55] fun v56 =>
xF (fFld 0) [v56] fun v57 =>
hLoad 1 false [v57] (fun v58 σ =>
xF fMove [a0] fun v59 =>
s_b8 [v59, .int .i64 1] (fun v60 σ =>
s_bj [v53, v58, v60] (fun v61 σ =>
xF fMove [a0] fun v62 =>
xF fNil [v62] fun v63 =>
xF (fFld 6) [v63] fun v64 =>
hStore 1 [v64, .int .i64 3] (fun _v σ =>
J1 [] [] σ) σ) σ) σ) σ)
 (xF (fBin .eql .no) [v10, .int .i64 3] fun v66 =>
xF fMove [v66] fun v65 =>
xIf v65
 (xF fMove [a0] fun v67 =>
xF fMove [a0] fun v68 =>
xF fNil [v67] fun v69 =>
xF (fFld 12) [v69] fun v70 =>
hStore 1 [v70, .int .i64 0] (fun _v σ =>
xF fNil [v68] fun v71 =>
xF (fFld 6) [v71] fun v72 =>
hStore 1 [v72, .int .i64 0] (fun _v σ =>
xO (gLoad 9 true [(locP 3)] c3) fun v73 =>
xF fMove [a0] fun v74 =>
xO (gLoad 9 true [(locP 3)] c3) fun v75 =>
s_cc [v74, v75] (fun v76 σ =>
xF fMove [a0] fun v77 =>
xF fNil [v77] fun v78 =>
xF (fFld 7) [v78] fun v79 =>
hLoad 1 false [v79] (fun v80 σ =>
xF fMove [a0] fun v81 =>
xF fMove [a0] fun v82 =>
xF fNil [v82] fun v83 =>
xF (fFld 0) [v83] fun v84 =>
hLoad 1 false [v84] (fun v85 σ =>
s_b6 [v81, .int .i64 2, v85, .int .i64 0] (fun v86 σ =>
s_bg [v73, v76, v80, v86] (fun v87 σ =>
xIf v87
 (xF fMove [a0] fun v88 =>
xF fNil [v88] fun v89 =>
xF (fFld 6) [v89] fun v90 =>
hStore 1 [v90, .int .i64 4] (fun _v σ =>
J1 [] [] σ) σ)
 (J1 [] [] σ)) σ) σ) σ) σ) σ) σ) σ)
 (xF (fBin .eql .no) [v10, .int .i64 4] fun v92 =>
xF fMove [v92] fun v91 =>
xIf v91
 (xF fMove [a0] fun v93 =>
xO (gLoad 9 true [(locP 3)] c3) fun v94 =>
xF fMove [a0] fun v95 =>
xF fNil [v95] fun v96 =>
xF (fFld 0) [v96] fun v97 =>
hLoad 1 false [v97] (fun v98 σ =>
xF (fBin .add .no) [v98, .int .i64 1] fun v99 =>
xF fMove [a0] fun v100 =>
xF fNil [v100] fun v101 =>
xF (fFld 12) [v101] fun v102 =>
hLoad 1 false [v102] (fun v103 σ =>
xF (fBin .add .no) [v99, v103] fun v104 =>
s_bh [v94, v104] (fun v105 σ =>
xF fNil [v93] fun v106 =>
xF (fFld 13) [v106] fun v107 =>
hStore 1 [v107, v105] (fun _v σ =>
xF fMove [a0] fun v108 =>
xF fNil [v108] fun v109 =>
xF (fFld 6) [v109] fun v110 =>
hStore 1 [v110, .int .i64 5] (fun _v σ =>
xF fMove [a0] fun v111 =>
xF fNil [v111] fun v112 =>
xF (fFld 13) [v112] fun v113 =>
hLoad 1 false [v113] (fun v114 σ =>
s_cp [v114] (fun v115 σ =>
xC (gStore 3 [(locP 5), v115] [.int .i64 0, .bool false, .int .i64 0]) fun c5 =>
xJoin (w_b5_j2 K J1) fun J2 =>
xF (fFld 1) [(locP 5)] fun v116 =>
xO (gLoad 1 false [v116] c5) fun v117 =>
xF fMove [v117] fun v118 =>
xIf v118
 (xF (fFld 2) [(locP 5)] fun v119 =>
xO (gLoad 1 false [v119] c5) fun v120 =>
xF fMove [a0] fun v121 =>
xF fNil [v121] fun v122 =>
xF (fFld 7) [v122] fun v123 =>
hLoad 1 false [v123] (fun v124 σ =>
s_cz [v124] (fun v125 σ =>
xF (fFldV 3 1 false) [v125] fun v126 =>
xF (fBin .eql .no) [v120, v126] fun v127 =>
xF fPick [.bool true, v127, .bool false] fun v128 =>
J2 [a0, v128] [] σ) σ) σ)
 (xF fPick [.bool false, undef, .bool false] fun v128 =>
J2 [a0, v128] [] σ)) σ) σ) σ) σ) σ) σ) σ)
 (xF (fBin .eql .no) [v10, .int .i64 5] fun v133 =>
xF fMove [v133] fun v132 =>
xIf v132
 (xF fMove [a0] fun v134 =>
xF fNil [v134] fun v135 =>
xF (fFld 6) [v135] fun v136 =>
hStore 1 [v136, .int .i64 4] (fun _v σ =>
xF fMove [a0] fun v137 =>
xF fNil [v137] fun v138 =>
xF (fFld 13) [v138] fun v139 =>
hLoad 1 false [v139] (fun v140 σ =>
s_cp [v140] (fun v141 σ =>
xF (fFldV 0 1 false) [v141] fun v142 =>
xF fMove [a0] fun v143 =>
xF fNil [v143] fun v144 =>
xF (fFld 7) [v144] fun v145 =>
hLoad 1 false [v145] (fun v146 σ =>
s_cz [v146] (fun v147 σ =>
xF (fFldV 3 1 false) [v147] fun v148 =>
xF (fBuild [(0, 1), (1, 1), (2, 1)] [.int .i64 0, .bool false, .int .i64 0] [0, 1, 2]) [v142, .bool true, v148] fun v149 =>
xC (gStore 3 [(locP 6), v149] [.int .i64 0, .bool false, .int .i64 0]) fun c6 =>
xO (gLoad 9 true [(locP 3)] c3) fun v150 =>
xF fMove [a0] fun v151 =>
xF fNil [v151] fun v152 =>
xF (fFld 0) [v152] fun v153 =>
hLoad 1 false [v153] (fun v154 σ =>
xF (fBin .add .no) [v154, .int .i64 1] fun v155 =>
xF fMove [a0] fun v156 =>
xF fNil [v156] fun v157 =>
xF (fFld 12) [v157] fun v158 =>
hLoad 1 false [v158] (fun v159 σ =>
xF (fBin .add .no) [v155, v159] fun v160 =>
xF fMove [a0] fun v161 =>
xF fNil [v161] fun v162 =>
xF (fFld 13) [v162] fun v163 =>
hLoad 1 false [v163] (fun v164 σ =>
xO (gLoad 3 true [(locP 6)] c6) fun v165 =>
s_ct [v165] (fun v166 σ =>
s_bg [v150, v160, v164, v166] (fun v167 σ =>
xIf v167
 (xF fMove [a0] fun v168 =>
xF fNil [v168] fun v169 =>
xF (fFld 6) [v169] fun v170 =>
hStore 1 [v170, .int .i64 6] (fun _v σ =>
J1 [] [] σ) σ)
 (J1 [] [] σ)) σ) σ) σ) σ) σ) σ) σ) σ) σ) σ)
 (xF (fBin .eql .no) [v10, .int .i64 6] fun v172 =>
xF fMove [v172] fun v171 =>
xIf v171
 (xO (gLoad 9 true [(locP 3)] c3) fun v173 =>
xF fMove [a0] fun v174 =>
xF fNil [v174] fun v175 =>
xF (fFld 9) [v175] fun v176 =>
xF (fFld 0) [v176] fun v177 =>
hLoad 1 false [v177] (fun v178 σ =>
xF (fBin .add .no) [v178, .int .i64 1] fun v179 =>
xF fMove [a0] fun v180 =>
xF fNil [v180] fun v181 =>
xF (fFld 12) [v181] fun v182 =>
hLoad 1 false [v182] (fun v183 σ =>
xF (fBin .add .no) [v179, v183] fun v184 =>
xF fMove [a0] fun v185 =>
xF fNil [v185] fun v186 =>
xF (fFld 13) [v186] fun v187 =>
hLoad 1 false [v187] (fun v188 σ =>
s_cp [v188] (fun v189 σ =>
xF (fFldV 0 1 false) [v189] fun v190 =>
xF (fBuild [(0, 1), (1, 1), (2, 1)] [.int .i64 0, .bool false, .int .i64 0] [0]) [v190] fun v191 =>
s_ct [v191] (fun v192 σ =>
s_bj [v173, v184, v192] (fun v193 σ =>
xF fMove [a0] fun v194 =>
xF fMove [a0] fun v195 =>
xF fMove [a0] fun v196 =>
xF fNil [v196] fun v197 =>
xF (fFld 12) [v197] fun v198 =>
hLoad 1 false [v198] (fun v199 σ =>
xF (fBin .add .no) [v199, .int .i64 1] fun v200 =>
xF fNil [v194] fun v201 =>
xF (fFld 12) [v201] fun v202 =>
hStore 1 [v202, v200] (fun _v σ =>
xF fNil [v195] fun v203 =>
xF (fFld 6) [v203] fun v204 =>
hStore 1 [v204, .int .i64 4] (fun _v σ =>
xF fMove [a0] fun v205 =>
xF fNil [v205] fun v206 =>
xF (fFld 12) [v206] fun v207 =>
hLoad 1 false [v207] (fun v208 σ =>
xF fMove [a0] fun v209 =>
xF fNil [v209] fun v210 =>
xF (fFld 1) [v210] fun v211 =>
xF (fFld 1) [v211] fun v212 =>
hLoad 1 false [v212] (fun v213 σ =>
xF (fBin .geq .no) [v208, v213] fun v214 =>
xIf v214
 (xF fMove [a0] fun v215 =>
xF fNil [v215] fun v216 =>
xF (fFld 6) [v216] fun v217 =>
hStore 1 [v217, .int .i64 7] (fun _v σ =>
J1 [] [] σ) σ)
 (J1 [] [] σ)) σ) σ) σ) σ) σ) σ) σ) σ) σ) σ) σ)
 (xF (fBin .eql .no) [v10, .int .i64 7] fun v219 =>
xF fMove [v219] fun v218 =>
xIf v218
 (xF fMove [a0] fun v220 =>
xO (gLoad 9 true [(locP 3)] c3) fun v221 =>
s_cb [v220, v221] (fun v222 σ =>
xF fMove [v222] fun v4 =>
K v4 σ) σ)
 (xF fMove [a0] fun v11 =>
xO (gLoad 9 true [(locP 3)] c3) fun v12 =>
s_b7 [v11, v12] (fun v13 σ =>
xF fMove [v13] fun v4 =>
K v4 σ) σ))))))))) σ
def s_b5 : Spec := fun args K σ => match args with
  | [a0, a1] => w_b5 a0 a1 K σ
  | _ => False
noncomputable def cx_b5 : Cx := { P := Try.prog, T := [(42, .write, s_ca), (43, .write, s_cg), (44, .read, s_cf), (45, .write, s_b9), (47, .read, s_b8), (46, .write, s_bj), (49, .read, s_cc), (50, .read, s_b6), (48, .write, s_bg), (51, .write, s_bh), (52, .none, s_cp), (41, .none, s_cz), (53, .none, s_ct), (54, .write, s_cb), (55, .write, s_b7)], loc := [(3, 3), (5, 5), (6, 6), (116, 5), (119, 5)], eqt := [], n := 223, keep := [(1000024, [0, 128], []), (1000037, [], [])] }
theorem q_b5 : FnS cx_b5 Try.f14 (bodyOf Try.f14) 2 = s_b5 := by
  funext args K σ
  rcases args with _ | ⟨a0, _ | ⟨a1, _ | ⟨b, r⟩⟩⟩ <;> kernel_rfl
theorem e_b5 : Entry Try.prog 14 .write s_b5 :=
  entry (C := cx_b5) (TOk.cons e_ca (TOk.cons e_cg (TOk.cons e_cf (TOk.cons e_b9 (TOk.cons e_b8 (TOk.cons e_bj (TOk.cons e_cc (TOk.cons e_b6 (TOk.cons e_bg (TOk.cons e_bh (TOk.cons e_cp (TOk.cons e_cz (TOk.cons e_ct (TOk.cons e_cb (TOk.cons e_b7 TOk.nil))))))))))))))) mixedOk Try.func14 (by kernel_rfl) (by kernel_rfl) (by kernel_rfl) q_b5
def xl_b5 : List (Nat × Nat) := [(3, 3), (5, 5), (6, 6), (116, 5), (119, 5)]
noncomputable def xc_b5 : XC XN :=
(.seq none
 (.reg [zy xl_b5 (.lb 3 9) 3 [.tmp 1],
  zc 4 (.bool false)])
 (.seq (some ([], []))
 (.seq none
 (.reg [zM 7 0,
  zN 8 7,
  zF 6 9 8,
  zL 10 9])
 (.block 0
 (.seq none
 (.reg [zb .eql rEql 15 [.tmp 10, .const (.int .i64 0)],
  zM 14 15])
 (.cond (.tmp 14)
 (.seq none
 (.reg [zM 16 0,
  zy xl_b5 (.lr 3 9 true) 17 [.tmp 3],
  zk .write s_ca v_ca 18 [.tmp 16, .tmp 17],
  zM 4 18])
 .ret)
 (.seq none
 (.reg [zb .eql rEql 20 [.tmp 10, .const (.int .i64 1)],
  zM 19 20])
 (.cond (.tmp 19)
 (.seq none
 (.reg [zM 21 0,
  zN 22 21,
  zF 8 23 22,
  zL 24 23,
  zy xl_b5 (.lr 3 9 true) 25 [.tmp 3],
  zk .write s_cg v_cg 26 [.tmp 24, .tmp 25]])
 (.cond (.tmp 26)
 (.seq none
 (.reg [zM 28 0,
  zM 29 0,
  zM 30 0,
  zN 31 30,
  zF 8 32 31,
  zL 33 32,
  zk .read s_cf v_cf 34 [.tmp 33],
  zM 27 34,
  zy xl_b5 (.f (fExt 0)) 35 [.tmp 27],
  zy xl_b5 (.f (fExt 1)) 36 [.tmp 27],
  zN 37 28,
  zF 9 38 37,
  zY xl_b5 (.store 2) [.tmp 38, .tmp 35],
  zN 39 29,
  zF 11 40 39,
  zS [.tmp 40, .tmp 36]])
 (.seq none
 (.reg [zM 41 0,
  zN 42 41,
  zF 6 43 42,
  zS [.tmp 43, .const (.int .i64 2)]])
 (.seq none
 (.reg [zM 44 0,
  zN 45 44,
  zF 11 46 45,
  zL 47 46,
  zz (.f (fUn .not)) rNot (some 48) [.tmp 47]])
 (.cond (.tmp 48)
 (.seq none
 (.reg [zM 49 0,
  zk .write s_b9 v_b9 50 [.tmp 49, .const (.int .i64 4)],
  zM 4 50])
 .ret)
 .skip))))
 .skip))
 (.seq none
 (.reg [zb .eql rEql 52 [.tmp 10, .const (.int .i64 2)],
  zM 51 52])
 (.cond (.tmp 51)
 (.seq none
 (.reg [zy xl_b5 (.lr 3 9 true) 53 [.tmp 3],
  zM 54 0,
  zN 55 54,
  zF 9 56 55,
  zF 0 57 56,
  zL 58 57,
  zM 59 0,
  zk .read s_b8 v_b8 60 [.tmp 59, .const (.int .i64 1)],
  zk .write s_bj v_bj 61 [.tmp 53, .tmp 58, .tmp 60]])
 (.reg [zM 62 0,
  zN 63 62,
  zF 6 64 63,
  zS [.tmp 64, .const (.int .i64 3)]]))
 (.seq none
 (.reg [zb .eql rEql 66 [.tmp 10, .const (.int .i64 3)],
  zM 65 66])
 (.cond (.tmp 65)
 (.seq none
 (.reg [zM 67 0,
  zM 68 0,
  zN 69 67,
  zF 12 70 69,
  zS [.tmp 70, .const (.int .i64 0)],
  zN 71 68,
  zF 6 72 71,
  zS [.tmp 72, .const (.int .i64 0)]])
 (.seq none
 (.reg [zy xl_b5 (.lr 3 9 true) 73 [.tmp 3],
  zM 74 0,
  zy xl_b5 (.lr 3 9 true) 75 [.tmp 3],
  zk .read s_cc v_cc 76 [.tmp 74, .tmp 75],
  zM 77 0,
  zN 78 77,
  zF 7 79 78,
  zL 80 79,
  zM 81 0,
  zM 82 0,
  zN 83 82,
  zF 0 84 83,
  zL 85 84,
  zk .read s_b6 v_b6 86 [.tmp 81, .const (.int .i64 2), .tmp 85, .const (.int .i64 0)],
  zk .write s_bg v_bg 87 [.tmp 73, .tmp 76, .tmp 80, .tmp 86]])
 (.cond (.tmp 87)
 (.reg [zM 88 0,
  zN 89 88,
  zF 6 90 89,
  zS [.tmp 90, .const (.int .i64 4)]])
 .skip)))
 (.seq none
 (.reg [zb .eql rEql 92 [.tmp 10, .const (.int .i64 4)],
  zM 91 92])
 (.cond (.tmp 91)
 (.seq none
 (.reg [zM 93 0,
  zy xl_b5 (.lr 3 9 true) 94 [.tmp 3],
  zM 95 0,
  zN 96 95,
  zF 0 97 96,
  zL 98 97,
  zb .add rAdd 99 [.tmp 98, .const (.int .i64 1)],
  zM 100 0,
  zN 101 100,
  zF 12 102 101,
  zL 103 102,
  zb .add rAdd 104 [.tmp 99, .tmp 103],
  zk .write s_bh v_bh 105 [.tmp 94, .tmp 104],
  zN 106 93,
  zF 13 107 106,
  zS [.tmp 107, .tmp 105]])
 (.seq none
 (.reg [zM 108 0,
  zN 109 108,
  zF 6 110 109,
  zS [.tmp 110, .const (.int .i64 5)]])
 (.seq none
 (.reg [zM 111 0,
  zN 112 111,
  zF 13 113 112,
  zL 114 113,
  zk .none s_cp v_cp 115 [.tmp 114],
  zy xl_b5 (.la 5 [.int .i64 0, .bool false, .int .i64 0]) 5 [],
  zY xl_b5 (.ls 5 3) [.tmp 5, .tmp 115]])
 (.seq (some ([0, 128], []))
 (.reg [zF 1 116 5,
  zr 5 117 116,
  zM 118 117,
  ⟨(some (3, 2, true, some 118)), some 119, [.tmp 5], ⟨.f (fFld 2), rFld 2⟩⟩,
  ⟨(some (4, 2, true, some 118)), some 120, [.tmp 119], ⟨.lr 5 1 false, rLr1 5⟩⟩,
  ⟨(some (5, 2, true, some 118)), some 121, [.tmp 0], ⟨.f fMove, rMove⟩⟩,
  ⟨(some (6, 2, true, some 118)), some 122, [.tmp 121], ⟨.f fNil, rNil⟩⟩,
  ⟨(some (7, 2, true, some 118)), some 123, [.tmp 122], ⟨.f (fFld 7), rFld 7⟩⟩,
  ⟨(some (8, 2, true, some 118)), some 124, [.tmp 123], ⟨.load 1 false, rLoad1⟩⟩,
  ⟨(some (9, 2, true, some 118)), some 125, [.tmp 124], ⟨.call .none s_cz v_cz, rCall v_cz⟩⟩,
  ⟨(some (10, 2, true, some 118)), some 126, [.tmp 125], ⟨.f (fFldV 3 1 false), rAny xl_b5 (.f (fFldV 3 1 false))⟩⟩,
  ⟨(some (11, 2, true, some 118)), some 127, [.tmp 120, .tmp 126], ⟨.f (fBin .eql .no), rEql⟩⟩,
  zz (.f fPick) rPick (some 128) [.tmp 118, .tmp 127, .const (.bool false)]])
 (.cond (.tmp 128)
 (.reg [zM 129 0,
  zN 130 129,
  zF 6 131 130,
  zS [.tmp 131, .const (.int .i64 6)]])
 .skip)))))
 (.seq none
 (.reg [zb .eql rEql 133 [.tmp 10, .const (.int .i64 5)],
  zM 132 133])
 (.cond (.tmp 132)
 (.seq none
 (.reg [zM 134 0,
  zN 135 134,
  zF 6 136 135,
  zS [.tmp 136, .const (.int .i64 4)]])
 (.seq none
 (.reg [zM 137 0,
  zN 138 137,
  zF 13 139 138,
  zL 140 139,
  zk .none s_cp v_cp 141 [.tmp 140],
  zy xl_b5 (.f (fFldV 0 1 false)) 142 [.tmp 141],
  zM 143 0,
  zN 144 143,
  zF 7 145 144,
  zL 146 145,
  zk .none s_cz v_cz 147 [.tmp 146],
  zy xl_b5 (.f (fFldV 3 1 false)) 148 [.tmp 147],
  zy xl_b5 (.f (fBuild [(0, 1), (1, 1), (2, 1)] [.int .i64 0, .bool false, .int .i64 0] [0, 1, 2])) 149 [.tmp 142, .const (.bool true), .tmp 148],
  zy xl_b5 (.la 6 [.int .i64 0, .bool false, .int .i64 0]) 6 [],
  zY xl_b5 (.ls 6 3) [.tmp 6, .tmp 149]])
 (.seq none
 (.reg [zy xl_b5 (.lr 3 9 true) 150 [.tmp 3],
  zM 151 0,
  zN 152 151,
  zF 0 153 152,
  zL 154 153,
  zb .add rAdd 155 [.tmp 154, .const (.int .i64 1)],
  zM 156 0,
  zN 157 156,
  zF 12 158 157,
  zL 159 158,
  zb .add rAdd 160 [.tmp 155, .tmp 159],
  zM 161 0,
  zN 162 161,
  zF 13 163 162,
  zL 164 163,
  zy xl_b5 (.lr 6 3 true) 165 [.tmp 6],
  zk .none s_ct v_ct 166 [.tmp 165],
  zk .write s_bg v_bg 167 [.tmp 150, .tmp 160, .tmp 164, .tmp 166]])
 (.cond (.tmp 167)
 (.reg [zM 168 0,
  zN 169 168,
  zF 6 170 169,
  zS [.tmp 170, .const (.int .i64 6)]])
 .skip))))
 (.seq none
 (.reg [zb .eql rEql 172 [.tmp 10, .const (.int .i64 6)],
  zM 171 172])
 (.cond (.tmp 171)
 (.seq none
 (.reg [zy xl_b5 (.lr 3 9 true) 173 [.tmp 3],
  zM 174 0,
  zN 175 174,
  zF 9 176 175,
  zF 0 177 176,
  zL 178 177,
  zb .add rAdd 179 [.tmp 178, .const (.int .i64 1)],
  zM 180 0,
  zN 181 180,
  zF 12 182 181,
  zL 183 182,
  zb .add rAdd 184 [.tmp 179, .tmp 183],
  zM 185 0,
  zN 186 185,
  zF 13 187 186,
  zL 188 187,
  zk .none s_cp v_cp 189 [.tmp 188],
  zy xl_b5 (.f (fFldV 0 1 false)) 190 [.tmp 189],
  zy xl_b5 (.f (fBuild [(0, 1), (1, 1), (2, 1)] [.int .i64 0, .bool false, .int .i64 0] [0])) 191 [.tmp 190],
  zk .none s_ct v_ct 192 [.tmp 191],
  zk .write s_bj v_bj 193 [.tmp 173, .tmp 184, .tmp 192]])
 (.seq none
 (.reg [zM 194 0,
  zM 195 0,
  zM 196 0,
  zN 197 196,
  zF 12 198 197,
  zL 199 198,
  zb .add rAdd 200 [.tmp 199, .const (.int .i64 1)],
  zN 201 194,
  zF 12 202 201,
  zS [.tmp 202, .tmp 200],
  zN 203 195,
  zF 6 204 203,
  zS [.tmp 204, .const (.int .i64 4)]])
 (.seq none
 (.reg [zM 205 0,
  zN 206 205,
  zF 12 207 206,
  zL 208 207,
  zM 209 0,
  zN 210 209,
  zF 1 211 210,
  zF 1 212 211,
  zL 213 212,
  zb .geq rGeq 214 [.tmp 208, .tmp 213]])
 (.cond (.tmp 214)
 (.reg [zM 215 0,
  zN 216 215,
  zF 6 217 216,
  zS [.tmp 217, .const (.int .i64 7)]])
 .skip))))
 (.seq none
 (.reg [zb .eql rEql 219 [.tmp 10, .const (.int .i64 7)],
  zM 218 219])
 (.cond (.tmp 218)
 (.seq none
 (.reg [zM 220 0,
  zy xl_b5 (.lr 3 9 true) 221 [.tmp 3],
  zk .write s_cb v_cb 222 [.tmp 220, .tmp 221],
  zM 4 222])
 .ret)
 (.seq none
 (.reg [zM 11 0,
  zy xl_b5 (.lr 3 9 true) 12 [.tmp 3],
  zk .write s_b7 v_b7 13 [.tmp 11, .tmp 12],
  zM 4 13])
 .ret)))))))))))))))))))
 (.seq none
 (.reg [zc 4 (.bool false)])
 .ret)))
noncomputable def v_b5 : EvF := evFn 2 xc_b5 [.t 4]
theorem xt_b5 : toC cx_b5 (bodyOf Try.f14) = some (xc_b5.map XN.sm) := by kernel_rfl
theorem xr_b5 : toR cx_b5 Try.f14.results.toList = some [.t 4] := by kernel_rfl
theorem xo_b5 : xc_b5.ok xl_b5 := ⟨⟨rAny_ok (trivial), rMove_ok, trivial⟩, ⟨⟨⟨rMove_ok, rNil_ok, rFld_ok _, rLoad1_ok, trivial⟩, ⟨⟨rEql_ok, rMove_ok, trivial⟩, ⟨⟨⟨rMove_ok, rAny_ok (trivial), rCall_ok ve_ca, rMove_ok, trivial⟩, trivial⟩, ⟨⟨rEql_ok, rMove_ok, trivial⟩, ⟨⟨⟨rMove_ok, rNil_ok, rFld_ok _, rLoad1_ok, rAny_ok (trivial), rCall_ok ve_cg, trivial⟩, ⟨⟨⟨rMove_ok, rMove_ok, rMove_ok, rNil_ok, rFld_ok _, rLoad1_ok, rCall_ok ve_cf, rMove_ok, rAny_ok (eqv_ext _), rAny_ok (eqv_ext _), rNil_ok, rFld_ok _, rAny_ok (trivial), rNil_ok, rFld_ok _, rStore1_ok, trivial⟩, ⟨⟨rMove_ok, rNil_ok, rFld_ok _, rStore1_ok, trivial⟩, ⟨⟨rMove_ok, rNil_ok, rFld_ok _, rLoad1_ok, rNot_ok, trivial⟩, ⟨⟨⟨rMove_ok, rCall_ok ve_b9, rMove_ok, trivial⟩, trivial⟩, trivial⟩⟩⟩⟩, trivial⟩⟩, ⟨⟨rEql_ok, rMove_ok, trivial⟩, ⟨⟨⟨rAny_ok (trivial), rMove_ok, rNil_ok, rFld_ok _, rFld_ok _, rLoad1_ok, rMove_ok, rCall_ok ve_b8, rCall_ok ve_bj, trivial⟩, ⟨rMove_ok, rNil_ok, rFld_ok _, rStore1_ok, trivial⟩⟩, ⟨⟨rEql_ok, rMove_ok, trivial⟩, ⟨⟨⟨rMove_ok, rMove_ok, rNil_ok, rFld_ok _, rStore1_ok, rNil_ok, rFld_ok _, rStore1_ok, trivial⟩, ⟨⟨rAny_ok (trivial), rMove_ok, rAny_ok (trivial), rCall_ok ve_cc, rMove_ok, rNil_ok, rFld_ok _, rLoad1_ok, rMove_ok, rMove_ok, rNil_ok, rFld_ok _, rLoad1_ok, rCall_ok ve_b6, rCall_ok ve_bg, trivial⟩, ⟨⟨rMove_ok, rNil_ok, rFld_ok _, rStore1_ok, trivial⟩, trivial⟩⟩⟩, ⟨⟨rEql_ok, rMove_ok, trivial⟩, ⟨⟨⟨rMove_ok, rAny_ok (trivial), rMove_ok, rNil_ok, rFld_ok _, rLoad1_ok, rAdd_ok, rMove_ok, rNil_ok, rFld_ok _, rLoad1_ok, rAdd_ok, rCall_ok ve_bh, rNil_ok, rFld_ok _, rStore1_ok, trivial⟩, ⟨⟨rMove_ok, rNil_ok, rFld_ok _, rStore1_ok, trivial⟩, ⟨⟨rMove_ok, rNil_ok, rFld_ok _, rLoad1_ok, rCall_ok ve_cp, rAny_ok (trivial), rAny_ok (trivial), trivial⟩, ⟨⟨rFld_ok _, rLr1_ok _, rMove_ok, rFld_ok _, rLr1_ok _, rMove_ok, rNil_ok, rFld_ok _, rLoad1_ok, rCall_ok ve_cz, rAny_ok (eqv_fldV _ _ _), rEql_ok, rPick_ok, trivial⟩, ⟨⟨rMove_ok, rNil_ok, rFld_ok _, rStore1_ok, trivial⟩, trivial⟩⟩⟩⟩⟩, ⟨⟨rEql_ok, rMove_ok, trivial⟩, ⟨⟨⟨rMove_ok, rNil_ok, rFld_ok _, rStore1_ok, trivial⟩, ⟨⟨rMove_ok, rNil_ok, rFld_ok _, rLoad1_ok, rCall_ok ve_cp, rAny_ok (eqv_fldV _ _ _), rMove_ok, rNil_ok, rFld_ok _, rLoad1_ok, rCall_ok ve_cz, rAny_ok (eqv_fldV _ _ _), rAny_ok (eqv_build _ rfl _), rAny_ok (trivial), rAny_ok (trivial), trivial⟩, ⟨⟨rAny_ok (trivial), rMove_ok, rNil_ok, rFld_ok _, rLoad1_ok, rAdd_ok, rMove_ok, rNil_ok, rFld_ok _, rLoad1_ok, rAdd_ok, rMove_ok, rNil_ok, rFld_ok _, rLoad1_ok, rAny_ok (trivial), rCall_ok ve_ct, rCall_ok ve_bg, trivial⟩, ⟨⟨rMove_ok, rNil_ok, rFld_ok _, rStore1_ok, trivial⟩, trivial⟩⟩⟩⟩, ⟨⟨rEql_ok, rMove_ok, trivial⟩, ⟨⟨⟨rAny_ok (trivial), rMove_ok, rNil_ok, rFld_ok _, rFld_ok _, rLoad1_ok, rAdd_ok, rMove_ok, rNil_ok, rFld_ok _, rLoad1_ok, rAdd_ok, rMove_ok, rNil_ok, rFld_ok _, rLoad1_ok, rCall_ok ve_cp, rAny_ok (eqv_fldV _ _ _), rAny_ok (eqv_build _ rfl _), rCall_ok ve_ct, rCall_ok ve_bj, trivial⟩, ⟨⟨rMove_ok, rMove_ok, rMove_ok, rNil_ok, rFld_ok _, rLoad1_ok, rAdd_ok, rNil_ok, rFld_ok _, rStore1_ok, rNil_ok, rFld_ok _, rStore1_ok, trivial⟩, ⟨⟨rMove_ok, rNil_ok, rFld_ok _, rLoad1_ok, rMove_ok, rNil_ok, rFld_ok _, rFld_ok _, rLoad1_ok, rGeq_ok, trivial⟩, ⟨⟨rMove_ok, rNil_ok, rFld_ok _, rStore1_ok, trivial⟩, trivial⟩⟩⟩⟩, ⟨⟨rEql_ok, rMove_ok, trivial⟩, ⟨⟨⟨rMove_ok, rAny_ok (trivial), rCall_ok ve_cb, rMove_ok, trivial⟩, trivial⟩, ⟨⟨rMove_ok, rAny_ok (trivial), rCall_ok ve_b7, rMove_ok, trivial⟩, trivial⟩⟩⟩⟩⟩⟩⟩⟩⟩⟩⟩⟩⟩⟩⟩⟩⟩⟩, ⟨⟨rMove_ok, trivial⟩, trivial⟩⟩⟩
theorem ve_b5 : EvOk s_b5 v_b5 := EvOk.of (evFn_sound (C := cx_b5) xt_b5 xr_b5 xo_b5) q_b5
attribute [irreducible] w_b5_j1b w_b5_j1 w_b5_j2b w_b5_j2 w_b5 s_b5
def w_b3 (a0 : Value) (K : Value → Mem → Prop) (σ : Mem) : Prop :=
xF fMove [.int .i64 0] fun v2 =>
xF fMove [a0] fun v3 =>
xF (fBin .eql .ptr) [v3, .pointer none] fun v4 =>
xIf v4
 (xF fMove [.int .i64 0] fun v2 =>
K v2 σ)
 (xF fMove [a0] fun v5 =>
xF fNil [v5] fun v6 =>
xF (fFld 15) [v6] fun v7 =>
hLoad 1 false [v7] (fun v8 σ =>
xF fMove [v8] fun v2 =>
K v2 σ) σ)
def s_b3 : Spec := fun args K σ => match args with
  | [a0] => w_b3 a0 K σ
  | _ => False
noncomputable def cx_b3 : Cx := { P := Try.prog, T := [], loc := [], eqt := [(34, .ptr)], n := 9, keep := [] }
theorem q_b3 : FnS cx_b3 Try.f19 (bodyOf Try.f19) 1 = s_b3 := by
  funext args K σ
  rcases args with _ | ⟨a0, _ | ⟨b, r⟩⟩ <;> kernel_rfl
theorem e_b3 : Entry Try.prog 19 .read s_b3 :=
  entry (C := cx_b3) TOk.nil mixedOk Try.func19 (by kernel_rfl) (by kernel_rfl) (by kernel_rfl) q_b3
def xl_b3 : List (Nat × Nat) := []
noncomputable def xc_b3 : XC XN :=
(.seq none
 (.reg [zc 2 (.int .i64 0)])
 (.seq none
 (.seq none
 (.reg [zM 3 0,
  zy xl_b3 (.f (fBin .eql .ptr)) 4 [.tmp 3, .const (.pointer none)]])
 (.cond (.tmp 4)
 (.seq none
 (.reg [zc 2 (.int .i64 0)])
 .ret)
 .skip))
 (.seq none
 (.reg [zM 5 0,
  zN 6 5,
  zF 15 7 6,
  zL 8 7,
  zM 2 8])
 .ret)))
noncomputable def v_b3 : EvF := evFn 1 xc_b3 [.t 2]
theorem xt_b3 : toC cx_b3 (bodyOf Try.f19) = some (xc_b3.map XN.sm) := by kernel_rfl
theorem xr_b3 : toR cx_b3 Try.f19.results.toList = some [.t 2] := by kernel_rfl
theorem xo_b3 : xc_b3.ok xl_b3 := ⟨⟨rMove_ok, trivial⟩, ⟨⟨⟨rMove_ok, rAny_ok (eqv_bin _ _), trivial⟩, ⟨⟨⟨rMove_ok, trivial⟩, trivial⟩, trivial⟩⟩, ⟨⟨rMove_ok, rNil_ok, rFld_ok _, rLoad1_ok, rMove_ok, trivial⟩, trivial⟩⟩⟩
theorem ve_b3 : EvOk s_b3 v_b3 := EvOk.of (evFn_sound (C := cx_b3) xt_b3 xr_b3 xo_b3) q_b3
attribute [irreducible] w_b3 s_b3
def w_ba (a0 a1 : Value) (K : Value → Mem → Prop) (σ : Mem) : Prop :=
xC (gBox 9 [a0] []) fun c2 =>
xF fMove [a1] fun v8 =>
s_cr [v8] (fun v9 σ =>
xF fMove [v9] fun v7 =>
xF (fExt 0) [v7] fun v10 =>
xF (fExt 1) [v7] fun v11 =>
xC (gStore 2 [(locP 5), v10] [.int .i64 0, .int .i64 0]) fun c5 =>
xF fMove [v11] fun v6 =>
xF (fFld 7) [(locP 2)] fun v12 =>
xO (gLoad 1 false [v12] c2) fun v13 =>
xF (fFld 0) [(locP 2)] fun v14 =>
xO (gLoad 7 true [v14] c2) fun v15 =>
xF (fFld 0) [(locP 5)] fun v16 =>
xO (gLoad 1 false [v16] c5) fun v17 =>
s_bp [v15, v17] (fun v18 σ =>
s_bw [v13, v18] (fun v19 σ =>
s_cz [v19] (fun v20 σ =>
xC (gStore 4 [(locP 4), v20] [.int .i64 0, .int .i64 0, .int .i64 0, .int .i64 0]) fun c4 =>
xO (gLoad 4 true [(locP 4)] c4) fun r4 =>
K r4 σ) σ) σ) σ) σ
def s_ba : Spec := fun args K σ => match args with
  | [a0, a1] => w_ba a0 a1 K σ
  | _ => False
noncomputable def cx_ba : Cx := { P := Try.prog, T := [(40, .none, s_cr), (27, .none, s_bp), (24, .read, s_bw), (41, .none, s_cz)], loc := [(2, 2), (4, 4), (5, 5), (12, 2), (14, 2), (16, 5)], eqt := [], n := 21, keep := [] }
theorem q_ba : FnS cx_ba Try.f20 (bodyOf Try.f20) 2 = s_ba := by
  funext args K σ
  rcases args with _ | ⟨a0, _ | ⟨a1, _ | ⟨b, r⟩⟩⟩ <;> kernel_rfl
theorem e_ba : Entry Try.prog 20 .read s_ba :=
  entry (C := cx_ba) (TOk.cons e_cr (TOk.cons e_bp (TOk.cons e_bw (TOk.cons e_cz TOk.nil)))) mixedOk Try.func20 (by kernel_rfl) (by kernel_rfl) (by kernel_rfl) q_ba
def xl_ba : List (Nat × Nat) := [(2, 2), (4, 4), (5, 5), (12, 2), (14, 2), (16, 5)]
noncomputable def xc_ba : XC XN :=
(.seq none
 (.reg [zy xl_ba (.lb 2 9) 2 [.tmp 0],
  zy xl_ba (.la 4 [.int .i64 0, .int .i64 0, .int .i64 0, .int .i64 0]) 4 []])
 (.seq none
 (.reg [zM 8 1,
  zk .none s_cr v_cr 9 [.tmp 8],
  zM 7 9,
  zy xl_ba (.f (fExt 0)) 10 [.tmp 7],
  zy xl_ba (.f (fExt 1)) 11 [.tmp 7],
  zy xl_ba (.la 5 [.int .i64 0, .int .i64 0]) 5 [],
  zY xl_ba (.ls 5 2) [.tmp 5, .tmp 10],
  zM 6 11])
 (.seq none
 (.reg [zF 7 12 2,
  zr 2 13 12,
  zF 0 14 2,
  zy xl_ba (.lr 2 7 true) 15 [.tmp 14],
  zF 0 16 5,
  zr 5 17 16,
  zk .none s_bp v_bp 18 [.tmp 15, .tmp 17],
  zk .read s_bw v_bw 19 [.tmp 13, .tmp 18],
  zk .none s_cz v_cz 20 [.tmp 19],
  zY xl_ba (.ls 4 4) [.tmp 4, .tmp 20]])
 .ret)))
noncomputable def v_ba : EvF := evFn 2 xc_ba [.c 4 4 4 true]
theorem xt_ba : toC cx_ba (bodyOf Try.f20) = some (xc_ba.map XN.sm) := by kernel_rfl
theorem xr_ba : toR cx_ba Try.f20.results.toList = some [.c 4 4 4 true] := by kernel_rfl
theorem xo_ba : xc_ba.ok xl_ba := ⟨⟨rAny_ok (trivial), rAny_ok (trivial), trivial⟩, ⟨⟨rMove_ok, rCall_ok ve_cr, rMove_ok, rAny_ok (eqv_ext _), rAny_ok (eqv_ext _), rAny_ok (trivial), rAny_ok (trivial), rMove_ok, trivial⟩, ⟨⟨rFld_ok _, rLr1_ok _, rFld_ok _, rAny_ok (trivial), rFld_ok _, rLr1_ok _, rCall_ok ve_bp, rCall_ok ve_bw, rCall_ok ve_cz, rAny_ok (trivial), trivial⟩, trivial⟩⟩⟩
theorem ve_ba : EvOk s_ba v_ba := EvOk.of (evFn_sound (C := cx_ba) xt_ba xr_ba xo_ba) q_ba
attribute [irreducible] w_ba s_ba
def w_a9 (a0 a1 a2 : Value) (K : Value → Mem → Prop) (σ : Mem) : Prop :=
xC (gBox 9 [a0] []) fun c3 =>
xO (gLoad 9 true [(locP 3)] c3) fun v7 =>
xF fMove [a1] fun v8 =>
xF fMove [a2] fun v9 =>
xF (fBuild [(0, 1), (1, 1), (2, 1), (3, 1), (4, 1)] [.int .i64 0, .int .u64 0, .int .i64 0, .int .i64 0, .int .i64 0] [0, 1, 2]) [.int .i64 1, v8, v9] fun v10 =>
s_ay [v7, v10, .bool false] (fun v11 σ =>
xC (gStore 4 [(locP 6), v11] [.int .i64 0, .int .u64 0, .int .i64 0, .int .i64 0]) fun c6 =>
xO (gLoad 4 true [(locP 6)] c6) fun r6 =>
K r6 σ) σ
def s_a9 : Spec := fun args K σ => match args with
  | [a0, a1, a2] => w_a9 a0 a1 a2 K σ
  | _ => False
noncomputable def cx_a9 : Cx := { P := Try.prog, T := [(39, .write, s_ay)], loc := [(3, 3), (6, 6)], eqt := [], n := 12, keep := [] }
theorem q_a9 : FnS cx_a9 Try.f18 (bodyOf Try.f18) 3 = s_a9 := by
  funext args K σ
  rcases args with _ | ⟨a0, _ | ⟨a1, _ | ⟨a2, _ | ⟨b, r⟩⟩⟩⟩ <;> kernel_rfl
theorem e_a9 : Entry Try.prog 18 .write s_a9 :=
  entry (C := cx_a9) (TOk.cons e_ay TOk.nil) mixedOk Try.func18 (by kernel_rfl) (by kernel_rfl) (by kernel_rfl) q_a9
def xl_a9 : List (Nat × Nat) := [(3, 3), (6, 6)]
noncomputable def xc_a9 : XC XN :=
(.seq none
 (.reg [zy xl_a9 (.lb 3 9) 3 [.tmp 0],
  zy xl_a9 (.la 6 [.int .i64 0, .int .u64 0, .int .i64 0, .int .i64 0]) 6 []])
 (.seq none
 (.reg [zy xl_a9 (.lr 3 9 true) 7 [.tmp 3],
  zM 8 1,
  zM 9 2,
  zy xl_a9 (.f (fBuild [(0, 1), (1, 1), (2, 1), (3, 1), (4, 1)] [.int .i64 0, .int .u64 0, .int .i64 0, .int .i64 0, .int .i64 0] [0, 1, 2])) 10 [.const (.int .i64 1), .tmp 8, .tmp 9],
  zk .write s_ay v_ay 11 [.tmp 7, .tmp 10, .const (.bool false)],
  zY xl_a9 (.ls 6 4) [.tmp 6, .tmp 11]])
 .ret))
noncomputable def v_a9 : EvF := evFn 3 xc_a9 [.c 6 6 4 true]
theorem xt_a9 : toC cx_a9 (bodyOf Try.f18) = some (xc_a9.map XN.sm) := by kernel_rfl
theorem xr_a9 : toR cx_a9 Try.f18.results.toList = some [.c 6 6 4 true] := by kernel_rfl
theorem xo_a9 : xc_a9.ok xl_a9 := ⟨⟨rAny_ok (trivial), rAny_ok (trivial), trivial⟩, ⟨⟨rAny_ok (trivial), rMove_ok, rMove_ok, rAny_ok (eqv_build _ rfl _), rCall_ok ve_ay, rAny_ok (trivial), trivial⟩, trivial⟩⟩
theorem ve_a9 : EvOk s_a9 v_a9 := EvOk.of (evFn_sound (C := cx_a9) xt_a9 xr_a9 xo_a9) q_a9
attribute [irreducible] w_a9 s_a9
def w_a7_j1b (K : Value → Mem → Prop) (v2 v3 v6 : Value) (c1 : List Value) (σ : Mem) : Prop :=
xF fMove [v6] fun v31 =>
s_b3 [v31] (fun v32 σ =>
xF (fBin .eql .no) [v32, .int .i64 1] fun v33 =>
xF fMove [v33] fun v34 =>
xIf v34
 (xO (gLoad 9 true [(locP 1)] c1) fun v35 =>
xF fMove [v2] fun v36 =>
s_ba [v35, v36] (fun v37 σ =>
xF (fFldV 1 1 false) [v37] fun v38 =>
xF fMove [v3] fun v39 =>
xF (fBin .neq .no) [v38, v39] fun v40 =>
xF fPick [.bool true, v40, .bool false] fun v41 =>
xF fMove [v41] fun v42 =>
xIf v42
 (xO (gLoad 9 true [(locP 1)] c1) fun v43 =>
xF fMove [v2] fun v44 =>
s_a9 [v43, v44, .int .i64 1] (fun v45 σ =>
xF (fFldV 2 1 false) [v45] fun v46 =>
xF (fBin .eql .no) [v46, .int .i64 6] fun v47 =>
xF fPick [.bool true, v47, .bool false] fun v48 =>
xF fMove [v48] fun v0 =>
K v0 σ) σ)
 (xF fPick [.bool false, undef, .bool false] fun v48 =>
xF fMove [v48] fun v0 =>
K v0 σ)) σ)
 (xF fPick [.bool false, undef, .bool false] fun v41 =>
xF fMove [v41] fun v42 =>
xIf v42
 (xO (gLoad 9 true [(locP 1)] c1) fun v43 =>
xF fMove [v2] fun v44 =>
s_a9 [v43, v44, .int .i64 1] (fun v45 σ =>
xF (fFldV 2 1 false) [v45] fun v46 =>
xF (fBin .eql .no) [v46, .int .i64 6] fun v47 =>
xF fPick [.bool true, v47, .bool false] fun v48 =>
xF fMove [v48] fun v0 =>
K v0 σ) σ)
 (xF fPick [.bool false, undef, .bool false] fun v48 =>
xF fMove [v48] fun v0 =>
K v0 σ))) σ
def w_a7_j1 (K : Value → Mem → Prop) (ts : List Value) (ls : List (List Value)) (σ : Mem) : Prop := w_a7_j1b K (ts.getD 0 poison) (ts.getD 1 poison) (ts.getD 2 poison) (ls.getD 0 []) σ
def w_a7_j2b (K : Value → Mem → Prop) (J1 : List Value → List (List Value) → Mem → Prop) (R1 : List Value → List (List Value) → Mem → Prop) (v2 v3 v6 v7 : Value) (c1 : List Value) (σ : Mem) : Prop :=
xF fMove [v7] fun v29 =>
xF (fBin .add .no) [v29, .int .i64 1] fun v30 =>
xF fMove [v30] fun v7 =>
R1 [v2, v3, v6, v7] [c1] σ
def w_a7_j2 (K : Value → Mem → Prop) (J1 : List Value → List (List Value) → Mem → Prop) (R1 : List Value → List (List Value) → Mem → Prop) (ts : List Value) (ls : List (List Value)) (σ : Mem) : Prop := w_a7_j2b K J1 R1 (ts.getD 0 poison) (ts.getD 1 poison) (ts.getD 2 poison) (ts.getD 3 poison) (ls.getD 0 []) σ
def w_law11_awake_r_l7b (K : Value → Mem → Prop) (J1 : List Value → List (List Value) → Mem → Prop) (R1 : List Value → List (List Value) → Mem → Prop) (v2 v3 v6 v7 : Value) (c1 : List Value) (σ : Mem) : Prop :=
xJoin (w_a7_j2 K J1 R1) fun J2 =>
xF fMove [v7] fun v21 =>
xF (fBin .lss .no) [v21, .int .i64 60] fun v22 =>
xF fMove [v22] fun v23 =>
xIf v23
 (xF fMove [v6] fun v24 =>
xO (gLoad 9 true [(locP 1)] c1) fun v25 =>
s_b5 [v24, v25] (fun v26 σ =>
xF (fUn .not) [v26] fun v27 =>
xF fPick [.bool true, v27, .bool false] fun v28 =>
xIf v28
 (J2 [v2, v3, v6, v7] [c1] σ)
 (J1 [v2, v3, v6] [c1] σ)) σ)
 (xF fPick [.bool false, undef, .bool false] fun v28 =>
xIf v28
 (J2 [v2, v3, v6, v7] [c1] σ)
 (J1 [v2, v3, v6] [c1] σ))
def w_law11_awake_r_l7 (K : Value → Mem → Prop) (J1 : List Value → List (List Value) → Mem → Prop) (R1 : List Value → List (List Value) → Mem → Prop) (ts : List Value) (ls : List (List Value)) (σ : Mem) : Prop := w_law11_awake_r_l7b K J1 R1 (ts.getD 0 poison) (ts.getD 1 poison) (ts.getD 2 poison) (ts.getD 3 poison) (ls.getD 0 []) σ
def w_a7 (K : Value → Mem → Prop) (σ : Mem) : Prop :=
xF fMove [.bool false] fun v0 =>
hBuildS 1 2 [.int .i64 0] [0, 1] [.int .i64 5, .int .i64 6] (fun v9 σ =>
s_a8 [.int .i64 1, v9] (fun v10 σ =>
xF fMove [v10] fun v8 =>
xF (fExt 0) [v8] fun v11 =>
xF (fExt 1) [v8] fun v12 =>
xF (fExt 2) [v8] fun v13 =>
xF (fExt 3) [v8] fun v14 =>
xF (fExt 4) [v8] fun v15 =>
xC (gStore 9 [(locP 1), v11] [.int .i64 0, .int .i64 0, .int .i64 0, .int .i64 0, .int .i64 0, .int .i64 0, .int .i64 0, .pointer none, .int .i64 0]) fun c1 =>
xF fMove [v12] fun v2 =>
xF fMove [v13] fun v3 =>
xC (gStore 5 [(locP 4), v14] [.int .i64 0, .int .i64 0, .int .i64 0, .int .i64 0, .bool false]) fun c4 =>
xF fMove [v15] fun v5 =>
xF fMove [v5] fun v16 =>
xF (fUn .not) [v16] fun v17 =>
xIf v17
 (xF fMove [.bool false] fun v0 =>
K v0 σ)
 (xF fMove [v3] fun v18 =>
xO (gLoad 5 true [(locP 4)] c4) fun v19 =>
s_cd [v18, v19] (fun v20 σ =>
xF fMove [v20] fun v6 =>
xJoin (w_a7_j1 K) fun J1 =>
xF fMove [.int .i64 0] fun v7 =>
xLoop (w_law11_awake_r_l7 K J1) [v2, v3, v6, v7] [c1] σ) σ)) σ) σ
def s_a7 : Spec := fun args K σ => match args with
  | [] => w_a7  K σ
  | _ => False
noncomputable def cx_a7 : Cx := { P := Try.prog, T := [(11, .write, s_a8), (13, .write, s_cd), (14, .write, s_b5), (19, .read, s_b3), (20, .read, s_ba), (18, .write, s_a9)], loc := [(1, 1), (4, 4)], eqt := [], n := 49, keep := [(7, [2, 3, 6, 7], [1]), (1000008, [2, 3, 6, 7], [1]), (1000009, [2, 3, 6], [1])] }
theorem q_a7 : FnS cx_a7 Try.f12 (bodyOf Try.f12) 0 = s_a7 := by
  funext args K σ
  rcases args with _ | ⟨b, r⟩ <;> kernel_rfl
theorem e_a7 : Entry Try.prog 12 .write s_a7 :=
  entry (C := cx_a7) (TOk.cons e_a8 (TOk.cons e_cd (TOk.cons e_b5 (TOk.cons e_b3 (TOk.cons e_ba (TOk.cons e_a9 TOk.nil)))))) mixedOk Try.func12 (by kernel_rfl) (by kernel_rfl) (by kernel_rfl) q_a7
def xl_a7 : List (Nat × Nat) := [(1, 1), (4, 4)]
noncomputable def xc_a7 : XC XN :=
(.seq none
 (.reg [zc 0 (.bool false)])
 (.seq none
 (.reg [zy xl_a7 (.bs 1 2 [.int .i64 0] [0, 1]) 9 [.const (.int .i64 5), .const (.int .i64 6)],
  zk .write s_a8 v_a8 10 [.const (.int .i64 1), .tmp 9],
  zM 8 10,
  zy xl_a7 (.f (fExt 0)) 11 [.tmp 8],
  zy xl_a7 (.f (fExt 1)) 12 [.tmp 8],
  zy xl_a7 (.f (fExt 2)) 13 [.tmp 8],
  zy xl_a7 (.f (fExt 3)) 14 [.tmp 8],
  zy xl_a7 (.f (fExt 4)) 15 [.tmp 8],
  zy xl_a7 (.la 1 [.int .i64 0, .int .i64 0, .int .i64 0, .int .i64 0, .int .i64 0, .int .i64 0, .int .i64 0, .pointer none, .int .i64 0]) 1 [],
  zy xl_a7 (.la 4 [.int .i64 0, .int .i64 0, .int .i64 0, .int .i64 0, .bool false]) 4 [],
  zY xl_a7 (.ls 1 9) [.tmp 1, .tmp 11],
  zM 2 12,
  zM 3 13,
  zY xl_a7 (.ls 4 5) [.tmp 4, .tmp 14],
  zM 5 15])
 (.seq none
 (.seq none
 (.reg [zM 16 5,
  zz (.f (fUn .not)) rNot (some 17) [.tmp 16]])
 (.cond (.tmp 17)
 (.seq none
 (.reg [zc 0 (.bool false)])
 .ret)
 .skip))
 (.seq none
 (.reg [zM 18 3,
  zy xl_a7 (.lr 4 5 true) 19 [.tmp 4],
  zk .write s_cd v_cd 20 [.tmp 18, .tmp 19],
  zM 6 20])
 (.seq (some ([2, 3, 6], [1]))
 (.seq none
 (.reg [zc 7 (.int .i64 0)])
 (.block 0
 (.loop ([2, 3, 6, 7], [1])
 (.seq (some ([2, 3, 6, 7], [1]))
 (.seq none
 (.reg [zM 21 7,
  zb .lss rLss 22 [.tmp 21, .const (.int .i64 60)],
  zM 23 22,
  ⟨(some (3, 2, true, some 23)), some 24, [.tmp 6], ⟨.f fMove, rMove⟩⟩,
  ⟨(some (4, 2, true, some 23)), some 25, [.tmp 1], ⟨.lr 1 9 true, rAny xl_a7 (.lr 1 9 true)⟩⟩,
  ⟨(some (5, 2, true, some 23)), some 26, [.tmp 24, .tmp 25], ⟨.call .write s_b5 v_b5, rCall v_b5⟩⟩,
  ⟨(some (6, 2, true, some 23)), some 27, [.tmp 26], ⟨.f (fUn .not), rNot⟩⟩,
  zz (.f fPick) rPick (some 28) [.tmp 23, .tmp 27, .const (.bool false)]])
 (.cond (.tmp 28)
 .skip
 (.exit 0)))
 (.seq none
 (.block 1
 .skip)
 (.reg [zM 29 7,
  zb .add rAdd 30 [.tmp 29, .const (.int .i64 1)],
  zM 7 30]))))))
 (.seq none
 (.reg [zM 31 6,
  zk .read s_b3 v_b3 32 [.tmp 31],
  zb .eql rEql 33 [.tmp 32, .const (.int .i64 1)],
  zM 34 33,
  ⟨(some (4, 3, true, some 34)), some 35, [.tmp 1], ⟨.lr 1 9 true, rAny xl_a7 (.lr 1 9 true)⟩⟩,
  ⟨(some (5, 3, true, some 34)), some 36, [.tmp 2], ⟨.f fMove, rMove⟩⟩,
  ⟨(some (6, 3, true, some 34)), some 37, [.tmp 35, .tmp 36], ⟨.call .read s_ba v_ba, rCall v_ba⟩⟩,
  ⟨(some (7, 3, true, some 34)), some 38, [.tmp 37], ⟨.f (fFldV 1 1 false), rAny xl_a7 (.f (fFldV 1 1 false))⟩⟩,
  ⟨(some (8, 3, true, some 34)), some 39, [.tmp 3], ⟨.f fMove, rMove⟩⟩,
  ⟨(some (9, 3, true, some 34)), some 40, [.tmp 38, .tmp 39], ⟨.f (fBin .neq .no), rNeq⟩⟩,
  zz (.f fPick) rPick (some 41) [.tmp 34, .tmp 40, .const (.bool false)],
  zM 42 41,
  ⟨(some (12, 11, true, some 42)), some 43, [.tmp 1], ⟨.lr 1 9 true, rAny xl_a7 (.lr 1 9 true)⟩⟩,
  ⟨(some (13, 11, true, some 42)), some 44, [.tmp 2], ⟨.f fMove, rMove⟩⟩,
  ⟨(some (14, 11, true, some 42)), some 45, [.tmp 43, .tmp 44, (.const (.int .i64 1))], ⟨.call .write s_a9 v_a9, rCall v_a9⟩⟩,
  ⟨(some (15, 11, true, some 42)), some 46, [.tmp 45], ⟨.f (fFldV 2 1 false), rAny xl_a7 (.f (fFldV 2 1 false))⟩⟩,
  ⟨(some (16, 11, true, some 42)), some 47, [.tmp 46, (.const (.int .i64 6))], ⟨.f (fBin .eql .no), rEql⟩⟩,
  zz (.f fPick) rPick (some 48) [.tmp 42, .tmp 47, .const (.bool false)],
  zM 0 48])
 .ret))))))
noncomputable def v_a7 : EvF := evFn 0 xc_a7 [.t 0]
theorem xt_a7 : toC cx_a7 (bodyOf Try.f12) = some (xc_a7.map XN.sm) := by kernel_rfl
theorem xr_a7 : toR cx_a7 Try.f12.results.toList = some [.t 0] := by kernel_rfl
theorem xo_a7 : xc_a7.ok xl_a7 := ⟨⟨rMove_ok, trivial⟩, ⟨⟨rAny_ok (trivial), rCall_ok ve_a8, rMove_ok, rAny_ok (eqv_ext _), rAny_ok (eqv_ext _), rAny_ok (eqv_ext _), rAny_ok (eqv_ext _), rAny_ok (eqv_ext _), rAny_ok (trivial), rAny_ok (trivial), rAny_ok (trivial), rMove_ok, rMove_ok, rAny_ok (trivial), rMove_ok, trivial⟩, ⟨⟨⟨rMove_ok, rNot_ok, trivial⟩, ⟨⟨⟨rMove_ok, trivial⟩, trivial⟩, trivial⟩⟩, ⟨⟨rMove_ok, rAny_ok (trivial), rCall_ok ve_cd, rMove_ok, trivial⟩, ⟨⟨⟨rMove_ok, trivial⟩, ⟨⟨⟨rMove_ok, rLss_ok, rMove_ok, rMove_ok, rAny_ok (trivial), rCall_ok ve_b5, rNot_ok, rPick_ok, trivial⟩, ⟨trivial, trivial⟩⟩, ⟨trivial, ⟨rMove_ok, rAdd_ok, rMove_ok, trivial⟩⟩⟩⟩, ⟨⟨rMove_ok, rCall_ok ve_b3, rEql_ok, rMove_ok, rAny_ok (trivial), rMove_ok, rCall_ok ve_ba, rAny_ok (eqv_fldV _ _ _), rMove_ok, rNeq_ok, rPick_ok, rMove_ok, rAny_ok (trivial), rMove_ok, rCall_ok ve_a9, rAny_ok (eqv_fldV _ _ _), rEql_ok, rPick_ok, rMove_ok, trivial⟩, trivial⟩⟩⟩⟩⟩⟩
theorem ve_a7 : EvOk s_a7 v_a7 := EvOk.of (evFn_sound (C := cx_a7) xt_a7 xr_a7 xo_a7) q_a7
theorem a_law11_awake : v_a7 [] ⟨.e, 0⟩ (fun v _ => isT v) = true := by kernel_rfl
def s_a6 : Spec := sTrue
theorem e_a6 : Entry Try.prog 12 .none s_a6 := e_a7.awake ve_a7 a_law11_awake
attribute [irreducible] w_a7_j1b w_a7_j1 w_a7_j2b w_a7_j2 w_law11_awake_r_l7b w_law11_awake_r_l7 w_a7 s_a7 s_a6
def w_b4_j1b (K : Value → Mem → Prop) (v0 v12 : Value) (c2 : List Value) (σ : Mem) : Prop :=
xIf v12
 (xF (fBuild [(0, 1), (1, 1)] [.int .i64 0, .int .i64 0] []) [] fun v13 =>
xC (gStore 2 [(locP 2), v13] c2) fun c2 =>
xF fMove [.bool false] fun v3 =>
xO (gLoad 2 true [(locP 2)] c2) fun r2 =>
K (.tuple #[r2, v3]) σ)
 (xF fMove [v0] fun v14 =>
xF fNil [v14] fun v15 =>
xF (fFld 9) [v15] fun v16 =>
hLoad 2 true [v16] (fun v17 σ =>
xC (gStore 2 [(locP 2), v17] c2) fun c2 =>
xF fMove [.bool true] fun v3 =>
xO (gLoad 2 true [(locP 2)] c2) fun r2 =>
K (.tuple #[r2, v3]) σ) σ)
def w_b4_j1 (K : Value → Mem → Prop) (ts : List Value) (ls : List (List Value)) (σ : Mem) : Prop := w_b4_j1b K (ts.getD 0 poison) (ts.getD 1 poison) (ls.getD 0 []) σ
def w_b4 (a0 : Value) (K : Value → Mem → Prop) (σ : Mem) : Prop :=
xF fMove [.bool false] fun v3 =>
xJoin (w_b4_j1 K) fun J1 =>
xF fMove [a0] fun v4 =>
xF (fBin .eql .ptr) [v4, .pointer none] fun v5 =>
xF fMove [v5] fun v6 =>
xIf v6
 (xF fPick [.bool true, .bool true, undef] fun v12 =>
J1 [a0, v12] [[.int .i64 0, .int .i64 0]] σ)
 (xF fMove [a0] fun v7 =>
xF fNil [v7] fun v8 =>
xF (fFld 11) [v8] fun v9 =>
hLoad 1 false [v9] (fun v10 σ =>
xF (fUn .not) [v10] fun v11 =>
xF fPick [.bool false, .bool true, v11] fun v12 =>
J1 [a0, v12] [[.int .i64 0, .int .i64 0]] σ) σ)
def s_b4 : Spec := fun args K σ => match args with
  | [a0] => w_b4 a0 K σ
  | _ => False
noncomputable def cx_b4 : Cx := { P := Try.prog, T := [], loc := [(2, 2)], eqt := [(34, .ptr)], n := 18, keep := [(1000003, [0, 12], [2])] }
theorem q_b4 : FnS cx_b4 Try.f29 (bodyOf Try.f29) 1 = s_b4 := by
  funext args K σ
  rcases args with _ | ⟨a0, _ | ⟨b, r⟩⟩ <;> kernel_rfl
theorem e_b4 : Entry Try.prog 29 .read s_b4 :=
  entry (C := cx_b4) TOk.nil mixedOk Try.func29 (by kernel_rfl) (by kernel_rfl) (by kernel_rfl) q_b4
attribute [irreducible] w_b4_j1b w_b4_j1 w_b4 s_b4
def w_at (a0 a1 : Value) (K : Value → Mem → Prop) (σ : Mem) : Prop :=
xF fMove [.pointer none] fun v4 =>
xF fMove [a0] fun v5 =>
xF fMove [a1] fun v6 =>
xF (fBuild [(0, 1), (1, 1), (2, 2), (4, 1), (5, 1), (6, 1), (7, 1), (8, 1), (9, 4)] [.int .u64 0, .bool false, .int .i64 0, .int .i64 0, .int .i64 0, .int .u64 0, .int .i64 0, .pointer none, .pointer none, .int .i64 0, .int .u64 0, .int .i64 0, .int .i64 0] [0, 1]) [v5, v6] fun v7 =>
hBox 13 [v7] (fun v8 σ =>
xF fMove [v8] fun v4 =>
K v4 σ) σ
def s_at : Spec := fun args K σ => match args with
  | [a0, a1] => w_at a0 a1 K σ
  | _ => False
noncomputable def cx_at : Cx := { P := Try.prog, T := [], loc := [], eqt := [], n := 9, keep := [] }
theorem q_at : FnS cx_at Try.f69 (bodyOf Try.f69) 2 = s_at := by
  funext args K σ
  rcases args with _ | ⟨a0, _ | ⟨a1, _ | ⟨b, r⟩⟩⟩ <;> kernel_rfl
theorem e_at : Entry Try.prog 69 .write s_at :=
  entry (C := cx_at) TOk.nil mixedOk Try.func69 (by kernel_rfl) (by kernel_rfl) (by kernel_rfl) q_at
attribute [irreducible] w_at s_at
def w_ap (a0 a1 : Value) (K : Value → Mem → Prop) (σ : Mem) : Prop :=
xC (gBox 9 [a1] []) fun c3 =>
xF fMove [.bool false] fun v4 =>
xF fMove [a0] fun v5 =>
xO (gLoad 9 true [(locP 3)] c3) fun v6 =>
s_bi [v6] (fun v7 σ =>
xF (fBuild [(0, 1), (1, 1), (2, 1), (3, 1)] [.int .i64 0, .int .u64 0, .int .i64 0, .int .i64 0] [0, 3]) [.int .i64 3, v7] fun v8 =>
xF fNil [v5] fun v9 =>
xF (fFld 9) [v9] fun v10 =>
hStore 4 [v10, v8] (fun _v σ =>
xF fMove [.bool true] fun v4 =>
K v4 σ) σ) σ
def s_ap : Spec := fun args K σ => match args with
  | [a0, a1] => w_ap a0 a1 K σ
  | _ => False
noncomputable def cx_ap : Cx := { P := Try.prog, T := [(33, .read, s_bi)], loc := [(3, 3)], eqt := [], n := 11, keep := [] }
theorem q_ap : FnS cx_ap Try.f87 (bodyOf Try.f87) 2 = s_ap := by
  funext args K σ
  rcases args with _ | ⟨a0, _ | ⟨a1, _ | ⟨b, r⟩⟩⟩ <;> kernel_rfl
theorem e_ap : Entry Try.prog 87 .write s_ap :=
  entry (C := cx_ap) (TOk.cons e_bi TOk.nil) mixedOk Try.func87 (by kernel_rfl) (by kernel_rfl) (by kernel_rfl) q_ap
attribute [irreducible] w_ap s_ap
end Go.Fl
namespace Go.Fl
open Go Go.Proofs
set_option linter.unusedVariables false
set_option maxRecDepth 10000000
def w_aq_j1b (K : Value → Mem → Prop) (v0 v28 : Value) (c3 c5 : List Value) (σ : Mem) : Prop :=
xIf v28
 (xF fMove [v0] fun v29 =>
xO (gLoad 9 true [(locP 3)] c3) fun v30 =>
s_ap [v29, v30] (fun v31 σ =>
xF fMove [v31] fun v4 =>
K v4 σ) σ)
 (xF fMove [v0] fun v32 =>
xO (gLoad 9 true [(locP 3)] c3) fun v33 =>
xF (fFld 0) [(locP 3)] fun v34 =>
xO (gLoad 7 true [v34] c3) fun v35 =>
xF (fFld 0) [(locP 5)] fun v36 =>
xO (gLoad 1 false [v36] c5) fun v37 =>
s_bp [v35, v37] (fun v38 σ =>
s_bh [v33, v38] (fun v39 σ =>
xF fNil [v32] fun v40 =>
xF (fFld 5) [v40] fun v41 =>
hStore 1 [v41, v39] (fun _v σ =>
xF fMove [v0] fun v42 =>
xF fNil [v42] fun v43 =>
xF (fFld 5) [v43] fun v44 =>
hLoad 1 false [v44] (fun v45 σ =>
s_cz [v45] (fun v46 σ =>
xO (gLoad 2 true [(locP 5)] c5) fun v47 =>
s_as [v46, v47] (fun v48 σ =>
xF (fUn .not) [v48] fun v49 =>
xIf v49
 (xF fMove [v0] fun v50 =>
xO (gLoad 9 true [(locP 3)] c3) fun v51 =>
s_ap [v50, v51] (fun v52 σ =>
xF fMove [v52] fun v4 =>
K v4 σ) σ)
 (xF fMove [v0] fun v53 =>
xF fNil [v53] fun v54 =>
xF (fFld 4) [v54] fun v55 =>
hStore 1 [v55, .int .i64 1] (fun _v σ =>
xF fMove [.bool false] fun v4 =>
K v4 σ) σ)) σ) σ) σ) σ) σ) σ)
def w_aq_j1 (K : Value → Mem → Prop) (ts : List Value) (ls : List (List Value)) (σ : Mem) : Prop := w_aq_j1b K (ts.getD 0 poison) (ts.getD 1 poison) (ls.getD 0 []) (ls.getD 1 []) σ
def w_aq (a0 a1 : Value) (K : Value → Mem → Prop) (σ : Mem) : Prop :=
xC (gBox 9 [a1] []) fun c3 =>
xF fMove [.bool false] fun v4 =>
xF fMove [a0] fun v8 =>
xF fNil [v8] fun v9 =>
xF (fFld 0) [v9] fun v10 =>
hLoad 1 false [v10] (fun v11 σ =>
s_cr [v11] (fun v12 σ =>
xF fMove [v12] fun v7 =>
xF (fExt 0) [v7] fun v13 =>
xF (fExt 1) [v7] fun v14 =>
xC (gStore 2 [(locP 5), v13] [.int .i64 0, .int .i64 0]) fun c5 =>
xF fMove [v14] fun v6 =>
xF fMove [a0] fun v15 =>
xO (gLoad 2 true [(locP 5)] c5) fun v16 =>
xF fNil [v15] fun v17 =>
xF (fFld 2) [v17] fun v18 =>
hStore 2 [v18, v16] (fun _v σ =>
xJoin (w_aq_j1 K) fun J1 =>
xF fMove [v6] fun v19 =>
xF (fUn .not) [v19] fun v20 =>
xF fMove [v20] fun v21 =>
xIf v21
 (xF fPick [.bool true, .bool true, undef] fun v28 =>
J1 [a0, v28] [c3, c5] σ)
 (xF (fFld 0) [(locP 5)] fun v22 =>
xO (gLoad 1 false [v22] c5) fun v23 =>
xF (fFld 0) [(locP 3)] fun v24 =>
xF (fFld 1) [v24] fun v25 =>
xO (gLoad 1 false [v25] c3) fun v26 =>
xF (fBin .geq .no) [v23, v26] fun v27 =>
xF fPick [.bool false, .bool true, v27] fun v28 =>
J1 [a0, v28] [c3, c5] σ)) σ) σ) σ
def s_aq : Spec := fun args K σ => match args with
  | [a0, a1] => w_aq a0 a1 K σ
  | _ => False
noncomputable def cx_aq : Cx := { P := Try.prog, T := [(40, .none, s_cr), (87, .write, s_ap), (27, .none, s_bp), (51, .write, s_bh), (41, .none, s_cz), (57, .none, s_as)], loc := [(3, 3), (5, 5), (22, 5), (24, 3), (25, 3), (34, 3), (36, 5)], eqt := [], n := 56, keep := [(1000005, [0, 28], [3, 5])] }
theorem q_aq : FnS cx_aq Try.f86 (bodyOf Try.f86) 2 = s_aq := by
  funext args K σ
  rcases args with _ | ⟨a0, _ | ⟨a1, _ | ⟨b, r⟩⟩⟩ <;> kernel_rfl
theorem e_aq : Entry Try.prog 86 .write s_aq :=
  entry (C := cx_aq) (TOk.cons e_cr (TOk.cons e_ap (TOk.cons e_bp (TOk.cons e_bh (TOk.cons e_cz (TOk.cons e_as TOk.nil)))))) mixedOk Try.func86 (by kernel_rfl) (by kernel_rfl) (by kernel_rfl) q_aq
attribute [irreducible] w_aq_j1b w_aq_j1 w_aq s_aq
def w_ao (a0 a1 : Value) (K : Value → Mem → Prop) (σ : Mem) : Prop :=
xC (gBox 9 [a1] []) fun c3 =>
xF fMove [a0] fun v6 =>
xF fNil [v6] fun v7 =>
xF (fFld 5) [v7] fun v8 =>
hLoad 1 false [v8] (fun v9 σ =>
s_cz [v9] (fun v10 σ =>
xC (gStore 4 [(locP 4), v10] [.int .i64 0, .int .i64 0, .int .i64 0, .int .i64 0]) fun c4 =>
xF (fFld 3) [(locP 4)] fun v11 =>
xO (gLoad 1 false [v11] c4) fun v12 =>
xF (fBin .add .no) [v12, .int .i64 1] fun v13 =>
xF (fFld 0) [(locP 4)] fun v14 =>
xC (gStore 1 [v14, .int .i64 4] c4) fun c4 =>
xF (fFld 3) [(locP 4)] fun v15 =>
xC (gStore 1 [v15, v13] c4) fun c4 =>
xF fMove [a0] fun v16 =>
xF fNil [v16] fun v17 =>
xF (fFld 4) [v17] fun v18 =>
hStore 1 [v18, .int .i64 0] (fun _v σ =>
xO (gLoad 4 true [(locP 4)] c4) fun v19 =>
s_cx [v19] (fun v20 σ =>
xF fMove [v20] fun v5 =>
xO (gLoad 9 true [(locP 3)] c3) fun v21 =>
xF (fFld 0) [(locP 3)] fun v22 =>
xO (gLoad 7 true [v22] c3) fun v23 =>
xF fMove [a0] fun v24 =>
xF fNil [v24] fun v25 =>
xF (fFld 2) [v25] fun v26 =>
xF (fFld 0) [v26] fun v27 =>
hLoad 1 false [v27] (fun v28 σ =>
s_bp [v23, v28] (fun v29 σ =>
xF fMove [a0] fun v30 =>
xF fNil [v30] fun v31 =>
xF (fFld 5) [v31] fun v32 =>
hLoad 1 false [v32] (fun v33 σ =>
xF fMove [v5] fun v34 =>
s_bg [v21, v29, v33, v34] (fun v35 σ =>
xIf v35
 (xF fMove [a0] fun v36 =>
xF fMove [a0] fun v37 =>
xF fMove [a0] fun v38 =>
xF fNil [v38] fun v39 =>
xF (fFld 2) [v39] fun v40 =>
xF (fFld 0) [v40] fun v41 =>
hLoad 1 false [v41] (fun v42 σ =>
xF fMove [v5] fun v43 =>
xF fMove [a0] fun v44 =>
xF fNil [v44] fun v45 =>
xF (fFld 6) [v45] fun v46 =>
hLoad 1 false [v46] (fun v47 σ =>
s_au [v42, v43, v47] (fun v48 σ =>
xF fNil [v36] fun v49 =>
xF (fFld 7) [v49] fun v50 =>
hStore 1 [v50, v48] (fun _v σ =>
xF fNil [v37] fun v51 =>
xF (fFld 4) [v51] fun v52 =>
hStore 1 [v52, .int .i64 3] (fun _v σ =>
K (.tuple #[]) σ) σ) σ) σ) σ) σ)
 (K (.tuple #[]) σ)) σ) σ) σ) σ) σ) σ) σ) σ
def s_ao : Spec := fun args K σ => match args with
  | [a0, a1] => w_ao a0 a1 K σ
  | _ => False
noncomputable def cx_ao : Cx := { P := Try.prog, T := [(41, .none, s_cz), (28, .none, s_cx), (27, .none, s_bp), (48, .write, s_bg), (60, .write, s_au)], loc := [(3, 3), (4, 4), (11, 4), (14, 4), (15, 4), (22, 3)], eqt := [], n := 53, keep := [] }
theorem q_ao : FnS cx_ao Try.f88 (bodyOf Try.f88) 2 = s_ao := by
  funext args K σ
  rcases args with _ | ⟨a0, _ | ⟨a1, _ | ⟨b, r⟩⟩⟩ <;> kernel_rfl
theorem e_ao : Entry Try.prog 88 .write s_ao :=
  entry (C := cx_ao) (TOk.cons e_cz (TOk.cons e_cx (TOk.cons e_bp (TOk.cons e_bg (TOk.cons e_au TOk.nil))))) mixedOk Try.func88 (by kernel_rfl) (by kernel_rfl) (by kernel_rfl) q_ao
attribute [irreducible] w_ao s_ao
def w_bz_j1b (K : Value → Mem → Prop) (v0 v1 v19 : Value) (σ : Mem) : Prop :=
xIf v19
 (xF fMove [.int .i64 0] fun v4 =>
K v4 σ)
 (xF fMove [v0] fun v20 =>
xF fNil [v20] fun v21 =>
xF (fFld 1) [v21] fun v22 =>
hLoad 1 false [v22] (fun v23 σ =>
xF fMove [v1] fun v24 =>
xF (fIxS 1) [v23, v24] fun v25 =>
hLoad 1 false [v25] (fun v26 σ =>
xF fMove [v26] fun v4 =>
K v4 σ) σ) σ)
def w_bz_j1 (K : Value → Mem → Prop) (ts : List Value) (ls : List (List Value)) (σ : Mem) : Prop := w_bz_j1b K (ts.getD 0 poison) (ts.getD 1 poison) (ts.getD 2 poison) σ
def w_bz (a0 a1 : Value) (K : Value → Mem → Prop) (σ : Mem) : Prop :=
xF fMove [.int .i64 0] fun v4 =>
xJoin (w_bz_j1 K) fun J1 =>
xF fMove [a0] fun v5 =>
xF (fBin .eql .ptr) [v5, .pointer none] fun v6 =>
xF fMove [v6] fun v7 =>
xIf v7
 (xF fPick [.bool true, .bool true, undef] fun v10 =>
xF fMove [v10] fun v11 =>
xIf v11
 (xF fPick [.bool true, .bool true, undef] fun v19 =>
J1 [a0, a1, v19] [] σ)
 (xF fMove [a1] fun v12 =>
xF fMove [a0] fun v13 =>
xF fNil [v13] fun v14 =>
xF (fFld 0) [v14] fun v15 =>
hLoad 1 false [v15] (fun v16 σ =>
xF fLen [v16] fun v17 =>
xF (fBin .geq .no) [v12, v17] fun v18 =>
xF fPick [.bool false, .bool true, v18] fun v19 =>
J1 [a0, a1, v19] [] σ) σ))
 (xF fMove [a1] fun v8 =>
xF (fBin .lss .no) [v8, .int .i64 0] fun v9 =>
xF fPick [.bool false, .bool true, v9] fun v10 =>
xF fMove [v10] fun v11 =>
xIf v11
 (xF fPick [.bool true, .bool true, undef] fun v19 =>
J1 [a0, a1, v19] [] σ)
 (xF fMove [a1] fun v12 =>
xF fMove [a0] fun v13 =>
xF fNil [v13] fun v14 =>
xF (fFld 0) [v14] fun v15 =>
hLoad 1 false [v15] (fun v16 σ =>
xF fLen [v16] fun v17 =>
xF (fBin .geq .no) [v12, v17] fun v18 =>
xF fPick [.bool false, .bool true, v18] fun v19 =>
J1 [a0, a1, v19] [] σ) σ))
def s_bz : Spec := fun args K σ => match args with
  | [a0, a1] => w_bz a0 a1 K σ
  | _ => False
noncomputable def cx_bz : Cx := { P := Try.prog, T := [], loc := [], eqt := [(25, .ptr)], n := 27, keep := [(1000003, [0, 1, 19], [])] }
theorem q_bz : FnS cx_bz Try.f89 (bodyOf Try.f89) 2 = s_bz := by
  funext args K σ
  rcases args with _ | ⟨a0, _ | ⟨a1, _ | ⟨b, r⟩⟩⟩ <;> kernel_rfl
theorem e_bz : Entry Try.prog 89 .read s_bz :=
  entry (C := cx_bz) TOk.nil mixedOk Try.func89 (by kernel_rfl) (by kernel_rfl) (by kernel_rfl) q_bz
attribute [irreducible] w_bz_j1b w_bz_j1 w_bz s_bz
def w_an_j1b (K : Value → Mem → Prop) (σ : Mem) : Prop :=
xF fMove [.bool false] fun v4 =>
K v4 σ
def w_an_j1 (K : Value → Mem → Prop) (ts : List Value) (ls : List (List Value)) (σ : Mem) : Prop := w_an_j1b K σ
def w_an (a0 a1 : Value) (K : Value → Mem → Prop) (σ : Mem) : Prop :=
xC (gBox 9 [a1] []) fun c3 =>
xF fMove [.bool false] fun v4 =>
xF (fFld 0) [(locP 3)] fun v8 =>
xO (gLoad 7 true [v8] c3) fun v9 =>
xF fMove [a0] fun v10 =>
xF fNil [v10] fun v11 =>
xF (fFld 2) [v11] fun v12 =>
xF (fFld 0) [v12] fun v13 =>
hLoad 1 false [v13] (fun v14 σ =>
s_bp [v9, v14] (fun v15 σ =>
xF fMove [v15] fun v5 =>
xJoin (w_an_j1 K) fun J1 =>
xF fMove [a0] fun v16 =>
xF fNil [v16] fun v17 =>
xF (fFld 4) [v17] fun v18 =>
hLoad 1 false [v18] (fun v19 σ =>
xF (fBin .eql .no) [v19, .int .i64 0] fun v27 =>
xF fMove [v27] fun v26 =>
xIf v26
 (xF fMove [a0] fun v28 =>
xO (gLoad 9 true [(locP 3)] c3) fun v29 =>
s_aq [v28, v29] (fun v30 σ =>
xF fMove [v30] fun v4 =>
K v4 σ) σ)
 (xF (fBin .eql .no) [v19, .int .i64 1] fun v32 =>
xF fMove [v32] fun v31 =>
xIf v31
 (xO (gLoad 9 true [(locP 3)] c3) fun v33 =>
xF fMove [a0] fun v34 =>
xF fNil [v34] fun v35 =>
xF (fFld 5) [v35] fun v36 =>
hLoad 1 false [v36] (fun v37 σ =>
s_cz [v37] (fun v38 σ =>
xF (fFldV 1 1 false) [v38] fun v39 =>
s_bh [v33, v39] (fun v40 σ =>
s_cs [v40] (fun v41 σ =>
xC (gStore 5 [(locP 6), v41] [.int .i64 0, .int .i64 0, .int .i64 0, .int .i64 0, .bool false]) fun c6 =>
xF (fFld 4) [(locP 6)] fun v42 =>
xO (gLoad 1 false [v42] c6) fun v43 =>
xF fMove [a0] fun v44 =>
xF fNil [v44] fun v45 =>
xF (fFld 1) [v45] fun v46 =>
hLoad 1 false [v46] (fun v47 σ =>
xF (fBin .neq .bool) [v43, v47] fun v48 =>
xIf v48
 (xF fMove [a0] fun v49 =>
xO (gLoad 9 true [(locP 3)] c3) fun v50 =>
s_ap [v49, v50] (fun v51 σ =>
xF fMove [v51] fun v4 =>
K v4 σ) σ)
 (xF fMove [a0] fun v52 =>
xF fMove [a0] fun v53 =>
xF (fFld 1) [(locP 6)] fun v54 =>
xO (gLoad 1 false [v54] c6) fun v55 =>
xF fNil [v52] fun v56 =>
xF (fFld 6) [v56] fun v57 =>
hStore 1 [v57, v55] (fun _v σ =>
xF fNil [v53] fun v58 =>
xF (fFld 4) [v58] fun v59 =>
hStore 1 [v59, .int .i64 2] (fun _v σ =>
xF fMove [a0] fun v60 =>
xF fNil [v60] fun v61 =>
xF (fFld 5) [v61] fun v62 =>
hLoad 1 false [v62] (fun v63 σ =>
s_cz [v63] (fun v64 σ =>
xF (fFldV 0 1 false) [v64] fun v65 =>
xF (fBin .eql .no) [v65, .int .i64 4] fun v66 =>
xIf v66
 (xF fMove [a0] fun v67 =>
xF fMove [a0] fun v68 =>
xF fMove [a0] fun v69 =>
xF fNil [v69] fun v70 =>
xF (fFld 2) [v70] fun v71 =>
xF (fFld 0) [v71] fun v72 =>
hLoad 1 false [v72] (fun v73 σ =>
xF fMove [a0] fun v74 =>
xF fNil [v74] fun v75 =>
xF (fFld 5) [v75] fun v76 =>
hLoad 1 false [v76] (fun v77 σ =>
xF fMove [a0] fun v78 =>
xF fNil [v78] fun v79 =>
xF (fFld 6) [v79] fun v80 =>
hLoad 1 false [v80] (fun v81 σ =>
s_au [v73, v77, v81] (fun v82 σ =>
xF fNil [v67] fun v83 =>
xF (fFld 7) [v83] fun v84 =>
hStore 1 [v84, v82] (fun _v σ =>
xF fNil [v68] fun v85 =>
xF (fFld 4) [v85] fun v86 =>
hStore 1 [v86, .int .i64 4] (fun _v σ =>
J1 [] [] σ) σ) σ) σ) σ) σ) σ)
 (J1 [] [] σ)) σ) σ) σ) σ)) σ) σ) σ) σ) σ)
 (xF (fBin .eql .no) [v19, .int .i64 2] fun v88 =>
xF fMove [v88] fun v87 =>
xIf v87
 (xF fMove [a0] fun v89 =>
xO (gLoad 9 true [(locP 3)] c3) fun v90 =>
s_ao [v89, v90] (fun v91 σ =>
J1 [] [] σ) σ)
 (xF (fBin .eql .no) [v19, .int .i64 3] fun v93 =>
xF fMove [v93] fun v92 =>
xIf v92
 (xF fMove [a0] fun v94 =>
xF fNil [v94] fun v95 =>
xF (fFld 7) [v95] fun v96 =>
hLoad 1 false [v96] (fun v97 σ =>
xO (gLoad 9 true [(locP 3)] c3) fun v98 =>
s_ar [v97, v98] (fun v99 σ =>
xIf v99
 (xF fMove [a0] fun v100 =>
xF fMove [a0] fun v101 =>
xF (fFld 7) [(locP 3)] fun v102 =>
xO (gLoad 1 false [v102] c3) fun v103 =>
xF fMove [v5] fun v104 =>
s_bz [v103, v104] (fun v105 σ =>
xF (fBuild [(0, 1), (1, 1), (2, 1), (3, 1)] [.int .i64 0, .int .u64 0, .int .i64 0, .int .i64 0] [3]) [v105] fun v106 =>
xF fNil [v100] fun v107 =>
xF (fFld 9) [v107] fun v108 =>
hStore 4 [v108, v106] (fun _v σ =>
xF fNil [v101] fun v109 =>
xF (fFld 4) [v109] fun v110 =>
hStore 1 [v110, .int .i64 5] (fun _v σ =>
J1 [] [] σ) σ) σ) σ)
 (J1 [] [] σ)) σ) σ)
 (xF (fBin .eql .no) [v19, .int .i64 4] fun v112 =>
xF fMove [v112] fun v111 =>
xIf v111
 (xF fMove [a0] fun v113 =>
xF fNil [v113] fun v114 =>
xF (fFld 7) [v114] fun v115 =>
hLoad 1 false [v115] (fun v116 σ =>
xO (gLoad 9 true [(locP 3)] c3) fun v117 =>
s_ar [v116, v117] (fun v118 σ =>
xIf v118
 (xF fMove [a0] fun v119 =>
xF fNil [v119] fun v120 =>
xF (fFld 4) [v120] fun v121 =>
hStore 1 [v121, .int .i64 0] (fun _v σ =>
J1 [] [] σ) σ)
 (J1 [] [] σ)) σ) σ)
 (xF (fBin .eql .no) [v19, .int .i64 5] fun v123 =>
xF fMove [v123] fun v122 =>
xIf v122
 (xF (fFld 0) [(locP 3)] fun v124 =>
xO (gLoad 7 true [v124] c3) fun v125 =>
xF fMove [a0] fun v126 =>
xF fNil [v126] fun v127 =>
xF (fFld 5) [v127] fun v128 =>
hLoad 1 false [v128] (fun v129 σ =>
s_cz [v129] (fun v130 σ =>
xF (fFldV 1 1 false) [v130] fun v131 =>
s_bm [v125, v131] (fun v132 σ =>
xF fMove [v132] fun v7 =>
xO (gLoad 9 true [(locP 3)] c3) fun v133 =>
xF (fFld 0) [(locP 3)] fun v134 =>
xO (gLoad 7 true [v134] c3) fun v135 =>
xF fMove [v7] fun v136 =>
s_bd [v135, v136] (fun v137 σ =>
xF (fBin .add .no) [v137, .int .i64 1] fun v138 =>
xF fMove [a0] fun v139 =>
xF fNil [v139] fun v140 =>
xF (fFld 6) [v140] fun v141 =>
hLoad 1 false [v141] (fun v142 σ =>
s_be [v142] (fun v143 σ =>
s_bo [v143] (fun v144 σ =>
xF (fUn .neg) [v144] fun v145 =>
s_bf [v133, v138, v145] (fun v146 σ =>
xF fMove [a0] fun v147 =>
xF fMove [a0] fun v148 =>
xF fMove [a0] fun v149 =>
xF fNil [v149] fun v150 =>
xF (fFld 2) [v150] fun v151 =>
xF (fFld 0) [v151] fun v152 =>
hLoad 1 false [v152] (fun v153 σ =>
s_cm [v153] (fun v154 σ =>
xF fNil [v147] fun v155 =>
xF (fFld 8) [v155] fun v156 =>
hStore 1 [v156, v154] (fun _v σ =>
xF fNil [v148] fun v157 =>
xF (fFld 4) [v157] fun v158 =>
hStore 1 [v158, .int .i64 6] (fun _v σ =>
xF fMove [a0] fun v159 =>
xF fNil [v159] fun v160 =>
xF (fFld 2) [v160] fun v161 =>
xF (fFld 1) [v161] fun v162 =>
hLoad 1 false [v162] (fun v163 σ =>
xF (fFld 0) [(locP 3)] fun v164 =>
xF (fFld 4) [v164] fun v165 =>
xO (gLoad 1 false [v165] c3) fun v166 =>
xF (fBin .geq .no) [v163, v166] fun v167 =>
xF fMove [v167] fun v4 =>
K v4 σ) σ) σ) σ) σ) σ) σ) σ) σ) σ) σ) σ) σ) σ)
 (xF fMove [a0] fun v20 =>
xF fNil [v20] fun v21 =>
xF (fFld 8) [v21] fun v22 =>
hLoad 1 false [v22] (fun v23 σ =>
xO (gLoad 9 true [(locP 3)] c3) fun v24 =>
s_cl [v23, v24] (fun v25 σ =>
xF fMove [v25] fun v4 =>
K v4 σ) σ) σ))))))) σ) σ) σ
def s_an : Spec := fun args K σ => match args with
  | [a0, a1] => w_an a0 a1 K σ
  | _ => False
noncomputable def cx_an : Cx := { P := Try.prog, T := [(27, .none, s_bp), (86, .write, s_aq), (41, .none, s_cz), (51, .write, s_bh), (32, .none, s_cs), (87, .write, s_ap), (60, .write, s_au), (88, .write, s_ao), (61, .write, s_ar), (89, .read, s_bz), (22, .none, s_bm), (21, .none, s_bd), (31, .write, s_be), (30, .none, s_bo), (85, .write, s_bf), (90, .write, s_cm), (91, .write, s_cl)], loc := [(3, 3), (6, 6), (8, 3), (42, 6), (54, 6), (102, 3), (124, 3), (134, 3), (164, 3), (165, 3)], eqt := [(4, .bool)], n := 168, keep := [(1000027, [], [])] }
theorem q_an : FnS cx_an Try.f70 (bodyOf Try.f70) 2 = s_an := by
  funext args K σ
  rcases args with _ | ⟨a0, _ | ⟨a1, _ | ⟨b, r⟩⟩⟩ <;> kernel_rfl
theorem e_an : Entry Try.prog 70 .write s_an :=
  entry (C := cx_an) (TOk.cons e_bp (TOk.cons e_aq (TOk.cons e_cz (TOk.cons e_bh (TOk.cons e_cs (TOk.cons e_ap (TOk.cons e_au (TOk.cons e_ao (TOk.cons e_ar (TOk.cons e_bz (TOk.cons e_bm (TOk.cons e_bd (TOk.cons e_be (TOk.cons e_bo (TOk.cons e_bf (TOk.cons e_cm (TOk.cons e_cl TOk.nil))))))))))))))))) mixedOk Try.func70 (by kernel_rfl) (by kernel_rfl) (by kernel_rfl) q_an
attribute [irreducible] w_an_j1b w_an_j1 w_an s_an
def w_am (a0 : Value) (K : Value → Mem → Prop) (σ : Mem) : Prop :=
xF fMove [a0] fun v3 =>
xF (fBin .eql .ptr) [v3, .pointer none] fun v4 =>
xIf v4
 (xF (fBuild [(0, 1), (1, 1), (2, 1), (3, 1)] [.int .i64 0, .int .u64 0, .int .i64 0, .int .i64 0] [0]) [.int .i64 1] fun v5 =>
xC (gStore 4 [(locP 2), v5] [.int .i64 0, .int .u64 0, .int .i64 0, .int .i64 0]) fun c2 =>
xO (gLoad 4 true [(locP 2)] c2) fun r2 =>
K r2 σ)
 (xF fMove [a0] fun v6 =>
xF fNil [v6] fun v7 =>
xF (fFld 9) [v7] fun v8 =>
hLoad 4 true [v8] (fun v9 σ =>
xC (gStore 4 [(locP 2), v9] [.int .i64 0, .int .u64 0, .int .i64 0, .int .i64 0]) fun c2 =>
xO (gLoad 4 true [(locP 2)] c2) fun r2 =>
K r2 σ) σ)
def s_am : Spec := fun args K σ => match args with
  | [a0] => w_am a0 K σ
  | _ => False
noncomputable def cx_am : Cx := { P := Try.prog, T := [], loc := [(2, 2)], eqt := [(108, .ptr)], n := 10, keep := [] }
theorem q_am : FnS cx_am Try.f71 (bodyOf Try.f71) 1 = s_am := by
  funext args K σ
  rcases args with _ | ⟨a0, _ | ⟨b, r⟩⟩ <;> kernel_rfl
theorem e_am : Entry Try.prog 71 .read s_am :=
  entry (C := cx_am) TOk.nil mixedOk Try.func71 (by kernel_rfl) (by kernel_rfl) (by kernel_rfl) q_am
attribute [irreducible] w_am s_am
def w_ax_j1b (K : Value → Mem → Prop) (v7 : Value) (c6 : List Value) (σ : Mem) : Prop :=
xF fMove [v7] fun v19 =>
s_am [v19] (fun v20 σ =>
xC (gStore 4 [(locP 6), v20] c6) fun c6 =>
xO (gLoad 4 true [(locP 6)] c6) fun r6 =>
K r6 σ) σ
def w_ax_j1 (K : Value → Mem → Prop) (ts : List Value) (ls : List (List Value)) (σ : Mem) : Prop := w_ax_j1b K (ts.getD 0 poison) (ls.getD 0 []) σ
def w_law09_Drop_l4b (K : Value → Mem → Prop) (J1 : List Value → List (List Value) → Mem → Prop) (R1 : List Value → List (List Value) → Mem → Prop) (v7 v8 : Value) (c3 c6 : List Value) (σ : Mem) : Prop :=
xF fMove [v8] fun v12 =>
xF (fBin .lss .no) [v12, .int .i64 200] fun v13 =>
xIf v13
 (xF fMove [v7] fun v16 =>
xO (gLoad 9 true [(locP 3)] c3) fun v17 =>
s_an [v16, v17] (fun v18 σ =>
xIf v18
 (J1 [v7] [c6] σ)
 (xF fMove [v8] fun v14 =>
xF (fBin .add .no) [v14, .int .i64 1] fun v15 =>
xF fMove [v15] fun v8 =>
R1 [v7, v8] [c3, c6] σ)) σ)
 (J1 [v7] [c6] σ)
def w_law09_Drop_l4 (K : Value → Mem → Prop) (J1 : List Value → List (List Value) → Mem → Prop) (R1 : List Value → List (List Value) → Mem → Prop) (ts : List Value) (ls : List (List Value)) (σ : Mem) : Prop := w_law09_Drop_l4b K J1 R1 (ts.getD 0 poison) (ts.getD 1 poison) (ls.getD 0 []) (ls.getD 1 []) σ
def w_ax (a0 a1 a2 : Value) (K : Value → Mem → Prop) (σ : Mem) : Prop :=
xC (gBox 9 [a0] []) fun c3 =>
xF fMove [a1] fun v9 =>
xF fMove [a2] fun v10 =>
s_at [v9, v10] (fun v11 σ =>
xF fMove [v11] fun v7 =>
xJoin (w_ax_j1 K) fun J1 =>
xF fMove [.int .i64 0] fun v8 =>
xLoop (w_law09_Drop_l4 K J1) [v7, v8] [c3, [.int .i64 0, .int .u64 0, .int .i64 0, .int .i64 0]] σ) σ
def s_ax : Spec := fun args K σ => match args with
  | [a0, a1, a2] => w_ax a0 a1 a2 K σ
  | _ => False
noncomputable def cx_ax : Cx := { P := Try.prog, T := [(69, .write, s_at), (70, .write, s_an), (71, .read, s_am)], loc := [(3, 3), (6, 6)], eqt := [], n := 21, keep := [(4, [7, 8], [3, 6]), (1000007, [7], [6])] }
theorem q_ax : FnS cx_ax Try.f36 (bodyOf Try.f36) 3 = s_ax := by
  funext args K σ
  rcases args with _ | ⟨a0, _ | ⟨a1, _ | ⟨a2, _ | ⟨b, r⟩⟩⟩⟩ <;> kernel_rfl
theorem e_ax : Entry Try.prog 36 .write s_ax :=
  entry (C := cx_ax) (TOk.cons e_at (TOk.cons e_an (TOk.cons e_am TOk.nil))) mixedOk Try.func36 (by kernel_rfl) (by kernel_rfl) (by kernel_rfl) q_ax
attribute [irreducible] w_ax_j1b w_ax_j1 w_law09_Drop_l4b w_law09_Drop_l4 w_ax s_ax
def w_a1_j5b (K : Value → Mem → Prop) (v10 v16 v17 : Value) (c5 c15 : List Value) (σ : Mem) : Prop :=
xF (fFld 7) [(locP 5)] fun v98 =>
xO (gLoad 1 false [v98] c5) fun v99 =>
xF (fFld 0) [(locP 15)] fun v100 =>
xO (gLoad 1 false [v100] c15) fun v101 =>
s_bw [v99, v101] (fun v102 σ =>
s_cs [v102] (fun v103 σ =>
xF (fFldV 0 1 false) [v103] fun v104 =>
xF fMove [v104] fun v19 =>
xF fMove [v17] fun v105 =>
xF (fBin .eql .no) [v105, .int .u64 0] fun v106 =>
xF fMove [v106] fun v107 =>
xIf v107
 (xF fMove [v10] fun v108 =>
s_b3 [v108] (fun v109 σ =>
xF (fBin .eql .no) [v109, .int .i64 2] fun v110 =>
xF fMove [v110] fun v111 =>
xIf v111
 (xF fMove [v16] fun v112 =>
xF (fUn .not) [v112] fun v113 =>
xF fMove [v113] fun v114 =>
xIf v114
 (xF fPick [.bool true, .bool true, undef] fun v117 =>
xF fPick [.bool true, v117, .bool false] fun v118 =>
xF fMove [v118] fun v119 =>
xIf v119
 (xF fPick [.bool true, .bool true, undef] fun v127 =>
xF fPick [.bool true, v127, .bool false] fun v128 =>
xF fMove [v128] fun v4 =>
K v4 σ)
 (xF fMove [v10] fun v120 =>
s_b3 [v120] (fun v121 σ =>
xF (fBin .eql .no) [v121, .int .i64 1] fun v122 =>
xF fMove [v122] fun v123 =>
xIf v123
 (xF fMove [v19] fun v124 =>
xF (fBin .eql .no) [v124, .int .i64 2] fun v125 =>
xF fPick [.bool true, v125, .bool false] fun v126 =>
xF fPick [.bool false, .bool true, v126] fun v127 =>
xF fPick [.bool true, v127, .bool false] fun v128 =>
xF fMove [v128] fun v4 =>
K v4 σ)
 (xF fPick [.bool false, undef, .bool false] fun v126 =>
xF fPick [.bool false, .bool true, v126] fun v127 =>
xF fPick [.bool true, v127, .bool false] fun v128 =>
xF fMove [v128] fun v4 =>
K v4 σ)) σ))
 (xF fMove [v19] fun v115 =>
xF (fBin .eql .no) [v115, .int .i64 3] fun v116 =>
xF fPick [.bool false, .bool true, v116] fun v117 =>
xF fPick [.bool true, v117, .bool false] fun v118 =>
xF fMove [v118] fun v119 =>
xIf v119
 (xF fPick [.bool true, .bool true, undef] fun v127 =>
xF fPick [.bool true, v127, .bool false] fun v128 =>
xF fMove [v128] fun v4 =>
K v4 σ)
 (xF fMove [v10] fun v120 =>
s_b3 [v120] (fun v121 σ =>
xF (fBin .eql .no) [v121, .int .i64 1] fun v122 =>
xF fMove [v122] fun v123 =>
xIf v123
 (xF fMove [v19] fun v124 =>
xF (fBin .eql .no) [v124, .int .i64 2] fun v125 =>
xF fPick [.bool true, v125, .bool false] fun v126 =>
xF fPick [.bool false, .bool true, v126] fun v127 =>
xF fPick [.bool true, v127, .bool false] fun v128 =>
xF fMove [v128] fun v4 =>
K v4 σ)
 (xF fPick [.bool false, undef, .bool false] fun v126 =>
xF fPick [.bool false, .bool true, v126] fun v127 =>
xF fPick [.bool true, v127, .bool false] fun v128 =>
xF fMove [v128] fun v4 =>
K v4 σ)) σ)))
 (xF fPick [.bool false, undef, .bool false] fun v118 =>
xF fMove [v118] fun v119 =>
xIf v119
 (xF fPick [.bool true, .bool true, undef] fun v127 =>
xF fPick [.bool true, v127, .bool false] fun v128 =>
xF fMove [v128] fun v4 =>
K v4 σ)
 (xF fMove [v10] fun v120 =>
s_b3 [v120] (fun v121 σ =>
xF (fBin .eql .no) [v121, .int .i64 1] fun v122 =>
xF fMove [v122] fun v123 =>
xIf v123
 (xF fMove [v19] fun v124 =>
xF (fBin .eql .no) [v124, .int .i64 2] fun v125 =>
xF fPick [.bool true, v125, .bool false] fun v126 =>
xF fPick [.bool false, .bool true, v126] fun v127 =>
xF fPick [.bool true, v127, .bool false] fun v128 =>
xF fMove [v128] fun v4 =>
K v4 σ)
 (xF fPick [.bool false, undef, .bool false] fun v126 =>
xF fPick [.bool false, .bool true, v126] fun v127 =>
xF fPick [.bool true, v127, .bool false] fun v128 =>
xF fMove [v128] fun v4 =>
K v4 σ)) σ))) σ)
 (xF fPick [.bool false, undef, .bool false] fun v128 =>
xF fMove [v128] fun v4 =>
K v4 σ)) σ) σ
def w_a1_j5 (K : Value → Mem → Prop) (ts : List Value) (ls : List (List Value)) (σ : Mem) : Prop := w_a1_j5b K (ts.getD 0 poison) (ts.getD 1 poison) (ts.getD 2 poison) (ls.getD 0 []) (ls.getD 1 []) σ
def w_law11_MoveDrops_l21b (K : Value → Mem → Prop) (J5 : List Value → List (List Value) → Mem → Prop) (R1 : List Value → List (List Value) → Mem → Prop) (v10 v16 v17 v18 : Value) (c5 c15 : List Value) (σ : Mem) : Prop :=
xF fMove [v18] fun v81 =>
xF (fFld 0) [(locP 5)] fun v82 =>
xF (fFld 2) [v82] fun v83 =>
xO (gLoad 1 false [v83] c5) fun v84 =>
xF (fBin .lss .no) [v81, v84] fun v85 =>
xIf v85
 (xF fMove [v17] fun v88 =>
xF (fFld 7) [(locP 5)] fun v89 =>
xO (gLoad 1 false [v89] c5) fun v90 =>
xF (fFld 0) [(locP 5)] fun v91 =>
xO (gLoad 7 true [v91] c5) fun v92 =>
xF fMove [v18] fun v93 =>
s_bd [v92, v93] (fun v94 σ =>
xF (fBin .add .no) [v94, .int .i64 1] fun v95 =>
s_bw [v90, v95] (fun v96 σ =>
xF (fBin .add .no) [v88, v96] fun v97 =>
xF fMove [v97] fun v17 =>
xF fMove [v18] fun v86 =>
xF (fBin .add .no) [v86, .int .i64 1] fun v87 =>
xF fMove [v87] fun v18 =>
R1 [v10, v16, v17, v18] [c5, c15] σ) σ) σ)
 (J5 [v10, v16, v17] [c5, c15] σ)
def w_law11_MoveDrops_l21 (K : Value → Mem → Prop) (J5 : List Value → List (List Value) → Mem → Prop) (R1 : List Value → List (List Value) → Mem → Prop) (ts : List Value) (ls : List (List Value)) (σ : Mem) : Prop := w_law11_MoveDrops_l21b K J5 R1 (ts.getD 0 poison) (ts.getD 1 poison) (ts.getD 2 poison) (ts.getD 3 poison) (ls.getD 0 []) (ls.getD 1 []) σ
def w_a1_j4b (K : Value → Mem → Prop) (v10 v16 v80 : Value) (c5 c15 : List Value) (σ : Mem) : Prop :=
xIf v80
 (xF fMove [.bool false] fun v4 =>
K v4 σ)
 (xF fMove [.int .u64 0] fun v17 =>
xJoin (w_a1_j5 K) fun J5 =>
xF fMove [.int .i64 0] fun v18 =>
xLoop (w_law11_MoveDrops_l21 K J5) [v10, v16, v17, v18] [c5, c15] σ)
def w_a1_j4 (K : Value → Mem → Prop) (ts : List Value) (ls : List (List Value)) (σ : Mem) : Prop := w_a1_j4b K (ts.getD 0 poison) (ts.getD 1 poison) (ts.getD 2 poison) (ls.getD 0 []) (ls.getD 1 []) σ
def w_a1_j3b (K : Value → Mem → Prop) (v6 v10 v11 : Value) (c5 : List Value) (σ : Mem) : Prop :=
xF fMove [v10] fun v68 =>
s_b4 [v68] (fun v69 σ =>
xF fMove [v69] fun v67 =>
xF (fExt 0) [v67] fun v70 =>
xF (fExt 1) [v67] fun v71 =>
xC (gStore 2 [(locP 15), v70] [.int .i64 0, .int .i64 0]) fun c15 =>
xF fMove [v71] fun v16 =>
xJoin (w_a1_j4 K) fun J4 =>
xF fMove [v11] fun v72 =>
xF (fUn .not) [v72] fun v73 =>
xF fMove [v73] fun v74 =>
xIf v74
 (xF fPick [.bool true, .bool true, undef] fun v80 =>
J4 [v10, v16, v80] [c5, c15] σ)
 (xO (gLoad 9 true [(locP 5)] c5) fun v75 =>
xF fMove [v6] fun v76 =>
s_a9 [v75, v76, .int .i64 0] (fun v77 σ =>
xF (fFldV 0 1 false) [v77] fun v78 =>
xF (fBin .neq .no) [v78, .int .i64 3] fun v79 =>
xF fPick [.bool false, .bool true, v79] fun v80 =>
J4 [v10, v16, v80] [c5, c15] σ) σ)) σ
def w_a1_j3 (K : Value → Mem → Prop) (ts : List Value) (ls : List (List Value)) (σ : Mem) : Prop := w_a1_j3b K (ts.getD 0 poison) (ts.getD 1 poison) (ts.getD 2 poison) (ls.getD 0 []) σ
def w_a1_j6b (K : Value → Mem → Prop) (J3 : List Value → List (List Value) → Mem → Prop) (R1 : List Value → List (List Value) → Mem → Prop) (v6 v10 v14 : Value) (c5 : List Value) (σ : Mem) : Prop :=
xF fMove [v10] fun v64 =>
xO (gLoad 9 true [(locP 5)] c5) fun v65 =>
s_b5 [v64, v65] (fun v66 σ =>
xF fMove [v66] fun v11 =>
xF fMove [v14] fun v62 =>
xF (fBin .add .no) [v62, .int .i64 1] fun v63 =>
xF fMove [v63] fun v14 =>
R1 [v6, v10, v11, v14] [c5] σ) σ
def w_a1_j6 (K : Value → Mem → Prop) (J3 : List Value → List (List Value) → Mem → Prop) (R1 : List Value → List (List Value) → Mem → Prop) (ts : List Value) (ls : List (List Value)) (σ : Mem) : Prop := w_a1_j6b K J3 R1 (ts.getD 0 poison) (ts.getD 1 poison) (ts.getD 2 poison) (ls.getD 0 []) σ
def w_law11_MoveDrops_l13b (K : Value → Mem → Prop) (J3 : List Value → List (List Value) → Mem → Prop) (R1 : List Value → List (List Value) → Mem → Prop) (v6 v10 v11 v14 : Value) (c5 : List Value) (σ : Mem) : Prop :=
xJoin (w_a1_j6 K J3 R1) fun J6 =>
xF fMove [v14] fun v56 =>
xF (fBin .lss .no) [v56, .int .i64 200] fun v57 =>
xF fMove [v57] fun v58 =>
xIf v58
 (xF fMove [v11] fun v59 =>
xF (fUn .not) [v59] fun v60 =>
xF fPick [.bool true, v60, .bool false] fun v61 =>
xIf v61
 (J6 [v6, v10, v14] [c5] σ)
 (J3 [v6, v10, v11] [c5] σ))
 (xF fPick [.bool false, undef, .bool false] fun v61 =>
xIf v61
 (J6 [v6, v10, v14] [c5] σ)
 (J3 [v6, v10, v11] [c5] σ))
def w_law11_MoveDrops_l13 (K : Value → Mem → Prop) (J3 : List Value → List (List Value) → Mem → Prop) (R1 : List Value → List (List Value) → Mem → Prop) (ts : List Value) (ls : List (List Value)) (σ : Mem) : Prop := w_law11_MoveDrops_l13b K J3 R1 (ts.getD 0 poison) (ts.getD 1 poison) (ts.getD 2 poison) (ts.getD 3 poison) (ls.getD 0 []) σ
def w_a1_j2b (K : Value → Mem → Prop) (v6 v10 v11 : Value) (c5 : List Value) (σ : Mem) : Prop :=
xO (gLoad 9 true [(locP 5)] c5) fun v51 =>
xF fMove [v6] fun v52 =>
s_ax [v51, v52, .bool false] (fun v53 σ =>
xF (fFldV 0 1 false) [v53] fun v54 =>
xF (fBin .neq .no) [v54, .int .i64 0] fun v55 =>
xIf v55
 (xF fMove [.bool false] fun v4 =>
K v4 σ)
 (xJoin (w_a1_j3 K) fun J3 =>
xF fMove [.int .i64 0] fun v14 =>
xLoop (w_law11_MoveDrops_l13 K J3) [v6, v10, v11, v14] [c5] σ)) σ
def w_a1_j2 (K : Value → Mem → Prop) (ts : List Value) (ls : List (List Value)) (σ : Mem) : Prop := w_a1_j2b K (ts.getD 0 poison) (ts.getD 1 poison) (ts.getD 2 poison) (ls.getD 0 []) σ
def w_a1_j7b (K : Value → Mem → Prop) (J2 : List Value → List (List Value) → Mem → Prop) (R1 : List Value → List (List Value) → Mem → Prop) (v6 v10 v12 v13 : Value) (c5 : List Value) (σ : Mem) : Prop :=
xF fMove [v10] fun v48 =>
xO (gLoad 9 true [(locP 5)] c5) fun v49 =>
s_b5 [v48, v49] (fun v50 σ =>
xF fMove [v50] fun v11 =>
xF fMove [v13] fun v46 =>
xF (fBin .add .no) [v46, .int .i64 1] fun v47 =>
xF fMove [v47] fun v13 =>
R1 [v6, v10, v11, v12, v13] [c5] σ) σ
def w_a1_j7 (K : Value → Mem → Prop) (J2 : List Value → List (List Value) → Mem → Prop) (R1 : List Value → List (List Value) → Mem → Prop) (ts : List Value) (ls : List (List Value)) (σ : Mem) : Prop := w_a1_j7b K J2 R1 (ts.getD 0 poison) (ts.getD 1 poison) (ts.getD 2 poison) (ts.getD 3 poison) (ls.getD 0 []) σ
def w_law11_MoveDrops_l7b (K : Value → Mem → Prop) (J2 : List Value → List (List Value) → Mem → Prop) (R1 : List Value → List (List Value) → Mem → Prop) (v6 v10 v11 v12 v13 : Value) (c5 : List Value) (σ : Mem) : Prop :=
xJoin (w_a1_j7 K J2 R1) fun J7 =>
xF fMove [v13] fun v39 =>
xF fMove [v12] fun v40 =>
xF (fBin .lss .no) [v39, v40] fun v41 =>
xF fMove [v41] fun v42 =>
xIf v42
 (xF fMove [v11] fun v43 =>
xF (fUn .not) [v43] fun v44 =>
xF fPick [.bool true, v44, .bool false] fun v45 =>
xIf v45
 (J7 [v6, v10, v12, v13] [c5] σ)
 (J2 [v6, v10, v11] [c5] σ))
 (xF fPick [.bool false, undef, .bool false] fun v45 =>
xIf v45
 (J7 [v6, v10, v12, v13] [c5] σ)
 (J2 [v6, v10, v11] [c5] σ))
def w_law11_MoveDrops_l7 (K : Value → Mem → Prop) (J2 : List Value → List (List Value) → Mem → Prop) (R1 : List Value → List (List Value) → Mem → Prop) (ts : List Value) (ls : List (List Value)) (σ : Mem) : Prop := w_law11_MoveDrops_l7b K J2 R1 (ts.getD 0 poison) (ts.getD 1 poison) (ts.getD 2 poison) (ts.getD 3 poison) (ts.getD 4 poison) (ls.getD 0 []) σ
def w_a1_j1b (K : Value → Mem → Prop) (v1 v6 v7 v33 : Value) (c5 c8 : List Value) (σ : Mem) : Prop :=
xIf v33
 (xF fMove [.bool false] fun v4 =>
K v4 σ)
 (xF fMove [v7] fun v34 =>
xO (gLoad 5 true [(locP 8)] c8) fun v35 =>
s_cd [v34, v35] (fun v36 σ =>
xF fMove [v1] fun v37 =>
xF (fBin .and .no) [v37, .int .i64 127] fun v38 =>
xF fMove [v36] fun v10 =>
xF fMove [.bool false] fun v11 =>
xF fMove [v38] fun v12 =>
xJoin (w_a1_j2 K) fun J2 =>
xF fMove [.int .i64 0] fun v13 =>
xLoop (w_law11_MoveDrops_l7 K J2) [v6, v10, v11, v12, v13] [c5] σ) σ)
def w_a1_j1 (K : Value → Mem → Prop) (ts : List Value) (ls : List (List Value)) (σ : Mem) : Prop := w_a1_j1b K (ts.getD 0 poison) (ts.getD 1 poison) (ts.getD 2 poison) (ts.getD 3 poison) (ls.getD 0 []) (ls.getD 1 []) σ
def w_a1 (a0 a1 : Value) (K : Value → Mem → Prop) (σ : Mem) : Prop :=
xF fMove [.bool false] fun v4 =>
xF fMove [a0] fun v21 =>
s_a8 [v21, (.slice none 0 0)] (fun v22 σ =>
xF fMove [v22] fun v20 =>
xF (fExt 0) [v20] fun v23 =>
xF (fExt 1) [v20] fun v24 =>
xF (fExt 2) [v20] fun v25 =>
xF (fExt 3) [v20] fun v26 =>
xF (fExt 4) [v20] fun v27 =>
xC (gStore 9 [(locP 5), v23] [.int .i64 0, .int .i64 0, .int .i64 0, .int .i64 0, .int .i64 0, .int .i64 0, .int .i64 0, .pointer none, .int .i64 0]) fun c5 =>
xF fMove [v24] fun v6 =>
xF fMove [v25] fun v7 =>
xC (gStore 5 [(locP 8), v26] [.int .i64 0, .int .i64 0, .int .i64 0, .int .i64 0, .bool false]) fun c8 =>
xF fMove [v27] fun v9 =>
xJoin (w_a1_j1 K) fun J1 =>
s_a6 [] (fun v28 σ =>
xF (fUn .not) [v28] fun v29 =>
xF fMove [v29] fun v30 =>
xIf v30
 (xF fPick [.bool true, .bool true, undef] fun v33 =>
J1 [a1, v6, v7, v33] [c5, c8] σ)
 (xF fMove [v9] fun v31 =>
xF (fUn .not) [v31] fun v32 =>
xF fPick [.bool false, .bool true, v32] fun v33 =>
J1 [a1, v6, v7, v33] [c5, c8] σ)) σ) σ
def s_a1 : Spec := fun args K σ => match args with
  | [a0, a1] => w_a1 a0 a1 K σ
  | _ => False
noncomputable def cx_a1 : Cx := { P := Try.prog, T := [(11, .write, s_a8), (12, .none, s_a6), (13, .write, s_cd), (14, .write, s_b5), (36, .write, s_ax), (29, .read, s_b4), (18, .write, s_a9), (21, .none, s_bd), (24, .read, s_bw), (32, .none, s_cs), (19, .read, s_b3)], loc := [(5, 5), (8, 8), (15, 15), (82, 5), (83, 5), (89, 5), (91, 5), (98, 5), (100, 15)], eqt := [], n := 129, keep := [(7, [6, 10, 11, 12, 13], [5]), (13, [6, 10, 11, 14], [5]), (21, [10, 16, 17, 18], [5, 15]), (1000004, [1, 6, 7, 33], [5, 8]), (1000009, [6, 10, 12, 13], [5]), (1000010, [6, 10, 11], [5]), (1000015, [6, 10, 14], [5]), (1000016, [6, 10, 11], [5]), (1000018, [10, 16, 80], [5, 15]), (1000024, [10, 16, 17], [5, 15])] }
theorem q_a1 : FnS cx_a1 Try.f10 (bodyOf Try.f10) 2 = s_a1 := by
  funext args K σ
  rcases args with _ | ⟨a0, _ | ⟨a1, _ | ⟨b, r⟩⟩⟩ <;> kernel_rfl
theorem e_a1 : Entry Try.prog 10 .write s_a1 :=
  entry (C := cx_a1) (TOk.cons e_a8 (TOk.cons e_a6 (TOk.cons e_cd (TOk.cons e_b5 (TOk.cons e_ax (TOk.cons e_b4 (TOk.cons e_a9 (TOk.cons e_bd (TOk.cons e_bw (TOk.cons e_cs (TOk.cons e_b3 TOk.nil))))))))))) mixedOk Try.func10 (by kernel_rfl) (by kernel_rfl) (by kernel_rfl) q_a1
attribute [irreducible] w_a1_j5b w_a1_j5 w_law11_MoveDrops_l21b w_law11_MoveDrops_l21 w_a1_j4b w_a1_j4 w_a1_j3b w_a1_j3 w_a1_j6b w_a1_j6 w_law11_MoveDrops_l13b w_law11_MoveDrops_l13 w_a1_j2b w_a1_j2 w_a1_j7b w_a1_j7 w_law11_MoveDrops_l7b w_law11_MoveDrops_l7 w_a1_j1b w_a1_j1 w_a1 s_a1
end Go.Fl
namespace Go.Fl
open Go
set_option linter.unusedVariables false
set_option linter.unusedSimpArgs false
theorem Mem.set_set (σ : Mem) (i : Nat) (a b : Blk) : (σ.set i a).set i b = σ.set i b := by
 apply Mem.ext'; funext j; simp only [Mem.set]; split <;> rfl
theorem Mem.set_self {σ : Mem} {i : Nat} {b : Blk} (h : σ.get i = some b) : σ.set i b = σ := by
 apply Mem.ext'; funext j; simp only [Mem.set]; split
 ·rename_i e; rw [e, h]
 ·rfl
theorem Mem.set_comm (σ : Mem) {i j : Nat} (a b : Blk) (h : i ≠ j) : (σ.set i a).set j b = (σ.set j b).set i a := by
 apply Mem.ext'; funext k; simp only [Mem.set]
 by_cases h1 : k = j <;> by_cases h2 : k = i <;> simp [h1, h2]
 ·exact absurd (h2.symm.trans h1) h
 ·intro e; exact absurd e.symm h
 ·intro e; exact absurd e h
@[simp] theorem Mem.get_set_same (σ : Mem) (i : Nat) (b : Blk) : (σ.set i b).get i = some b := by simp [Mem.set]
theorem Mem.get_set_ne (σ : Mem) {i j : Nat} (b : Blk) (h : j ≠ i) : (σ.set i b).get j = σ.get j := by simp [Mem.set, h]
theorem nr {α : Sort _} {a b : α} (h : a = b) : a = b := h
section
variable {K : Value → Prop} {x y z : Value} {b o off : Nat} {q : Option Nat} {k k' : IntKind} {a c : Int} {Q : EqK}
theorem xMove : xF fMove [x] K = K x := nr rfl
theorem xPickT : xF fPick [.bool true, x, y] K = K x := nr rfl
theorem xPickF : xF fPick [.bool false, x, y] K = K y := nr rfl
theorem xNil {p : Addr} : xF fNil [.pointer (some p)] K = K (.pointer (some p)) := nr rfl
theorem xFld {p : Addr} : xF (fFld off) [.pointer (some p)] K = K (.pointer (some ⟨p.block, p.off + off, p.spot⟩)) := nr rfl
theorem xExt0 : xF (fExt 0) [.tuple #[x, y]] K = K x := nr rfl
theorem xExt1 : xF (fExt 1) [.tuple #[x, y]] K = K y := nr rfl
theorem xExt30 : xF (fExt 0) [.tuple #[x, y, z]] K = K x := nr rfl
theorem xExt31 : xF (fExt 1) [.tuple #[x, y, z]] K = K y := nr rfl
theorem xExt32 : xF (fExt 2) [.tuple #[x, y, z]] K = K z := nr rfl
theorem xAdd : xF (fBin .add Q) [.int k a, .int k c] K = K (.int k (k.wrap (a + c))) := by simp [xF, fBin, isSh, binI]
theorem xSub : xF (fBin .sub Q) [.int k a, .int k c] K = K (.int k (k.wrap (a - c))) := by simp [xF, fBin, isSh, binI]
theorem xMul : xF (fBin .mul Q) [.int k a, .int k c] K = K (.int k (k.wrap (a * c))) := by simp [xF, fBin, isSh, binI]
theorem xQuo (h : c ≠ 0) : xF (fBin .quo Q) [.int k a, .int k c] K = K (.int k (k.wrap (a.tdiv c))) := by simp [xF, fBin, isSh, binI, h]
theorem xEql : xF (fBin .eql Q) [.int k a, .int k c] K = K (.bool (decide (a = c))) := by
 simp only [xF, fBin, isSh, binI]
 simp only [Bool.false_eq_true, if_false, if_true]
 congr 2
theorem xNeq : xF (fBin .neq Q) [.int k a, .int k c] K = K (.bool (decide (a ≠ c))) := by
 simp only [xF, fBin, isSh, binI]
 simp only [Bool.false_eq_true, if_false, if_true]
 congr 2
 by_cases h : a = c <;> simp [h]
theorem xLss : xF (fBin .lss Q) [.int k a, .int k c] K = K (.bool (decide (a < c))) := by simp [xF, fBin, isSh, binI]
theorem xLeq : xF (fBin .leq Q) [.int k a, .int k c] K = K (.bool (decide (a ≤ c))) := by simp [xF, fBin, isSh, binI]
theorem xGtr : xF (fBin .gtr Q) [.int k a, .int k c] K = K (.bool (decide (c < a))) := by simp [xF, fBin, isSh, binI]
theorem xGeq : xF (fBin .geq Q) [.int k a, .int k c] K = K (.bool (decide (c ≤ a))) := by simp [xF, fBin, isSh, binI]
theorem xEqPN {p : Addr} : xF (fBin .eql .ptr) [.pointer (some p), .pointer none] K = K (.bool false) := nr rfl
theorem xEqNN : xF (fBin .eql .ptr) [.pointer none, .pointer none] K = K (.bool true) := nr rfl
theorem xNePN {p : Addr} : xF (fBin .neq .ptr) [.pointer (some p), .pointer none] K = K (.bool true) := nr rfl
theorem xNeNN : xF (fBin .neq .ptr) [.pointer none, .pointer none] K = K (.bool false) := nr rfl
theorem xEqBB {u v : Bool} : xF (fBin .eql .bool) [.bool u, .bool v] K = K (.bool (u == v)) := nr rfl
theorem xNeBB {u v : Bool} : xF (fBin .neq .bool) [.bool u, .bool v] K = K (.bool (!(u == v))) := nr rfl
theorem xNot {u : Bool} : xF (fUn .not) [.bool u] K = K (.bool (!u)) := by simp [xF, fUn]
theorem xNeg : xF (fUn .neg) [.int k a] K = K (.int k (k.wrap (-a))) := by simp [xF, fUn]
theorem xConv : xF (fConv k) [.int k' a] K = K (.int k (k.wrap a)) := nr rfl
theorem xLen {p : Option Addr} {n m : Nat} : xF fLen [.slice p n m] K = K (.int .i64 n) := nr rfl
theorem xMin : xF fMin [.int k a, .int k c] K = K (.int k (min a c)) := by
 show K (.int k (if c < a then c else a)) = _
 congr 2; split <;> omega
theorem xMax : xF fMax [.int k a, .int k c] K = K (.int k (max a c)) := by
 show K (.int k (if c > a then c else a)) = _
 congr 2; split <;> omega
theorem xIfc {t : TypeId} : xF (fIface t) [x] K = K (.iface t x) := nr rfl
theorem xIxS {p : Addr} {n m es : Nat} (h0 : 0 ≤ a) (h1 : a < n) : xF (fIxS es) [.slice (some p) n m, .int k a] K = K (.pointer (some ⟨p.block, p.off + a.toNat * es, p.spot⟩)) := by
 simp only [xF, fIxS, if_pos (And.intro h0 h1)]; rfl
theorem xFldV {cs : Array Value} {sz : Nat} {ag : Bool} : xF (fFldV off sz ag) [.agg cs] K = xO (sub cs.toList off sz ag) K := nr rfl
end
theorem xIfT {A B : Prop} : xIf (.bool true) A B = A := nr rfl
theorem xIfF {A B : Prop} : xIf (.bool false) A B = B := nr rfl
theorem xIfD {A B : Prop} {p : Prop} [Decidable p] : xIf (.bool (decide p)) A B = if p then A else B := by
 by_cases h : p <;> simp [xIf, h]
theorem xIfB {A B : Prop} {u : Bool} : xIf (.bool u) A B = if u = true then A else B := by cases u <;> rfl
theorem xJoinE {F : List Value → List (List Value) → Mem → Prop} {G : (List Value → List (List Value) → Mem → Prop) → Prop} : xJoin F G = G F := nr rfl
theorem xOs {v : Value} {K : Value → Prop} : xO (some v) K = K v := nr rfl
theorem xCs {c : List Value} {K : List Value → Prop} : xC (some c) K = K c := nr rfl
theorem sub_one {cs : List Value} {o : Nat} {v : Value} (h : cs[o]? = some v) : sub cs o 1 false = some v := by
 have : o < cs.length := (List.getElem?_eq_some_iff.1 h).1
 simp [sub, h, show o + 1 ≤ cs.length by omega]
theorem lay_one {cs : List Value} {o : Nat} {v : Value} : lay cs o [v] = cs.take o ++ v :: cs.drop (o + 1) := by simp [lay]
theorem lay_set {cs : List Value} {o : Nat} {v : Value} (h : o < cs.length) : lay cs o [v] = cs.set o v := by
 rw [lay_one, List.set_eq_take_append_cons_drop, if_pos h]
theorem hLoad_eq {sz b o : Nat} {ag : Bool} {K : Value → Mem → Prop} {σ : Mem} {cs : List Value} {rw : Bool} (h : σ.get b = some ⟨cs, rw⟩) :
  hLoad sz ag [.pointer (some ⟨b, o, none⟩)] K σ = xO (sub cs o sz ag) (fun v => K v σ) := by
 simp only [hLoad, rd, h]
 cases sub cs o sz ag <;> rfl
theorem hStore_eq {sz b o : Nat} {K : Value → Mem → Prop} {σ : Mem} {cs c : List Value} {x : Value} (h : σ.get b = some ⟨cs, true⟩) (hc : cellsOf x sz = some c)
  (hl : o + sz ≤ cs.length) (ho : c.all oneB = true) : hStore sz [.pointer (some ⟨b, o, none⟩), x] K σ = K undef (σ.set b ⟨lay cs o c, true⟩) := by
 simp only [hStore, wr, h, hc]
 rw [if_pos ⟨trivial, hl, ho⟩]
def upd (f : Int → Int) (a v : Int) : Int → Int := fun i => if i = a then v else f i
theorem upd_same (f : Int → Int) (a v : Int) : upd f a v a = v := by simp [upd]
theorem upd_ne (f : Int → Int) {a i : Int} (v : Int) (h : i ≠ a) : upd f a v i = f i := by simp [upd, h]
def cells (k : IntKind) (n : Nat) (f : Int → Int) : List Value := (List.range n).map fun i : Nat => Value.int k (f (i : Int))
@[simp] theorem cells_len (k : IntKind) (n : Nat) (f : Int → Int) : (cells k n f).length = n := by simp [cells]
theorem cells_get (k : IntKind) {n : Nat} (f : Int → Int) {a : Int} (h0 : 0 ≤ a) (h1 : a < n) : (cells k n f)[a.toNat]? = some (.int k (f a)) := by
 have : a.toNat < n := by omega
 simp only [cells, List.getElem?_map, List.getElem?_range this, Option.map_some]
 rw [show ((a.toNat : Nat) : Int) = a by omega]
theorem cells_set (k : IntKind) {n : Nat} (f : Int → Int) {a : Int} (v : Int) (h0 : 0 ≤ a) (h1 : a < n) : (cells k n f).set a.toNat (.int k v) = cells k n (upd f a v) := by
 apply List.ext_getElem?
 intro i
 rw [List.getElem?_set]
 by_cases hi : i < n
 ·simp only [cells, List.getElem?_map, List.getElem?_range hi, Option.map_some, List.length_map, List.length_range]
  by_cases e : a.toNat = i
  ·subst e
   rw [if_pos rfl, if_pos hi]
   simp [upd]
   intro hc; omega
  ·rw [if_neg e]
   have : (i : Int) ≠ a := by omega
   simp [upd, this]
 ·have h2 : ¬ a.toNat = i := by omega
  rw [if_neg h2]
  simp [cells, hi]
theorem cells_sub (k : IntKind) {n : Nat} (f : Int → Int) {a : Int} (h0 : 0 ≤ a) (h1 : a < n) : sub (cells k n f) (0 + a.toNat * 1) 1 false = some (.int k (f a)) := by
 rw [show 0 + a.toNat * 1 = a.toNat by omega]
 exact sub_one (cells_get k f h0 h1)
theorem cells_lay (k : IntKind) {n : Nat} (f : Int → Int) {a : Int} (v : Int) (h0 : 0 ≤ a) (h1 : a < n) : lay (cells k n f) (0 + a.toNat * 1) [.int k v] = cells k n (upd f a v) := by
 rw [show 0 + a.toNat * 1 = a.toNat by omega, lay_set (by simp; omega), cells_set k f v h0 h1]
theorem cells_repl (k : IntKind) (n : Nat) : (List.replicate n [Value.int k 0]).flatten = cells k n fun _ => 0 := by
 rw [List.flatten_replicate_singleton]
 apply List.ext_getElem?
 intro i
 by_cases hi : i < n
 ·simp [cells, hi, List.getElem?_replicate, List.getElem?_range hi]
 ·simp [cells, hi, List.getElem?_replicate]
theorem locP_e (k : Nat) : locP k = .pointer (some ⟨k, 0, some 0⟩) := nr rfl
theorem gBox_a {cs : List Value} {sz : Nat} {l : List Value} (h : cs.length = sz) : gBox sz [.agg cs.toArray] l = some cs := by
 subst h
 show cellsOf (.agg cs.toArray) _ = _
 simp [cellsOf]
theorem gBox_i {k : IntKind} {n : Int} {l : List Value} : gBox 1 [.int k n] l = some [.int k n] := nr rfl
theorem gBox_b {b : Bool} {l : List Value} : gBox 1 [.bool b] l = some [.bool b] := nr rfl
theorem gBox_p {p : Option Addr} {l : List Value} : gBox 1 [.pointer p] l = some [.pointer p] := nr rfl
theorem gLoad_s {sz k o : Nat} {ag : Bool} {q : Option Nat} {cs : List Value} : gLoad sz ag [.pointer (some ⟨k, o, q⟩)] cs = sub cs o sz ag := nr rfl
theorem gAlloc_s {z l : List Value} : gAlloc z [] l = some z := nr rfl
theorem gStore_a {sz k o : Nat} {q : Option Nat} {c cs : List Value} (h : c.length = sz) (hl : o + sz ≤ cs.length) (ho : c.all oneB = true) :
  gStore sz [.pointer (some ⟨k, o, q⟩), .agg c.toArray] cs = some (lay cs o c) := by
 subst h
 have : cellsOf (.agg c.toArray) c.length = some c := by simp [cellsOf]
 simp only [gStore, this]
 rw [if_pos ⟨hl, ho⟩]
theorem gStore_1 {k o : Nat} {q : Option Nat} {x : Value} {cs : List Value} (h : cellsOf x 1 = some [x]) (hl : o + 1 ≤ cs.length) (ho : oneB x = true) :
  gStore 1 [.pointer (some ⟨k, o, q⟩), x] cs = some (lay cs o [x]) := by
 simp only [gStore, h]
 rw [if_pos ⟨hl, by simp [ho]⟩]
theorem gStore_i {k o : Nat} {q : Option Nat} {kd : IntKind} {n : Int} {cs : List Value} (hl : o + 1 ≤ cs.length) :
  gStore 1 [.pointer (some ⟨k, o, q⟩), .int kd n] cs = some (lay cs o [.int kd n]) := gStore_1 rfl hl rfl
theorem gStore_b {k o : Nat} {q : Option Nat} {b : Bool} {cs : List Value} (hl : o + 1 ≤ cs.length) :
  gStore 1 [.pointer (some ⟨k, o, q⟩), .bool b] cs = some (lay cs o [.bool b]) := gStore_1 rfl hl rfl
theorem gStore_p {k o : Nat} {q : Option Nat} {p : Option Addr} {cs : List Value} (hl : o + 1 ≤ cs.length) :
  gStore 1 [.pointer (some ⟨k, o, q⟩), .pointer p] cs = some (lay cs o [.pointer p]) := gStore_1 rfl hl rfl
theorem sub_z {x : Value} {cs : List Value} : sub (x :: cs) 0 1 false = some x := by simp [sub]
theorem sub_s {x : Value} {cs : List Value} {n : Nat} : sub (x :: cs) (n + 1) 1 false = sub cs n 1 false := by
 simp only [sub, List.length_cons]
 by_cases h : n + 1 ≤ cs.length
 ·rw [if_pos h, if_pos (by omega)]; simp
 ·rw [if_neg h, if_neg (by omega)]
theorem sub_l {cs : List Value} {o sz : Nat} : sub cs o sz true = if o + sz ≤ cs.length then some (.agg ((cs.drop o).take sz).toArray) else none := by simp [sub]
theorem oneB_i {k : IntKind} {n : Int} : oneB (.int k n) = true := nr rfl
theorem oneB_b {b : Bool} : oneB (.bool b) = true := nr rfl
theorem oneB_p {p : Option Addr} : oneB (.pointer p) = true := nr rfl
theorem oneB_sl {p : Option Addr} {n c : Nat} : oneB (.slice p n c) = true := nr rfl
theorem lay_z {cs vs : List Value} : lay cs 0 vs = vs ++ cs.drop vs.length := by simp [lay]
theorem lay_s {x : Value} {cs vs : List Value} {n : Nat} : lay (x :: cs) (n + 1) vs = x :: lay cs n vs := by
 simp only [lay, List.take_succ_cons, List.cons_append]
 rw [show n + 1 + vs.length = (n + vs.length) + 1 by omega, List.drop_succ_cons]
def SlW (w : World) (ks : List (Option IntKind)) (v : Value) : Prop := v = .slice none 0 0 ∨ ∃ (a : Addr) (len cap : Nat) (cells : List Value), v = .slice (some a) len cap ∧ len ≤ cap ∧ cap ≤ maxLen ∧
 FlatL (List.replicate len ks).flatten cells ∧ (cap = 0 ∨ InW w a (cap * ks.length) (len * ks.length) cells)
theorem Opn.sl {w : World} {ρ : Ren} {σ : Mem} {avs avs' : List Value} {v : Value} {ks : List (Option IntKind)} (h : Opn w ρ σ avs avs') (hv : SlW w ks v) :
  ∃ ρ' σ' s n cs, Opn w ρ' σ' (s :: avs) (v :: avs') ∧ Sl σ' ks.length n cs s ∧ n ≤ maxLen ∧ FlatL (List.replicate n ks).flatten cs ∧ ∀ i b, σ.get i = some b → σ'.get i = some b := by
 rcases hv with rfl | ⟨a, len, cap, cs, rfl, h1, h2, h3, h4⟩
 ·exact ⟨ρ, σ, _, 0, [], h.nilS, .nil, Nat.zero_le _, .nil, fun _ _ q => q⟩
 ·obtain ⟨ρ', σ', s, o, sl, ext⟩ := h.slice (es := ks.length) h1 h3 (by simp) h4
  exact ⟨ρ', σ', s, len, cs, o, sl, Nat.le_trans h1 h2, h3, ext⟩
theorem ruS : type_of% ((And.intro (And.intro (And.intro (And.intro (And.intro @xMove (And.intro @xPickT @xPickF)) (And.intro @xNil (And.intro @xFld @xExt0))) (And.intro (And.intro @xExt1 (And.intro @xExt30 @xExt31)) (And.intro (And.intro @xExt32 @xAdd) (And.intro @xSub @xMul)))) (And.intro (And.intro (And.intro @xEql (And.intro @xNeq @xLss)) (And.intro @xLeq (And.intro @xGtr @xGeq))) (And.intro (And.intro @xEqPN (And.intro @xEqNN @xNePN)) (And.intro (And.intro @xNeNN @xEqBB) (And.intro @xNeBB @xNot))))) (And.intro (And.intro (And.intro (And.intro @xConv (And.intro @xLen @xMin)) (And.intro @xMax (And.intro @xIfc @xIfT))) (And.intro (And.intro @xIfF (And.intro @xIfD @xJoinE)) (And.intro (And.intro @xOs @xCs) (And.intro @xFldV @List.getD_cons_zero.{0})))) (And.intro (And.intro (And.intro @List.getD_cons_succ.{0} (And.intro @Nat.zero_add @Mem.get_set_same)) (And.intro (And.intro @Mem.set_set @if_true.{1}) (And.intro @if_false.{1} @Bool.not_true))) (And.intro (And.intro @Bool.not_false (And.intro @decide_true @decide_false)) (And.intro (And.intro @decide_eq_true_eq @decide_not) (And.intro @Bool.not_eq_true @Bool.false_eq_true))))))) := (And.intro (And.intro (And.intro (And.intro (And.intro @xMove (And.intro @xPickT @xPickF)) (And.intro @xNil (And.intro @xFld @xExt0))) (And.intro (And.intro @xExt1 (And.intro @xExt30 @xExt31)) (And.intro (And.intro @xExt32 @xAdd) (And.intro @xSub @xMul)))) (And.intro (And.intro (And.intro @xEql (And.intro @xNeq @xLss)) (And.intro @xLeq (And.intro @xGtr @xGeq))) (And.intro (And.intro @xEqPN (And.intro @xEqNN @xNePN)) (And.intro (And.intro @xNeNN @xEqBB) (And.intro @xNeBB @xNot))))) (And.intro (And.intro (And.intro (And.intro @xConv (And.intro @xLen @xMin)) (And.intro @xMax (And.intro @xIfc @xIfT))) (And.intro (And.intro @xIfF (And.intro @xIfD @xJoinE)) (And.intro (And.intro @xOs @xCs) (And.intro @xFldV @List.getD_cons_zero.{0})))) (And.intro (And.intro (And.intro @List.getD_cons_succ.{0} (And.intro @Nat.zero_add @Mem.get_set_same)) (And.intro (And.intro @Mem.set_set @if_true.{1}) (And.intro @if_false.{1} @Bool.not_true))) (And.intro (And.intro @Bool.not_false (And.intro @decide_true @decide_false)) (And.intro (And.intro @decide_eq_true_eq @decide_not) (And.intro @Bool.not_eq_true @Bool.false_eq_true))))))
theorem ruL : type_of% ((And.intro (And.intro (And.intro (And.intro (And.intro @locP_e @gBox_a) (And.intro @gBox_i @gBox_b)) (And.intro (And.intro @gBox_p @gLoad_s) (And.intro @gAlloc_s @gStore_a))) (And.intro (And.intro (And.intro @gStore_i @gStore_b) (And.intro @gStore_p @sub_z)) (And.intro (And.intro @sub_s @lay_z) (And.intro @lay_s @List.length_cons.{0})))) (And.intro (And.intro (And.intro (And.intro @List.length_nil.{0} @Nat.le_refl) (And.intro @List.drop_zero.{0} @List.drop_succ_cons.{0})) (And.intro (And.intro @List.take_succ_cons.{0} @List.take_zero.{0}) (And.intro @List.drop_nil.{0} @List.cons_append.{0}))) (And.intro (And.intro (And.intro @List.nil_append.{0} @List.all_cons.{0}) (And.intro @List.all_nil.{0} @oneB_i)) (And.intro (And.intro @oneB_b @oneB_p) (And.intro @oneB_sl @Bool.and_true)))))) := (And.intro (And.intro (And.intro (And.intro (And.intro @locP_e @gBox_a) (And.intro @gBox_i @gBox_b)) (And.intro (And.intro @gBox_p @gLoad_s) (And.intro @gAlloc_s @gStore_a))) (And.intro (And.intro (And.intro @gStore_i @gStore_b) (And.intro @gStore_p @sub_z)) (And.intro (And.intro @sub_s @lay_z) (And.intro @lay_s @List.length_cons.{0})))) (And.intro (And.intro (And.intro (And.intro @List.length_nil.{0} @Nat.le_refl) (And.intro @List.drop_zero.{0} @List.drop_succ_cons.{0})) (And.intro (And.intro @List.take_succ_cons.{0} @List.take_zero.{0}) (And.intro @List.drop_nil.{0} @List.cons_append.{0}))) (And.intro (And.intro (And.intro @List.nil_append.{0} @List.all_cons.{0}) (And.intro @List.all_nil.{0} @oneB_i)) (And.intro (And.intro @oneB_b @oneB_p) (And.intro @oneB_sl @Bool.and_true)))))
theorem ruX : type_of% (@sub_l) := @sub_l
end Go.Fl
namespace Go.Fl
open Go
set_option linter.unusedVariables false
set_option linter.unusedSimpArgs false
structure Ar where
 n : Nat
 w : Int → Int
 t : Int → Int
 s : Int
 who : Int
 la : Int
 lw : Int
 lc : Bool
structure Nm where
 m : Nat
 w : Nat
 t : Nat
def Ar.mc (N : Nm) (A : Ar) : List Value := [.slice (some ⟨N.w, 0, none⟩) A.n 1, .slice (some ⟨N.t, 0, none⟩) A.n 1, .int .i64 A.s, .int .i64 A.who, .int .i64 A.la, .int .i64 A.lw, .bool A.lc]
def Ar.wb (A : Ar) : Blk := ⟨cells .u64 A.n A.w, true⟩
def Ar.tb (A : Ar) : Blk := ⟨cells .i64 A.n A.t, true⟩
structure Nm.ok (N : Nm) : Prop where
 mw : N.m ≠ N.w
 mt : N.m ≠ N.t
 wt : N.w ≠ N.t
def putA (N : Nm) (A : Ar) (σ : Mem) : Mem := ((σ.set N.t A.tb).set N.w A.wb).set N.m ⟨A.mc N, true⟩
variable {N : Nm} {A B : Ar} {σ : Mem} {K : Value → Mem → Prop}
theorem putA_m : (putA N A σ).get N.m = some ⟨A.mc N, true⟩ := by simp [putA]
theorem putA_w (h : N.ok) : (putA N A σ).get N.w = some A.wb := by simp [putA, Mem.get_set, h.mw.symm]
theorem putA_t (h : N.ok) : (putA N A σ).get N.t = some A.tb := by simp [putA, Mem.get_set, h.mt.symm, h.wt.symm]
theorem putA_ne {i : Nat} (h1 : i ≠ N.m) (h2 : i ≠ N.w) (h3 : i ≠ N.t) : (putA N A σ).get i = σ.get i := by simp [putA, Mem.get_set, h1, h2, h3]
theorem putA_set {p : Nat} {c : Blk} (h1 : p ≠ N.m) (h2 : p ≠ N.w) (h3 : p ≠ N.t) : (putA N A σ).set p c = putA N A (σ.set p c) := by
 simp only [putA]
 rw [Mem.set_comm _ _ _ h1.symm, Mem.set_comm _ _ _ h2.symm, Mem.set_comm _ _ _ h3.symm]
def Ar.by (A : Ar) (who : Int) : Ar := { A with who := who }
def Ar.step (A : Ar) (a : Int) : Ar := { A with s := IntKind.i64.wrap (A.s + 1), la := a, lw := A.who, lc := false }
def Ar.lay (A : Ar) (a v : Int) : Ar := { A with lc := decide (A.w a ≠ v), t := if A.w a ≠ v then upd A.t a A.s else A.t, w := upd A.w a v }
def Ar.tick (A : Ar) : Ar := { A with s := IntKind.i64.wrap (A.s + 1) }
def Ar.lst (A : Ar) (a : Int) : Ar := { A with la := a, lw := A.who, lc := false }
def Ar.chg (A : Ar) (c : Bool) : Ar := { A with lc := c }
def Ar.setW (A : Ar) (a v : Int) : Ar := { A with w := upd A.w a v }
def Ar.setT (A : Ar) (a v : Int) : Ar := { A with t := upd A.t a v }
theorem putA_setM (h : A.n = B.n) (hw : A.w = B.w) (ht : A.t = B.t) : (putA N A σ).set N.m ⟨B.mc N, true⟩ = putA N B σ := by
 simp only [putA, Mem.set_set, Ar.wb, Ar.tb, h, hw, ht]
theorem ldM0 : hLoad 1 false [.pointer (some ⟨N.m, 0, none⟩)] K (putA N A σ) = K (.slice (some ⟨N.w, 0, none⟩) A.n 1) (putA N A σ) := (hLoad_eq putA_m).trans rfl
theorem ldM1 : hLoad 1 false [.pointer (some ⟨N.m, 1, none⟩)] K (putA N A σ) = K (.slice (some ⟨N.t, 0, none⟩) A.n 1) (putA N A σ) := (hLoad_eq putA_m).trans rfl
theorem ldM2 : hLoad 1 false [.pointer (some ⟨N.m, 2, none⟩)] K (putA N A σ) = K (.int .i64 A.s) (putA N A σ) := (hLoad_eq putA_m).trans rfl
theorem ldM3 : hLoad 1 false [.pointer (some ⟨N.m, 3, none⟩)] K (putA N A σ) = K (.int .i64 A.who) (putA N A σ) := (hLoad_eq putA_m).trans rfl
theorem ldM6 : hLoad 1 false [.pointer (some ⟨N.m, 6, none⟩)] K (putA N A σ) = K (.bool A.lc) (putA N A σ) := (hLoad_eq putA_m).trans rfl
theorem stM2 : hStore 1 [.pointer (some ⟨N.m, 2, none⟩), .int .i64 (IntKind.i64.wrap (A.s + 1))] K (putA N A σ) = K undef (putA N A.tick σ) := by
 rw [hStore_eq putA_m rfl (by simp [Ar.mc]) rfl]
 exact congrArg _ (putA_setM (B := A.tick) rfl rfl rfl)
theorem stM3 {who : Int} : hStore 1 [.pointer (some ⟨N.m, 3, none⟩), .int .i64 who] K (putA N A σ) = K undef (putA N (A.by who) σ) := by
 rw [hStore_eq putA_m rfl (by simp [Ar.mc]) rfl]
 exact congrArg _ (putA_setM (B := A.by who) rfl rfl rfl)
theorem stM4 {a : Int} : hStore 3 [.pointer (some ⟨N.m, 4, none⟩), .agg #[.int .i64 a, .int .i64 A.who, .bool false]] K (putA N A σ) = K undef (putA N (A.lst a) σ) := by
 rw [hStore_eq putA_m rfl (by simp [Ar.mc]) rfl]
 exact congrArg _ (putA_setM (B := A.lst a) rfl rfl rfl)
theorem stM6 {c : Bool} : hStore 1 [.pointer (some ⟨N.m, 6, none⟩), .bool c] K (putA N A σ) = K undef (putA N (A.chg c) σ) := by
 rw [hStore_eq putA_m rfl (by simp [Ar.mc]) rfl]
 exact congrArg _ (putA_setM (B := A.chg c) rfl rfl rfl)
theorem ldW (h : N.ok) {a : Int} (h0 : 0 ≤ a) (h1 : a < A.n) : hLoad 1 false [.pointer (some ⟨N.w, a.toNat * 1, none⟩)] K (putA N A σ) = K (.int .u64 (A.w a)) (putA N A σ) := by
 rw [hLoad_eq (putA_w h)]
 have := cells_sub .u64 A.w h0 h1
 rw [Nat.zero_add] at this
 rw [this, xOs]
theorem stW (h : N.ok) {a v : Int} (h0 : 0 ≤ a) (h1 : a < A.n) : hStore 1 [.pointer (some ⟨N.w, a.toNat * 1, none⟩), .int .u64 v] K (putA N A σ) = K undef (putA N (A.setW a v) σ) := by
 have := cells_lay .u64 A.w v h0 h1
 rw [Nat.zero_add] at this
 rw [hStore_eq (putA_w h) rfl (by simp; omega) rfl, this]
 refine congrArg _ ?_
 simp only [putA]
 rw [Mem.set_comm _ _ _ h.mw, Mem.set_set]; rfl
theorem stT (h : N.ok) {a v : Int} (h0 : 0 ≤ a) (h1 : a < A.n) : hStore 1 [.pointer (some ⟨N.t, a.toNat * 1, none⟩), .int .i64 v] K (putA N A σ) = K undef (putA N (A.setT a v) σ) := by
 have := cells_lay .i64 A.t v h0 h1
 rw [Nat.zero_add] at this
 rw [hStore_eq (putA_t h) rfl (by simp; omega) rfl, this]
 refine congrArg _ ?_
 simp only [putA]
 rw [Mem.set_comm _ _ _ h.mt, Mem.set_comm _ _ _ h.wt, Mem.set_set]; rfl
theorem ldT (h : N.ok) {a : Int} (h0 : 0 ≤ a) (h1 : a < A.n) : hLoad 1 false [.pointer (some ⟨N.t, a.toNat * 1, none⟩)] K (putA N A σ) = K (.int .i64 (A.t a)) (putA N A σ) := by
 rw [hLoad_eq (putA_t h)]
 have := cells_sub .i64 A.t h0 h1
 rw [Nat.zero_add] at this
 rw [this, xOs]
theorem xBuildLast {a b : Int} {K : Value → Prop} : xF (fBuild [(0, 1), (1, 1), (2, 1)] [.int .i64 0, .int .i64 0, .bool false] [0, 1]) [.int .i64 a, .int .i64 b] K = K (.agg #[.int .i64 a, .int .i64 b, .bool false]) := rfl
def Nm.p (N : Nm) : Value := .pointer (some ⟨N.m, 0, none⟩)
theorem c_By {who : Int} : s_bs [N.p, .int .i64 who] K (putA N A σ) = K (.tuple #[]) (putA N (A.by who) σ) := by
 simp only [s_bs, w_bs, Nm.p, stM3, ruS, Nat.reduceAdd, reduceIte, Int.reduceLT, Int.reduceLE, Int.reduceEq, Int.reduceNeg, Int.reduceAdd, Int.reduceSub]
theorem c_step {a : Int} (h0 : 0 ≤ a) (h1 : a < A.n) : s_b1 [N.p, .int .i64 a] K (putA N A σ) = K (.bool true) (putA N (A.step a) σ) := by
 simp only [s_b1, w_b1, w_b1_j1, w_b1_j1b, Nm.p, ldM0, ldM2, ldM3, stM2, stM4, xBuildLast, ruS, Nat.reduceAdd, reduceIte, Int.reduceLT, Int.reduceLE, Int.reduceEq, Int.reduceNeg, Int.reduceAdd, Int.reduceSub]
 rw [if_neg (by omega), if_neg (by omega)]
 rfl
theorem c_set (h : N.ok) {a v : Int} (h0 : 0 ≤ a) (h1 : a < A.n) : s_b0 [N.p, .int .i64 a, .int .u64 v] K (putA N A σ) = K (.tuple #[]) (putA N (A.lay a v) σ) := by
 have h2 : ∀ c, a < (A.chg c).n := fun _ => h1
 simp only [s_b0, w_b0, w_b0_j1, w_b0_j1b, Nm.p, ldM0, ldM1, ldM2, ldM6, stM6, xIxS h0 h1, xIxS h0 (h2 _), ldW h h0 h1, ruS, Nat.reduceAdd, reduceIte, Int.reduceLT, Int.reduceLE, Int.reduceEq, Int.reduceNeg, Int.reduceAdd, Int.reduceSub]
 by_cases hc : A.w a = v
 ·simp only [hc, Ar.chg, ne_eq, not_true_eq_false, decide_false, Bool.false_eq_true, if_false, xIxS h0 h1, ruS, Nat.reduceAdd, reduceIte, Int.reduceLT, Int.reduceLE, Int.reduceEq, Int.reduceNeg, Int.reduceAdd, Int.reduceSub]
  have h3 : a < (A.chg false).n := h1
  rw [show ({ n := A.n, w := A.w, t := A.t, s := A.s, who := A.who, la := A.la, lw := A.lw, lc := false } : Ar) = A.chg false from rfl]
  simp only [xIxS h0 h3, stW h h0 h3, Nat.zero_add]
  refine congrArg _ (congrArg (putA N · σ) ?_)
  simp [Ar.setW, Ar.chg, Ar.lay, hc]
 ·simp only [hc, ne_eq, not_false_eq_true, decide_true, if_true, Ar.chg, ruS, Nat.reduceAdd, reduceIte, Int.reduceLT, Int.reduceLE, Int.reduceEq, Int.reduceNeg, Int.reduceAdd, Int.reduceSub]
  have h3 : a < (A.chg true).n := h1
  have h4 : a < ((A.chg true).setT a A.s).n := h1
  rw [show ({ n := A.n, w := A.w, t := A.t, s := A.s, who := A.who, la := A.la, lw := A.lw, lc := true } : Ar) = A.chg true from rfl]
  simp only [xIxS h0 h3, stT h h0 h3, Nat.zero_add]
  simp only [ldM0, ruS, Nat.reduceAdd, reduceIte, Int.reduceLT, Int.reduceLE, Int.reduceEq, Int.reduceNeg, Int.reduceAdd, Int.reduceSub]
  simp only [xIxS h0 h4, stW h h0 h4, Nat.zero_add]
  refine congrArg _ (congrArg (putA N · σ) ?_)
  simp [Ar.setW, Ar.setT, Ar.chg, Ar.lay, hc]
def Ar.load (A : Ar) (a : Int) : Ar := A.step a
def Ar.store (A : Ar) (a v : Int) : Ar := (A.step a).lay a v
def Ar.cas (A : Ar) (a o v : Int) : Ar := if A.w a = o then (A.step a).lay a v else A.step a
def Ar.add (A : Ar) (a d : Int) : Ar := (A.step a).lay a (IntKind.u64.wrap (A.w a + d))
theorem step_lt {a b : Int} (h : a < A.n) : a < (A.step b).n := h
theorem c_mLoad (h : N.ok) {a : Int} (h0 : 0 ≤ a) (h1 : a < A.n) : s_bv [N.p, .int .i64 a] K (putA N A σ) = K (.tuple #[.int .u64 (A.w a), .int .i64 0]) (putA N (A.load a) σ) := by
 simp only [s_bv, w_bv, ruS, Nat.reduceAdd, reduceIte, Int.reduceLT, Int.reduceLE, Int.reduceEq, Int.reduceNeg, Int.reduceAdd, Int.reduceSub, c_step h0 h1]
 simp only [Nm.p, ldM0, xIxS h0 (step_lt h1), ldW h h0 (step_lt h1), ruS, Nat.reduceAdd, reduceIte, Int.reduceLT, Int.reduceLE, Int.reduceEq, Int.reduceNeg, Int.reduceAdd, Int.reduceSub]
 rfl
theorem c_mStore (h : N.ok) {a v : Int} (h0 : 0 ≤ a) (h1 : a < A.n) : s_by [N.p, .int .i64 a, .int .u64 v] K (putA N A σ) = K (.int .i64 0) (putA N (A.store a v) σ) := by
 simp only [s_by, w_by, ruS, Nat.reduceAdd, reduceIte, Int.reduceLT, Int.reduceLE, Int.reduceEq, Int.reduceNeg, Int.reduceAdd, Int.reduceSub, c_step h0 h1, c_set h h0 (step_lt h1)]
 rfl
theorem c_mCas (h : N.ok) {a o v : Int} (h0 : 0 ≤ a) (h1 : a < A.n) : s_bt [N.p, .int .i64 a, .int .u64 o, .int .u64 v] K (putA N A σ) = K (.tuple #[.bool (decide (A.w a = o)), .int .i64 0]) (putA N (A.cas a o v) σ) := by
 simp only [s_bt, w_bt, ruS, Nat.reduceAdd, reduceIte, Int.reduceLT, Int.reduceLE, Int.reduceEq, Int.reduceNeg, Int.reduceAdd, Int.reduceSub, c_step h0 h1]
 have hw : (A.step a).w a = A.w a := rfl
 simp only [Nm.p, ldM0, xIxS h0 (step_lt h1), ldW h h0 (step_lt h1), ruS, Nat.reduceAdd, reduceIte, Int.reduceLT, Int.reduceLE, Int.reduceEq, Int.reduceNeg, Int.reduceAdd, Int.reduceSub, hw]
 by_cases hc : A.w a = o
 ·have := c_set (K := fun v σ => K (.tuple #[.bool true, .int .i64 0]) σ) (σ := σ) (v := v) h h0 (step_lt (b := a) h1)
  simp only [Nm.p] at this
  simp only [hc, decide_true, if_false, if_true, not_true_eq_false, ne_eq, this, Ar.cas, ruS, Nat.reduceAdd, reduceIte, Int.reduceLT, Int.reduceLE, Int.reduceEq, Int.reduceNeg, Int.reduceAdd, Int.reduceSub]
 ·simp only [hc, decide_false, if_true, not_false_eq_true, ne_eq, Ar.cas, if_false, ruS, Nat.reduceAdd, reduceIte, Int.reduceLT, Int.reduceLE, Int.reduceEq, Int.reduceNeg, Int.reduceAdd, Int.reduceSub]
theorem c_mAdd (h : N.ok) {a d : Int} (h0 : 0 ≤ a) (h1 : a < A.n) : s_br [N.p, .int .i64 a, .int .u64 d] K (putA N A σ) = K (.tuple #[.int .u64 (A.w a), .int .i64 0]) (putA N (A.add a d) σ) := by
 simp only [s_br, w_br, ruS, Nat.reduceAdd, reduceIte, Int.reduceLT, Int.reduceLE, Int.reduceEq, Int.reduceNeg, Int.reduceAdd, Int.reduceSub, c_step h0 h1]
 have hw : (A.step a).w a = A.w a := rfl
 simp only [Nm.p, ldM0, xIxS h0 (step_lt h1), ldW h h0 (step_lt h1), ruS, Nat.reduceAdd, reduceIte, Int.reduceLT, Int.reduceLE, Int.reduceEq, Int.reduceNeg, Int.reduceAdd, Int.reduceSub, hw]
 have := c_set (K := fun q σ => K (.tuple #[.int .u64 (A.w a), .int .i64 0]) σ) (σ := σ) (v := IntKind.u64.wrap (A.w a + d)) h h0 (step_lt (b := a) h1)
 simp only [Nm.p] at this
 simp only [this, ruS, Nat.reduceAdd, reduceIte, Int.reduceLT, Int.reduceLE, Int.reduceEq, Int.reduceNeg, Int.reduceAdd, Int.reduceSub]
 rfl
theorem c_mPeek (h : N.ok) {a : Int} (h0 : 0 ≤ a) (h1 : a < A.n) : s_bw [N.p, .int .i64 a] K (putA N A σ) = K (.int .u64 (A.w a)) (putA N A σ) := by
 simp only [s_bw, w_bw, w_bw_j1, w_bw_j1b, Nm.p, ldM0, ruS, Nat.reduceAdd, reduceIte, Int.reduceLT, Int.reduceLE, Int.reduceEq, Int.reduceNeg, Int.reduceAdd, Int.reduceSub]
 rw [if_neg (by omega), if_neg (by omega), xIxS h0 h1]
 simp only [Nat.zero_add]
 rw [ldW h h0 h1]
theorem c_mSteps : s_bx [N.p] K (putA N A σ) = K (.int .i64 A.s) (putA N A σ) := by
 simp only [s_bx, w_bx, Nm.p, ldM2, ruS, Nat.reduceAdd, reduceIte, Int.reduceLT, Int.reduceLE, Int.reduceEq, Int.reduceNeg, Int.reduceAdd, Int.reduceSub]
structure Cf where
 T : Int
 S : Int
 C : Int
 W : Int
 G : Int
 P : Int
 R : Int
def Cf.l (c : Cf) : List Value := [.int .i64 c.T, .int .i64 c.S, .int .i64 c.C, .int .i64 c.W, .int .i64 c.G, .int .i64 c.P, .int .i64 c.R]
def Cf.v (c : Cf) : Value := .agg #[.int .i64 c.T, .int .i64 c.S, .int .i64 c.C, .int .i64 c.W, .int .i64 c.G, .int .i64 c.P, .int .i64 c.R]
def Nm.env (N : Nm) (c : Cf) (who : Int) : Value := .agg #[.int .i64 c.T, .int .i64 c.S, .int .i64 c.C, .int .i64 c.W, .int .i64 c.G, .int .i64 c.P, .int .i64 c.R, N.p, .int .i64 who]
variable {C : Cf} {who : Int}
theorem by_lt {a : Int} (h : a < A.n) : a < (A.by who).n := h
theorem c_Load (h : N.ok) {a : Int} (h0 : 0 ≤ a) (h1 : a < A.n) : s_bh [N.env C who, .int .i64 a] K (putA N A σ) = K (.int .u64 (A.w a)) (putA N ((A.by who).load a) σ) := by
 simp only [s_bh, w_bh, Nm.env, ruS, ruL, ruX, Nat.reduceAdd, reduceIte, Int.reduceLT, Int.reduceLE, Int.reduceEq, Int.reduceNeg, Int.reduceAdd, Int.reduceSub, Nat.reduceLeDiff, c_By, c_mLoad h h0 (by_lt h1)]
 rfl
theorem c_Store (h : N.ok) {a v : Int} (h0 : 0 ≤ a) (h1 : a < A.n) : s_bj [N.env C who, .int .i64 a, .int .u64 v] K (putA N A σ) = K (.tuple #[]) (putA N ((A.by who).store a v) σ) := by
 simp only [s_bj, w_bj, Nm.env, ruS, ruL, ruX, Nat.reduceAdd, reduceIte, Int.reduceLT, Int.reduceLE, Int.reduceEq, Int.reduceNeg, Int.reduceAdd, Int.reduceSub, Nat.reduceLeDiff, c_By, c_mStore h h0 (by_lt h1)]
theorem c_Cas (h : N.ok) {a o v : Int} (h0 : 0 ≤ a) (h1 : a < A.n) : s_bg [N.env C who, .int .i64 a, .int .u64 o, .int .u64 v] K (putA N A σ) = K (.bool (decide (A.w a = o))) (putA N ((A.by who).cas a o v) σ) := by
 simp only [s_bg, w_bg, Nm.env, ruS, ruL, ruX, Nat.reduceAdd, reduceIte, Int.reduceLT, Int.reduceLE, Int.reduceEq, Int.reduceNeg, Int.reduceAdd, Int.reduceSub, Nat.reduceLeDiff, c_By, c_mCas h h0 (by_lt h1)]
 rfl
theorem c_Add (h : N.ok) {a d : Int} (h0 : 0 ≤ a) (h1 : a < A.n) : s_bf [N.env C who, .int .i64 a, .int .i64 d] K (putA N A σ) = K (.tuple #[]) (putA N ((A.by who).add a (IntKind.u64.wrap d)) σ) := by
 simp only [s_bf, w_bf, Nm.env, ruS, ruL, ruX, Nat.reduceAdd, reduceIte, Int.reduceLT, Int.reduceLE, Int.reduceEq, Int.reduceNeg, Int.reduceAdd, Int.reduceSub, Nat.reduceLeDiff, c_By, c_mAdd h h0 (by_lt h1)]
theorem c_Now : s_bi [N.env C who] K (putA N A σ) = K (.int .i64 A.s) (putA N A σ) := by
 simp only [s_bi, w_bi, Nm.env, ruS, ruL, ruX, Nat.reduceAdd, reduceIte, Int.reduceLT, Int.reduceLE, Int.reduceEq, Int.reduceNeg, Int.reduceAdd, Int.reduceSub, Nat.reduceLeDiff, c_mSteps]
theorem xAnd63 {K : Value → Prop} {Q : EqK} {k : Nat} {w : Int} (h0 : 0 ≤ w) (h1 : w < 18446744073709551616) (hk : k ≤ 63) : xF (fBin .and Q) [.int .u64 w, .int .u64 (2 ^ k - 1)] K = K (.int .u64 (w % 2 ^ k)) := by
 obtain ⟨n, rfl⟩ := Int.eq_ofNat_of_zero_le h0
 have e : ((2 : Int) ^ k - 1) = ((2 ^ k - 1 : Nat) : Int) := by
  have : 0 < 2 ^ k := Nat.two_pow_pos k
  push_cast [Nat.one_le_two_pow]
  rfl
 have hb : 2 ^ k < 2 ^ 64 := Nat.pow_lt_pow_right (by decide) (by omega)
 have hn : n < 2 ^ 64 := by omega
 have q : (BitVec.ofInt 64 (n : Int) &&& BitVec.ofInt 64 ((2 ^ k - 1 : Nat) : Int)).toNat = n % 2 ^ k := by
  rw [BitVec.toNat_and, BitVec.toNat_ofInt, BitVec.toNat_ofInt]
  have h3 : ((n : Int) % ((2 ^ 64 : Nat) : Int)).toNat = n := by omega
  have h4 : (((2 ^ k - 1 : Nat) : Int) % ((2 ^ 64 : Nat) : Int)).toNat = 2 ^ k - 1 := by omega
  rw [h3, h4, Nat.and_two_pow_sub_one_eq_mod]
 show xF (fBin .and Q) _ _ = _
 simp only [xF, fBin, isSh, binI, Bool.false_eq_true, if_false, if_true]
 show K (.int .u64 (IntKind.u64.wrap ((BitVec.ofInt 64 (n : Int) &&& BitVec.ofInt 64 (2 ^ k - 1)).toNat : Int))) = _
 rw [e, q, IntWalk.u64_in _ (by have := Nat.mod_lt n (Nat.two_pow_pos k); omega)]
 push_cast
 rfl
theorem and2 {K : Value → Prop} {Q : EqK} {w : Int} (h0 : 0 ≤ w) (h1 : w < 18446744073709551616) : xF (fBin .and Q) [.int .u64 w, .int .u64 3] K = K (.int .u64 (w % 4)) := by
 simpa using xAnd63 (K := K) (Q := Q) (k := 2) h0 h1 (by decide)
theorem and3 {K : Value → Prop} {Q : EqK} {w : Int} (h0 : 0 ≤ w) (h1 : w < 18446744073709551616) : xF (fBin .and Q) [.int .u64 w, .int .u64 7] K = K (.int .u64 (w % 8)) := by
 simpa using xAnd63 (K := K) (Q := Q) (k := 3) h0 h1 (by decide)
theorem and6 {K : Value → Prop} {Q : EqK} {w : Int} (h0 : 0 ≤ w) (h1 : w < 18446744073709551616) : xF (fBin .and Q) [.int .u64 w, .int .u64 63] K = K (.int .u64 (w % 64)) := by
 simpa using xAnd63 (K := K) (Q := Q) (k := 6) h0 h1 (by decide)
theorem and16 {K : Value → Prop} {Q : EqK} {w : Int} (h0 : 0 ≤ w) (h1 : w < 18446744073709551616) : xF (fBin .and Q) [.int .u64 w, .int .u64 65535] K = K (.int .u64 (w % 65536)) := by
 simpa using xAnd63 (K := K) (Q := Q) (k := 16) h0 h1 (by decide)
theorem and17 {K : Value → Prop} {Q : EqK} {w : Int} (h0 : 0 ≤ w) (h1 : w < 18446744073709551616) : xF (fBin .and Q) [.int .u64 w, .int .u64 131071] K = K (.int .u64 (w % 131072)) := by
 simpa using xAnd63 (K := K) (Q := Q) (k := 17) h0 h1 (by decide)
theorem and20 {K : Value → Prop} {Q : EqK} {w : Int} (h0 : 0 ≤ w) (h1 : w < 18446744073709551616) : xF (fBin .and Q) [.int .u64 w, .int .u64 1048575] K = K (.int .u64 (w % 1048576)) := by
 simpa using xAnd63 (K := K) (Q := Q) (k := 20) h0 h1 (by decide)
theorem and22 {K : Value → Prop} {Q : EqK} {w : Int} (h0 : 0 ≤ w) (h1 : w < 18446744073709551616) : xF (fBin .and Q) [.int .u64 w, .int .u64 4194303] K = K (.int .u64 (w % 4194304)) := by
 simpa using xAnd63 (K := K) (Q := Q) (k := 22) h0 h1 (by decide)
theorem and36 {K : Value → Prop} {Q : EqK} {w : Int} (h0 : 0 ≤ w) (h1 : w < 18446744073709551616) : xF (fBin .and Q) [.int .u64 w, .int .u64 68719476735] K = K (.int .u64 (w % 68719476736)) := by
 simpa using xAnd63 (K := K) (Q := Q) (k := 36) h0 h1 (by decide)
theorem and40 {K : Value → Prop} {Q : EqK} {w : Int} (h0 : 0 ≤ w) (h1 : w < 18446744073709551616) : xF (fBin .and Q) [.int .u64 w, .int .u64 1099511627775] K = K (.int .u64 (w % 1099511627776)) := by
 simpa using xAnd63 (K := K) (Q := Q) (k := 40) h0 h1 (by decide)
theorem and1 {K : Value → Prop} {Q : EqK} {w : Int} (h0 : 0 ≤ w) (h1 : w < 18446744073709551616) : xF (fBin .and Q) [.int .u64 w, .int .u64 1] K = K (.int .u64 (w % 2)) := by
 simpa using xAnd63 (K := K) (Q := Q) (k := 1) h0 h1 (by decide)
theorem xShrG {K : Value → Prop} {Q : EqK} {k' : IntKind} {s : Nat} {w : Int} (h0 : 0 ≤ w) (hs : s ≤ 64) : xF (fBin .shr Q) [.int .u64 w, .int k' (s : Int)] K = K (.int .u64 (w / 2 ^ s)) := by
 have h : ¬ ((s : Int) < 0) := by omega
 have hm : min s IntKind.u64.bits = s := Nat.min_eq_left hs
 simp only [xF, fBin, isSh, shI, if_true, if_neg h, Int.toNat_natCast, hm]
 rw [Int.fdiv_eq_ediv_of_nonneg _ (by exact Int.le_of_lt (Int.pow_pos (by decide)))]
theorem xShlG {K : Value → Prop} {Q : EqK} {k' : IntKind} {s : Nat} {w : Int} (h0 : 0 ≤ w) (h1 : w * 2 ^ s < 18446744073709551616) (hs : s ≤ 64) : xF (fBin .shl Q) [.int .u64 w, .int k' (s : Int)] K = K (.int .u64 (w * 2 ^ s)) := by
 have h : ¬ ((s : Int) < 0) := by omega
 have hm : min s IntKind.u64.bits = s := Nat.min_eq_left hs
 simp only [xF, fBin, isSh, shI, if_true, if_neg h, Int.toNat_natCast, hm]
 rw [IntWalk.u64_in _ ⟨Int.mul_nonneg h0 (Int.le_of_lt (Int.pow_pos (by decide))), by omega⟩]
theorem xOrG {K : Value → Prop} {Q : EqK} {s : Nat} {a c : Int} (h0 : 0 ≤ a) (h1 : a < 2 ^ s) (h2 : 0 ≤ c) (h3 : a + c * 2 ^ s < 18446744073709551616) :
  xF (fBin .or Q) [.int .u64 a, .int .u64 (c * 2 ^ s)] K = K (.int .u64 (a + c * 2 ^ s)) := by
 obtain ⟨m, rfl⟩ := Int.eq_ofNat_of_zero_le h0
 obtain ⟨n, rfl⟩ := Int.eq_ofNat_of_zero_le h2
 have e : (n : Int) * 2 ^ s = ((n * 2 ^ s : Nat) : Int) := by push_cast; rfl
 rw [e] at h3 ⊢
 have hm : m < 2 ^ s := by exact_mod_cast h1
 have q : (BitVec.ofInt 64 (m : Int) ||| BitVec.ofInt 64 ((n * 2 ^ s : Nat) : Int)).toNat = m + n * 2 ^ s := by
  rw [BitVec.toNat_or, BitVec.toNat_ofInt, BitVec.toNat_ofInt]
  have h4 : ((m : Int) % ((2 ^ 64 : Nat) : Int)).toNat = m := by omega
  have h5 : (((n * 2 ^ s : Nat) : Int) % ((2 ^ 64 : Nat) : Int)).toNat = n * 2 ^ s := by omega
  rw [h4, h5, Nat.mul_comm n, Nat.or_comm, ← Nat.two_pow_add_eq_or_of_lt hm, Nat.add_comm]
 simp only [xF, fBin, isSh, binI, Bool.false_eq_true, if_false, if_true]
 show K (.int .u64 (IntKind.u64.wrap ((BitVec.ofInt 64 (m : Int) ||| BitVec.ofInt 64 ((n * 2 ^ s : Nat) : Int)).toNat : Int))) = _
 rw [q, IntWalk.u64_in _ (by omega)]
 push_cast
 rfl
theorem shr2 {K : Value → Prop} {Q : EqK} {k' : IntKind} {w : Int} (h0 : 0 ≤ w) : xF (fBin .shr Q) [.int .u64 w, .int k' 2] K = K (.int .u64 (w / 4)) := by
 simpa using xShrG (K := K) (Q := Q) (k' := k') (s := 2) h0 (by decide)
theorem shl2 {K : Value → Prop} {Q : EqK} {k' : IntKind} {w : Int} (h0 : 0 ≤ w) (h1 : w * 4 < 18446744073709551616) : xF (fBin .shl Q) [.int .u64 w, .int k' 2] K = K (.int .u64 (w * 4)) := by
 simpa using xShlG (K := K) (Q := Q) (k' := k') (s := 2) h0 (by simpa using h1) (by decide)
theorem or2 {K : Value → Prop} {Q : EqK} {a c : Int} (h0 : 0 ≤ a) (h1 : a < 4) (h2 : 0 ≤ c) (h3 : a + c * 4 < 18446744073709551616) : xF (fBin .or Q) [.int .u64 a, .int .u64 (c * 4)] K = K (.int .u64 (a + c * 4)) := by
 simpa using xOrG (K := K) (Q := Q) (s := 2) h0 (by simpa using h1) h2 (by simpa using h3)
theorem shr3 {K : Value → Prop} {Q : EqK} {k' : IntKind} {w : Int} (h0 : 0 ≤ w) : xF (fBin .shr Q) [.int .u64 w, .int k' 3] K = K (.int .u64 (w / 8)) := by
 simpa using xShrG (K := K) (Q := Q) (k' := k') (s := 3) h0 (by decide)
theorem shl3 {K : Value → Prop} {Q : EqK} {k' : IntKind} {w : Int} (h0 : 0 ≤ w) (h1 : w * 8 < 18446744073709551616) : xF (fBin .shl Q) [.int .u64 w, .int k' 3] K = K (.int .u64 (w * 8)) := by
 simpa using xShlG (K := K) (Q := Q) (k' := k') (s := 3) h0 (by simpa using h1) (by decide)
theorem or3 {K : Value → Prop} {Q : EqK} {a c : Int} (h0 : 0 ≤ a) (h1 : a < 8) (h2 : 0 ≤ c) (h3 : a + c * 8 < 18446744073709551616) : xF (fBin .or Q) [.int .u64 a, .int .u64 (c * 8)] K = K (.int .u64 (a + c * 8)) := by
 simpa using xOrG (K := K) (Q := Q) (s := 3) h0 (by simpa using h1) h2 (by simpa using h3)
theorem shr8 {K : Value → Prop} {Q : EqK} {k' : IntKind} {w : Int} (h0 : 0 ≤ w) : xF (fBin .shr Q) [.int .u64 w, .int k' 8] K = K (.int .u64 (w / 256)) := by
 simpa using xShrG (K := K) (Q := Q) (k' := k') (s := 8) h0 (by decide)
theorem shl8 {K : Value → Prop} {Q : EqK} {k' : IntKind} {w : Int} (h0 : 0 ≤ w) (h1 : w * 256 < 18446744073709551616) : xF (fBin .shl Q) [.int .u64 w, .int k' 8] K = K (.int .u64 (w * 256)) := by
 simpa using xShlG (K := K) (Q := Q) (k' := k') (s := 8) h0 (by simpa using h1) (by decide)
theorem or8 {K : Value → Prop} {Q : EqK} {a c : Int} (h0 : 0 ≤ a) (h1 : a < 256) (h2 : 0 ≤ c) (h3 : a + c * 256 < 18446744073709551616) : xF (fBin .or Q) [.int .u64 a, .int .u64 (c * 256)] K = K (.int .u64 (a + c * 256)) := by
 simpa using xOrG (K := K) (Q := Q) (s := 8) h0 (by simpa using h1) h2 (by simpa using h3)
theorem shr16 {K : Value → Prop} {Q : EqK} {k' : IntKind} {w : Int} (h0 : 0 ≤ w) : xF (fBin .shr Q) [.int .u64 w, .int k' 16] K = K (.int .u64 (w / 65536)) := by
 simpa using xShrG (K := K) (Q := Q) (k' := k') (s := 16) h0 (by decide)
theorem shl16 {K : Value → Prop} {Q : EqK} {k' : IntKind} {w : Int} (h0 : 0 ≤ w) (h1 : w * 65536 < 18446744073709551616) : xF (fBin .shl Q) [.int .u64 w, .int k' 16] K = K (.int .u64 (w * 65536)) := by
 simpa using xShlG (K := K) (Q := Q) (k' := k') (s := 16) h0 (by simpa using h1) (by decide)
theorem or16 {K : Value → Prop} {Q : EqK} {a c : Int} (h0 : 0 ≤ a) (h1 : a < 65536) (h2 : 0 ≤ c) (h3 : a + c * 65536 < 18446744073709551616) : xF (fBin .or Q) [.int .u64 a, .int .u64 (c * 65536)] K = K (.int .u64 (a + c * 65536)) := by
 simpa using xOrG (K := K) (Q := Q) (s := 16) h0 (by simpa using h1) h2 (by simpa using h3)
theorem shr17 {K : Value → Prop} {Q : EqK} {k' : IntKind} {w : Int} (h0 : 0 ≤ w) : xF (fBin .shr Q) [.int .u64 w, .int k' 17] K = K (.int .u64 (w / 131072)) := by
 simpa using xShrG (K := K) (Q := Q) (k' := k') (s := 17) h0 (by decide)
theorem shl17 {K : Value → Prop} {Q : EqK} {k' : IntKind} {w : Int} (h0 : 0 ≤ w) (h1 : w * 131072 < 18446744073709551616) : xF (fBin .shl Q) [.int .u64 w, .int k' 17] K = K (.int .u64 (w * 131072)) := by
 simpa using xShlG (K := K) (Q := Q) (k' := k') (s := 17) h0 (by simpa using h1) (by decide)
theorem or17 {K : Value → Prop} {Q : EqK} {a c : Int} (h0 : 0 ≤ a) (h1 : a < 131072) (h2 : 0 ≤ c) (h3 : a + c * 131072 < 18446744073709551616) : xF (fBin .or Q) [.int .u64 a, .int .u64 (c * 131072)] K = K (.int .u64 (a + c * 131072)) := by
 simpa using xOrG (K := K) (Q := Q) (s := 17) h0 (by simpa using h1) h2 (by simpa using h3)
theorem shr18 {K : Value → Prop} {Q : EqK} {k' : IntKind} {w : Int} (h0 : 0 ≤ w) : xF (fBin .shr Q) [.int .u64 w, .int k' 18] K = K (.int .u64 (w / 262144)) := by
 simpa using xShrG (K := K) (Q := Q) (k' := k') (s := 18) h0 (by decide)
theorem shl18 {K : Value → Prop} {Q : EqK} {k' : IntKind} {w : Int} (h0 : 0 ≤ w) (h1 : w * 262144 < 18446744073709551616) : xF (fBin .shl Q) [.int .u64 w, .int k' 18] K = K (.int .u64 (w * 262144)) := by
 simpa using xShlG (K := K) (Q := Q) (k' := k') (s := 18) h0 (by simpa using h1) (by decide)
theorem or18 {K : Value → Prop} {Q : EqK} {a c : Int} (h0 : 0 ≤ a) (h1 : a < 262144) (h2 : 0 ≤ c) (h3 : a + c * 262144 < 18446744073709551616) : xF (fBin .or Q) [.int .u64 a, .int .u64 (c * 262144)] K = K (.int .u64 (a + c * 262144)) := by
 simpa using xOrG (K := K) (Q := Q) (s := 18) h0 (by simpa using h1) h2 (by simpa using h3)
theorem shr23 {K : Value → Prop} {Q : EqK} {k' : IntKind} {w : Int} (h0 : 0 ≤ w) : xF (fBin .shr Q) [.int .u64 w, .int k' 23] K = K (.int .u64 (w / 8388608)) := by
 simpa using xShrG (K := K) (Q := Q) (k' := k') (s := 23) h0 (by decide)
theorem shl23 {K : Value → Prop} {Q : EqK} {k' : IntKind} {w : Int} (h0 : 0 ≤ w) (h1 : w * 8388608 < 18446744073709551616) : xF (fBin .shl Q) [.int .u64 w, .int k' 23] K = K (.int .u64 (w * 8388608)) := by
 simpa using xShlG (K := K) (Q := Q) (k' := k') (s := 23) h0 (by simpa using h1) (by decide)
theorem or23 {K : Value → Prop} {Q : EqK} {a c : Int} (h0 : 0 ≤ a) (h1 : a < 8388608) (h2 : 0 ≤ c) (h3 : a + c * 8388608 < 18446744073709551616) : xF (fBin .or Q) [.int .u64 a, .int .u64 (c * 8388608)] K = K (.int .u64 (a + c * 8388608)) := by
 simpa using xOrG (K := K) (Q := Q) (s := 23) h0 (by simpa using h1) h2 (by simpa using h3)
theorem shr28 {K : Value → Prop} {Q : EqK} {k' : IntKind} {w : Int} (h0 : 0 ≤ w) : xF (fBin .shr Q) [.int .u64 w, .int k' 28] K = K (.int .u64 (w / 268435456)) := by
 simpa using xShrG (K := K) (Q := Q) (k' := k') (s := 28) h0 (by decide)
theorem shl28 {K : Value → Prop} {Q : EqK} {k' : IntKind} {w : Int} (h0 : 0 ≤ w) (h1 : w * 268435456 < 18446744073709551616) : xF (fBin .shl Q) [.int .u64 w, .int k' 28] K = K (.int .u64 (w * 268435456)) := by
 simpa using xShlG (K := K) (Q := Q) (k' := k') (s := 28) h0 (by simpa using h1) (by decide)
theorem or28 {K : Value → Prop} {Q : EqK} {a c : Int} (h0 : 0 ≤ a) (h1 : a < 268435456) (h2 : 0 ≤ c) (h3 : a + c * 268435456 < 18446744073709551616) : xF (fBin .or Q) [.int .u64 a, .int .u64 (c * 268435456)] K = K (.int .u64 (a + c * 268435456)) := by
 simpa using xOrG (K := K) (Q := Q) (s := 28) h0 (by simpa using h1) h2 (by simpa using h3)
theorem shr32 {K : Value → Prop} {Q : EqK} {k' : IntKind} {w : Int} (h0 : 0 ≤ w) : xF (fBin .shr Q) [.int .u64 w, .int k' 32] K = K (.int .u64 (w / 4294967296)) := by
 simpa using xShrG (K := K) (Q := Q) (k' := k') (s := 32) h0 (by decide)
theorem shr34 {K : Value → Prop} {Q : EqK} {k' : IntKind} {w : Int} (h0 : 0 ≤ w) : xF (fBin .shr Q) [.int .u64 w, .int k' 34] K = K (.int .u64 (w / 17179869184)) := by
 simpa using xShrG (K := K) (Q := Q) (k' := k') (s := 34) h0 (by decide)
theorem shl34 {K : Value → Prop} {Q : EqK} {k' : IntKind} {w : Int} (h0 : 0 ≤ w) (h1 : w * 17179869184 < 18446744073709551616) : xF (fBin .shl Q) [.int .u64 w, .int k' 34] K = K (.int .u64 (w * 17179869184)) := by
 simpa using xShlG (K := K) (Q := Q) (k' := k') (s := 34) h0 (by simpa using h1) (by decide)
theorem or34 {K : Value → Prop} {Q : EqK} {a c : Int} (h0 : 0 ≤ a) (h1 : a < 17179869184) (h2 : 0 ≤ c) (h3 : a + c * 17179869184 < 18446744073709551616) : xF (fBin .or Q) [.int .u64 a, .int .u64 (c * 17179869184)] K = K (.int .u64 (a + c * 17179869184)) := by
 simpa using xOrG (K := K) (Q := Q) (s := 34) h0 (by simpa using h1) h2 (by simpa using h3)
theorem shr39 {K : Value → Prop} {Q : EqK} {k' : IntKind} {w : Int} (h0 : 0 ≤ w) : xF (fBin .shr Q) [.int .u64 w, .int k' 39] K = K (.int .u64 (w / 549755813888)) := by
 simpa using xShrG (K := K) (Q := Q) (k' := k') (s := 39) h0 (by decide)
theorem shl39 {K : Value → Prop} {Q : EqK} {k' : IntKind} {w : Int} (h0 : 0 ≤ w) (h1 : w * 549755813888 < 18446744073709551616) : xF (fBin .shl Q) [.int .u64 w, .int k' 39] K = K (.int .u64 (w * 549755813888)) := by
 simpa using xShlG (K := K) (Q := Q) (k' := k') (s := 39) h0 (by simpa using h1) (by decide)
theorem or39 {K : Value → Prop} {Q : EqK} {a c : Int} (h0 : 0 ≤ a) (h1 : a < 549755813888) (h2 : 0 ≤ c) (h3 : a + c * 549755813888 < 18446744073709551616) : xF (fBin .or Q) [.int .u64 a, .int .u64 (c * 549755813888)] K = K (.int .u64 (a + c * 549755813888)) := by
 simpa using xOrG (K := K) (Q := Q) (s := 39) h0 (by simpa using h1) h2 (by simpa using h3)
theorem shr40 {K : Value → Prop} {Q : EqK} {k' : IntKind} {w : Int} (h0 : 0 ≤ w) : xF (fBin .shr Q) [.int .u64 w, .int k' 40] K = K (.int .u64 (w / 1099511627776)) := by
 simpa using xShrG (K := K) (Q := Q) (k' := k') (s := 40) h0 (by decide)
theorem shl40 {K : Value → Prop} {Q : EqK} {k' : IntKind} {w : Int} (h0 : 0 ≤ w) (h1 : w * 1099511627776 < 18446744073709551616) : xF (fBin .shl Q) [.int .u64 w, .int k' 40] K = K (.int .u64 (w * 1099511627776)) := by
 simpa using xShlG (K := K) (Q := Q) (k' := k') (s := 40) h0 (by simpa using h1) (by decide)
theorem or40 {K : Value → Prop} {Q : EqK} {a c : Int} (h0 : 0 ≤ a) (h1 : a < 1099511627776) (h2 : 0 ≤ c) (h3 : a + c * 1099511627776 < 18446744073709551616) : xF (fBin .or Q) [.int .u64 a, .int .u64 (c * 1099511627776)] K = K (.int .u64 (a + c * 1099511627776)) := by
 simpa using xOrG (K := K) (Q := Q) (s := 40) h0 (by simpa using h1) h2 (by simpa using h3)
theorem shr50 {K : Value → Prop} {Q : EqK} {k' : IntKind} {w : Int} (h0 : 0 ≤ w) : xF (fBin .shr Q) [.int .u64 w, .int k' 50] K = K (.int .u64 (w / 1125899906842624)) := by
 simpa using xShrG (K := K) (Q := Q) (k' := k') (s := 50) h0 (by decide)
theorem or50 {K : Value → Prop} {Q : EqK} {a c : Int} (h0 : 0 ≤ a) (h1 : a < 1125899906842624) (h2 : 0 ≤ c) (h3 : a + c * 1125899906842624 < 18446744073709551616) : xF (fBin .or Q) [.int .u64 a, .int .u64 (c * 1125899906842624)] K = K (.int .u64 (a + c * 1125899906842624)) := by
 simpa using xOrG (K := K) (Q := Q) (s := 50) h0 (by simpa using h1) h2 (by simpa using h3)
theorem shr63 {K : Value → Prop} {Q : EqK} {k' : IntKind} {w : Int} (h0 : 0 ≤ w) : xF (fBin .shr Q) [.int .u64 w, .int k' 63] K = K (.int .u64 (w / 9223372036854775808)) := by
 simpa using xShrG (K := K) (Q := Q) (k' := k') (s := 63) h0 (by decide)
def cl (n m : Int) : Int := min (max n 0) m
theorem cl_nn {n m : Int} (h : 0 ≤ m) : 0 ≤ cl n m := by unfold cl; omega
theorem cl_le {n m : Int} : cl n m ≤ m := by unfold cl; omega
theorem cl_in {n m : Int} (h0 : 0 ≤ n) (h1 : n ≤ m) : cl n m = n := by unfold cl; omega
theorem c_fit {n m : Int} (h0 : 0 ≤ m) (h1 : m < 18446744073709551616) : s_c1 [.int .i64 n, .int .i64 m] K σ = K (.int .u64 (cl n m)) σ := by
 simp only [s_c1, w_c1, ruS, Nat.reduceAdd, reduceIte, Int.reduceLT, Int.reduceLE, Int.reduceEq, Int.reduceNeg, Int.reduceAdd, Int.reduceSub]
 rw [IntWalk.u64_in _ (by omega)]; rfl
def putTop (s c : Int) : Int := cl (min s 65535 + 1) 65536 + cl c 68719476735 * 131072
theorem putTop_in (s c : Int) : 0 ≤ putTop s c ∧ putTop s c < 18446744073709551616 := by unfold putTop cl; omega
theorem c_PutTop {s c : Int} (h : -9223372036854775808 ≤ s) : s_cy [.int .i64 s, .int .i64 c] K σ = K (.int .u64 (putTop s c)) σ := by
 simp only [s_cy, w_cy, ruS, Nat.reduceAdd, reduceIte, Int.reduceLT, Int.reduceLE, Int.reduceEq, Int.reduceNeg, Int.reduceAdd, Int.reduceSub]
 have h1 := @cl_le (min s 65535 + 1) 65536
 have h2 := @cl_nn (min s 65535 + 1) 65536 (by decide)
 have h3 := @cl_le c 68719476735
 have h4 := @cl_nn c 68719476735 (by decide)
 rw [IntWalk.i64_in _ (by omega), c_fit (by decide) (by decide), c_fit (by decide) (by decide), shl17 h4 (by omega), or17 h2 (by omega) h4 (by omega)]
 rfl
def topS (w : Int) : Int := w % 131072 - 1
def topN (w : Int) : Int := w / 131072 % 68719476736
theorem c_Top {w : Int} (h0 : 0 ≤ w) (h1 : w < 18446744073709551616) : s_c0 [.int .u64 w] K σ = K (.tuple #[.int .i64 (topS w), .int .i64 (topN w)]) σ := by
 simp only [s_c0, w_c0, ruS, Nat.reduceAdd, reduceIte, Int.reduceLT, Int.reduceLE, Int.reduceEq, Int.reduceNeg, Int.reduceAdd, Int.reduceSub]
 rw [and17 h0 h1]
 simp only [ruS, Nat.reduceAdd, reduceIte, Int.reduceLT, Int.reduceLE, Int.reduceEq, Int.reduceNeg, Int.reduceAdd, Int.reduceSub]
 rw [shr17 h0, and36 (by omega) (by omega)]
 simp only [ruS, Nat.reduceAdd, reduceIte, Int.reduceLT, Int.reduceLE, Int.reduceEq, Int.reduceNeg, Int.reduceAdd, Int.reduceSub]
 rw [IntWalk.i64_in (w % 131072) (by omega), IntWalk.i64_in (w % 131072 - 1) (by omega), IntWalk.i64_in (w / 131072 % 68719476736) (by omega)]
 rfl
def putSlot (st ad ge ve : Int) : Int := cl st 7 + cl ad 1048575 * 8 + cl ge 65535 * 8388608 + cl ve 4194303 * 549755813888
theorem putSlot_in (st ad ge ve : Int) : 0 ≤ putSlot st ad ge ve ∧ putSlot st ad ge ve < 18446744073709551616 := by unfold putSlot cl; omega
theorem c_PutSlot {st ad ge ve : Int} : s_cx [.agg #[.int .i64 st, .int .i64 ad, .int .i64 ge, .int .i64 ve]] K σ = K (.int .u64 (putSlot st ad ge ve)) σ := by
 simp only [s_cx, w_cx, ruS, ruL, ruX, Nat.reduceAdd, reduceIte, Int.reduceLT, Int.reduceLE, Int.reduceEq, Int.reduceNeg, Int.reduceAdd, Int.reduceSub, Nat.reduceLeDiff]
 have h1 := @cl_le st 7
 have h2 := @cl_nn st 7 (by decide)
 have h3 := @cl_le ad 1048575
 have h4 := @cl_nn ad 1048575 (by decide)
 have h5 := @cl_le ge 65535
 have h6 := @cl_nn ge 65535 (by decide)
 have h7 := @cl_le ve 4194303
 have h8 := @cl_nn ve 4194303 (by decide)
 rw [c_fit (by decide) (by decide), c_fit (by decide) (by decide), shl3 h4 (by omega), or3 h2 (by omega) h4 (by omega), c_fit (by decide) (by decide), shl23 h6 (by omega), or23 (by omega) (by omega) h6 (by omega),
  c_fit (by decide) (by decide), shl39 h8 (by omega), or39 (by omega) (by omega) h8 (by omega)]
 rfl
structure isA (N : Nm) (A : Ar) (σ : Mem) : Prop where
 m : σ.get N.m = some ⟨A.mc N, true⟩
 w : σ.get N.w = some A.wb
 t : σ.get N.t = some A.tb
def Ext (σ τ : Mem) : Prop := ∀ i b, σ.get i = some b → τ.get i = some b
def Keep (L : List Nat) (σ τ : Mem) : Prop := ∀ i b, σ.get i = some b → i ∉ L → τ.get i = some b
theorem Ext.trans {τ υ : Mem} (h : Ext σ τ) (k : Ext τ υ) : Ext σ υ := fun i b q => k i b (h i b q)
theorem Keep.trans {L : List Nat} {τ υ : Mem} (h : Keep L σ τ) (k : Keep L τ υ) : Keep L σ υ := fun i b q n => k i b (h i b q n) n
theorem Keep.mono {L L' : List Nat} {τ : Mem} (h : Keep L σ τ) (hl : ∀ i ∈ L, i ∈ L') : Keep L' σ τ := fun i b q n => h i b q fun hi => n (hl i hi)
theorem Ext.keep {L : List Nat} {τ : Mem} (h : Ext σ τ) : Keep L σ τ := fun i b q _ => h i b q
theorem Ext.fresh {id : Nat} {b : Blk} (h : σ.get id = none) : Ext σ (σ.set id b) := by
 intro i c hi
 rw [Mem.get_set_ne _ _ (by rintro rfl; rw [h] at hi; cases hi)]
 exact hi
theorem isA_put (h : N.ok) : isA N A (putA N A σ) := ⟨putA_m, putA_w h, putA_t h⟩
theorem isA.eq (h : isA N A σ) : σ = putA N A σ := by
 unfold putA
 rw [Mem.set_self h.t, Mem.set_self h.w, Mem.set_self h.m]
theorem isA.ext {τ : Mem} (h : isA N A σ) (k : Ext σ τ) : isA N A τ := ⟨k _ _ h.m, k _ _ h.w, k _ _ h.t⟩
def Nm.l (N : Nm) : List Nat := [N.m, N.w, N.t]
theorem Keep.put : Keep N.l σ (putA N A σ) := by
 intro i b hi hn
 simp only [Nm.l, List.mem_cons, List.not_mem_nil, or_false, not_or] at hn
 rw [putA_ne hn.1 hn.2.1 hn.2.2]; exact hi
theorem isA.fresh (h : isA N A σ) {id : Nat} (hid : σ.get id = none) : id ≠ N.m ∧ id ≠ N.w ∧ id ≠ N.t :=
 ⟨fun e => (by rw [e, h.m] at hid; cases hid), fun e => (by rw [e, h.w] at hid; cases hid), fun e => (by rw [e, h.t] at hid; cases hid)⟩
structure Cf.ok (c : Cf) : Prop where
 T : 1 ≤ c.T ∧ c.T ≤ 8
 S : 1 ≤ c.S ∧ c.S ≤ 65536
 C : 1 ≤ c.C ∧ c.C ≤ 64
 W : 17 ≤ c.W ∧ c.W ≤ 256
 G : 1 ≤ c.G ∧ c.G ≤ 65535
 P : 0 ≤ c.P ∧ c.P ≤ 1000
 R : 1 ≤ c.R ∧ c.R ≤ 16
def Cf.slot (c : Cf) (s : Int) : Int := 6 + c.T + 2 * s
def Cf.chunk (c : Cf) (k : Int) : Int := 6 + c.T + 2 * c.S + 3 * k
def Cf.base (c : Cf) (k : Int) : Int := 6 + c.T + 2 * c.S + 3 * c.C + c.W * k
def Cf.len (c : Cf) : Int := c.base c.C
theorem mulW {c : Cf} (h : c.ok) {k : Int} (h0 : 0 ≤ k) (h1 : k ≤ 1048576) : 0 ≤ c.W * k ∧ c.W * k ≤ 268435456 := by
 have hW := h.W
 refine ⟨Int.mul_nonneg (by omega) h0, ?_⟩
 calc c.W * k ≤ 256 * k := Int.mul_le_mul_of_nonneg_right hW.2 h0
  _ ≤ 268435456 := by omega
theorem c_lTop : s_bq [] K σ = K (.int .i64 1) σ := by simp only [s_bq, w_bq, ruS, Nat.reduceAdd, reduceIte, Int.reduceLT, Int.reduceLE, Int.reduceEq, Int.reduceNeg, Int.reduceAdd, Int.reduceSub]
theorem c_Open {k : Int} (h0 : 0 ≤ k) (h1 : k ≤ 65536) : s_bn [.int .i64 k] K σ = K (.int .i64 (2 + k)) σ := by
 simp only [s_bn, w_bn, ruS, Nat.reduceAdd, reduceIte, Int.reduceLT, Int.reduceLE, Int.reduceEq, Int.reduceNeg, Int.reduceAdd, Int.reduceSub]
 rw [IntWalk.i64_in _ (by omega)]
theorem c_Slot (h : C.ok) {s : Int} (h0 : 0 ≤ s) (h1 : s ≤ 65536) : s_bp [C.v, .int .i64 s] K σ = K (.int .i64 (C.slot s)) σ := by
 have := h.T
 simp only [s_bp, w_bp, Cf.v, ruS, ruL, ruX, Nat.reduceAdd, reduceIte, Int.reduceLT, Int.reduceLE, Int.reduceEq, Int.reduceNeg, Int.reduceAdd, Int.reduceSub, Nat.reduceLeDiff]
 rw [IntWalk.i64_in (6 + C.T) (by omega), IntWalk.i64_in (2 * s) (by omega), IntWalk.i64_in _ (by omega)]; rfl
theorem c_Chunk (h : C.ok) {s : Int} (h0 : 0 ≤ s) (h1 : s ≤ 65536) : s_bd [C.v, .int .i64 s] K σ = K (.int .i64 (C.chunk s)) σ := by
 have := h.T
 have := h.S
 simp only [s_bd, w_bd, Cf.v, ruS, ruL, ruX, Nat.reduceAdd, reduceIte, Int.reduceLT, Int.reduceLE, Int.reduceEq, Int.reduceNeg, Int.reduceAdd, Int.reduceSub, Nat.reduceLeDiff]
 rw [IntWalk.i64_in (6 + C.T) (by omega), IntWalk.i64_in (2 * C.S) (by omega), IntWalk.i64_in (3 * s) (by omega), IntWalk.i64_in (6 + C.T + 2 * C.S) (by omega), IntWalk.i64_in _ (by omega)]; rfl
theorem c_Base (h : C.ok) {s : Int} (h0 : 0 ≤ s) (h1 : s ≤ 65536) : s_bb [C.v, .int .i64 s] K σ = K (.int .i64 (C.base s)) σ := by
 have := h.T
 have := h.S
 have := h.C
 have := mulW h h0 (by omega)
 simp only [s_bb, w_bb, Cf.v, ruS, ruL, ruX, Nat.reduceAdd, reduceIte, Int.reduceLT, Int.reduceLE, Int.reduceEq, Int.reduceNeg, Int.reduceAdd, Int.reduceSub, Nat.reduceLeDiff]
 rw [IntWalk.i64_in (6 + C.T) (by omega), IntWalk.i64_in (2 * C.S) (by omega), IntWalk.i64_in (3 * C.C) (by omega), IntWalk.i64_in (6 + C.T + 2 * C.S) (by omega), IntWalk.i64_in (6 + C.T + 2 * C.S + 3 * C.C) (by omega), IntWalk.i64_in (C.W * s) (by omega), IntWalk.i64_in _ (by omega)]; rfl
theorem c_lLen (h : C.ok) : s_bl [C.v] K σ = K (.int .i64 C.len) σ := by
 have := h.C
 have e := fun (K : Value → Mem → Prop) σ => c_Base (K := K) (σ := σ) h (s := C.C) (by omega) (by omega)
 simp only [s_bl, w_bl, Cf.v, ruS, ruL, ruX, Nat.reduceAdd, reduceIte, Int.reduceLT, Int.reduceLE, Int.reduceEq, Int.reduceNeg, Int.reduceAdd, Int.reduceSub, Nat.reduceLeDiff] at e ⊢
 rw [e]; rfl
section
variable {K : Value → Prop}
theorem shl2_0 : xF (fBin .shl .no) [.int .i64 2, .int .i64 0] K = K (.int .i64 2) := nr rfl
theorem shl2_1 : xF (fBin .shl .no) [.int .i64 2, .int .i64 1] K = K (.int .i64 4) := nr rfl
theorem shl2_2 : xF (fBin .shl .no) [.int .i64 2, .int .i64 2] K = K (.int .i64 8) := nr rfl
theorem shl2_3 : xF (fBin .shl .no) [.int .i64 2, .int .i64 3] K = K (.int .i64 16) := nr rfl
end
theorem i64_1 : IntKind.i64.wrap 1 = 1 := nr rfl
theorem i64_2 : IntKind.i64.wrap 2 = 2 := nr rfl
theorem i64_3 : IntKind.i64.wrap 3 = 3 := nr rfl
theorem i64_4 : IntKind.i64.wrap 4 = 4 := nr rfl
theorem i64_5 : IntKind.i64.wrap 5 = 5 := nr rfl
theorem i64_9 : IntKind.i64.wrap 9 = 9 := nr rfl
theorem i64_17 : IntKind.i64.wrap 17 = 17 := nr rfl
def classOf (n : Int) : Int := if n < 1 then -1 else if n ≤ 2 then 0 else if n ≤ 4 then 1 else if n ≤ 8 then 2 else if n ≤ 16 then 3 else -1
theorem c_Class {n : Int} (hk : K (.int .i64 (classOf n)) σ) : s_be [.int .i64 n] K σ := by
 simp only [s_be, w_be, ruS, Nat.reduceAdd, reduceIte, Int.reduceLT, Int.reduceLE, Int.reduceEq, Int.reduceNeg, Int.reduceAdd, Int.reduceSub]
 by_cases h : 1 ≤ n
 ·unfold classOf at hk
  rw [if_neg (by omega)] at hk
  refine xLoop_fold ?_
  simp only [w_layout_Class_l3, w_layout_Class_l3b, w_be_j2, w_be_j2b, w_be_j1, w_be_j1b, ruS, Nat.reduceAdd, reduceIte, Int.reduceLT, Int.reduceLE, Int.reduceEq, Int.reduceNeg, Int.reduceAdd, Int.reduceSub, h, shl2_0, i64_1]
  by_cases h1 : n ≤ 2
  ·rw [if_pos h1] at hk ⊢; exact hk
  rw [if_neg h1] at hk ⊢
  refine xLoop_fold ?_
  simp only [w_layout_Class_l3, w_layout_Class_l3b, w_be_j2, w_be_j2b, w_be_j1, w_be_j1b, ruS, Nat.reduceAdd, reduceIte, Int.reduceLT, Int.reduceLE, Int.reduceEq, Int.reduceNeg, Int.reduceAdd, Int.reduceSub, h, shl2_1, i64_2]
  by_cases h1 : n ≤ 4
  ·rw [if_pos h1] at hk ⊢; exact hk
  rw [if_neg h1] at hk ⊢
  refine xLoop_fold ?_
  simp only [w_layout_Class_l3, w_layout_Class_l3b, w_be_j2, w_be_j2b, w_be_j1, w_be_j1b, ruS, Nat.reduceAdd, reduceIte, Int.reduceLT, Int.reduceLE, Int.reduceEq, Int.reduceNeg, Int.reduceAdd, Int.reduceSub, h, shl2_2, i64_3]
  by_cases h1 : n ≤ 8
  ·rw [if_pos h1] at hk ⊢; exact hk
  rw [if_neg h1] at hk ⊢
  refine xLoop_fold ?_
  simp only [w_layout_Class_l3, w_layout_Class_l3b, w_be_j2, w_be_j2b, w_be_j1, w_be_j1b, ruS, Nat.reduceAdd, reduceIte, Int.reduceLT, Int.reduceLE, Int.reduceEq, Int.reduceNeg, Int.reduceAdd, Int.reduceSub, h, shl2_3, i64_4]
  by_cases h1 : n ≤ 16
  ·rw [if_pos h1] at hk ⊢; exact hk
  rw [if_neg h1] at hk ⊢
  refine xLoop_fold ?_
  simp only [w_layout_Class_l3, w_layout_Class_l3b, w_be_j2, w_be_j2b, w_be_j1, w_be_j1b, ruS, Nat.reduceAdd, reduceIte, Int.reduceLT, Int.reduceLE, Int.reduceEq, Int.reduceNeg, Int.reduceAdd, Int.reduceSub]
  exact hk
 ·unfold classOf at hk
  rw [if_pos (by omega)] at hk
  refine xLoop_fold ?_
  simp only [w_layout_Class_l3, w_layout_Class_l3b, w_be_j2, w_be_j2b, w_be_j1, w_be_j1b, ruS, Nat.reduceAdd, reduceIte, Int.reduceLT, Int.reduceLE, Int.reduceEq, Int.reduceNeg, Int.reduceAdd, Int.reduceSub, h, i64_1]
  refine xLoop_fold ?_
  simp only [w_layout_Class_l3, w_layout_Class_l3b, w_be_j2, w_be_j2b, w_be_j1, w_be_j1b, ruS, Nat.reduceAdd, reduceIte, Int.reduceLT, Int.reduceLE, Int.reduceEq, Int.reduceNeg, Int.reduceAdd, Int.reduceSub, h, i64_2]
  refine xLoop_fold ?_
  simp only [w_layout_Class_l3, w_layout_Class_l3b, w_be_j2, w_be_j2b, w_be_j1, w_be_j1b, ruS, Nat.reduceAdd, reduceIte, Int.reduceLT, Int.reduceLE, Int.reduceEq, Int.reduceNeg, Int.reduceAdd, Int.reduceSub, h, i64_3]
  refine xLoop_fold ?_
  simp only [w_layout_Class_l3, w_layout_Class_l3b, w_be_j2, w_be_j2b, w_be_j1, w_be_j1b, ruS, Nat.reduceAdd, reduceIte, Int.reduceLT, Int.reduceLE, Int.reduceEq, Int.reduceNeg, Int.reduceAdd, Int.reduceSub, h, i64_4]
  refine xLoop_fold ?_
  simp only [w_layout_Class_l3, w_layout_Class_l3b, w_be_j2, w_be_j2b, w_be_j1, w_be_j1b, ruS, Nat.reduceAdd, reduceIte, Int.reduceLT, Int.reduceLE, Int.reduceEq, Int.reduceNeg, Int.reduceAdd, Int.reduceSub]
  exact hk
def roomOf (k : Int) : Int := if k = 0 then 3 else if k = 1 then 5 else if k = 2 then 9 else 17
theorem c_Room {k : Int} (h0 : 0 ≤ k) (h1 : k ≤ 3) : s_bo [.int .i64 k] K σ = K (.int .i64 (roomOf k)) σ := by
 simp only [s_bo, w_bo, ruS, Nat.reduceAdd, reduceIte, Int.reduceLT, Int.reduceLE, Int.reduceEq, Int.reduceNeg, Int.reduceAdd, Int.reduceSub]
 rcases (show k = 0 ∨ k = 1 ∨ k = 2 ∨ k = 3 by omega) with rfl | rfl | rfl | rfl <;>
  simp only [shl2_0, shl2_1, shl2_2, shl2_3, ruS, Nat.reduceAdd, reduceIte, Int.reduceLT, Int.reduceLE, Int.reduceEq, Int.reduceNeg, Int.reduceAdd, Int.reduceSub, i64_3, i64_5, i64_9, i64_17] <;> rfl
end Go.Fl
namespace Go.Fl
open Go
set_option linter.unusedVariables false
set_option linter.unusedSimpArgs false
variable {N : Nm} {A B : Ar} {σ : Mem} {K : Value → Mem → Prop} {C : Cf} {who : Int}
def Cf.okB (c : Cf) : Bool :=
 (decide (1 ≤ c.T) && decide (c.T ≤ 8) && decide (1 ≤ c.S) && decide (c.S ≤ 65536)) && (decide (1 ≤ c.C) && decide (c.C ≤ 64) && decide (17 ≤ c.W) && decide (c.W ≤ 256)) &&
 (decide (1 ≤ c.G) && decide (c.G ≤ 65535) && decide (0 ≤ c.P) && decide (c.P ≤ 1000) && decide (1 ≤ c.R) && decide (c.R ≤ 16))
theorem Cf.okB_iff {c : Cf} : c.okB = true ↔ c.ok := by
 simp only [Cf.okB, Bool.and_eq_true, decide_eq_true_eq]
 constructor
 ·rintro ⟨⟨⟨⟨⟨a, b⟩, d⟩, e⟩, ⟨⟨f, g⟩, h⟩, i⟩, ⟨⟨⟨⟨j, k⟩, l⟩, m⟩, n⟩, o⟩
  exact ⟨⟨a, b⟩, ⟨d, e⟩, ⟨f, g⟩, ⟨h, i⟩, ⟨j, k⟩, ⟨l, m⟩, ⟨n, o⟩⟩
 ·rintro ⟨⟨a, b⟩, ⟨d, e⟩, ⟨f, g⟩, ⟨h, i⟩, ⟨j, k⟩, ⟨l, m⟩, ⟨n, o⟩⟩
  exact ⟨⟨⟨⟨⟨a, b⟩, d⟩, e⟩, ⟨⟨f, g⟩, h⟩, i⟩, ⟨⟨⟨⟨j, k⟩, l⟩, m⟩, n⟩, o⟩
theorem check_j3 {x y z : Bool} : w_bc_j3b K (.bool x) (.bool y) (.bool z) σ = K (.bool (x && y && z)) σ := by
 simp only [w_bc_j3b, ruS, ruL, ruX, Nat.reduceAdd, reduceIte, Int.reduceLT, Int.reduceLE, Int.reduceEq, Int.reduceNeg, Int.reduceAdd, Int.reduceSub, Nat.reduceLeDiff]
 cases x <;> cases y <;> cases z <;> simp only [ruS, ruL, ruX, Nat.reduceAdd, reduceIte, Int.reduceLT, Int.reduceLE, Int.reduceEq, Int.reduceNeg, Int.reduceAdd, Int.reduceSub, Nat.reduceLeDiff, Bool.and_true, Bool.and_false, Bool.false_and, Bool.true_and]
theorem check_j2 {x y : Bool} : w_bc_j2b K (.bool x) (.bool y) C.l σ = K (.bool (x && y && (decide (1 ≤ C.G) && decide (C.G ≤ 65535) && decide (0 ≤ C.P) && decide (C.P ≤ 1000) && decide (1 ≤ C.R) && decide (C.R ≤ 16)))) σ := by
 simp only [w_bc_j2b, w_bc_j3, Cf.l, ruS, ruL, ruX, Nat.reduceAdd, reduceIte, Int.reduceLT, Int.reduceLE, Int.reduceEq, Int.reduceNeg, Int.reduceAdd, Int.reduceSub, Nat.reduceLeDiff, check_j3]
 by_cases h1 : 1 ≤ C.G <;> by_cases h2 : C.G ≤ 65535 <;> by_cases h3 : 0 ≤ C.P <;> by_cases h4 : C.P ≤ 1000 <;> by_cases h5 : 1 ≤ C.R <;>
  simp only [h1, h2, h3, h4, h5, ruS, ruL, ruX, Nat.reduceAdd, reduceIte, Int.reduceLT, Int.reduceLE, Int.reduceEq, Int.reduceNeg, Int.reduceAdd, Int.reduceSub, Nat.reduceLeDiff, check_j3, Bool.and_true, Bool.and_false, Bool.false_and, Bool.true_and]
theorem c_Check : s_bc [C.v] K σ = K (.bool C.okB) σ := by
 have j1 : ∀ {x : Bool}, w_bc_j1b K (.bool x) C.l σ = K (.bool (x && (decide (1 ≤ C.C) && decide (C.C ≤ 64) && decide (17 ≤ C.W) && decide (C.W ≤ 256)) && (decide (1 ≤ C.G) && decide (C.G ≤ 65535) && decide (0 ≤ C.P) && decide (C.P ≤ 1000) && decide (1 ≤ C.R) && decide (C.R ≤ 16)))) σ := by
  intro x
  have e := @check_j2 σ K C
  simp only [Cf.l] at e
  simp only [w_bc_j1b, w_bc_j2, Cf.l, ruS, ruL, ruX, Nat.reduceAdd, reduceIte, Int.reduceLT, Int.reduceLE, Int.reduceEq, Int.reduceNeg, Int.reduceAdd, Int.reduceSub, Nat.reduceLeDiff]
  by_cases h1 : 1 ≤ C.C <;> by_cases h2 : C.C ≤ 64 <;> by_cases h3 : 17 ≤ C.W <;>
   simp only [h1, h2, h3, ruS, ruL, ruX, Nat.reduceAdd, reduceIte, Int.reduceLT, Int.reduceLE, Int.reduceEq, Int.reduceNeg, Int.reduceAdd, Int.reduceSub, Nat.reduceLeDiff, e, Bool.and_true, Bool.and_false, Bool.false_and, Bool.true_and]
 simp only [Cf.l] at j1
 simp only [s_bc, w_bc, w_bc_j1, Cf.v, ruS, ruL, ruX, Nat.reduceAdd, reduceIte, Int.reduceLT, Int.reduceLE, Int.reduceEq, Int.reduceNeg, Int.reduceAdd, Int.reduceSub, Nat.reduceLeDiff]
 unfold Cf.okB
 by_cases h1 : 1 ≤ C.T <;> by_cases h2 : C.T ≤ 8 <;> by_cases h3 : 1 ≤ C.S <;>
  simp only [h1, h2, h3, ruS, ruL, ruX, Nat.reduceAdd, reduceIte, Int.reduceLT, Int.reduceLE, Int.reduceEq, Int.reduceNeg, Int.reduceAdd, Int.reduceSub, Nat.reduceLeDiff, j1, Bool.and_true, Bool.and_false, Bool.false_and, Bool.true_and]
theorem hMakeS_eq {es by' : Nat} {z : List Value} {n : Int} {K : Value → Mem → Prop} {σ : Mem} (h0 : 0 ≤ n) (h1 : n ≤ 1073741824) (hb : by' ≤ 1024) :
  hMakeS es by' z [.int .i64 n, .int .i64 n] K σ = newB (List.replicate n.toNat z).flatten (fun id => .slice (some ⟨id, 0, none⟩) n.toNat es) K σ := by
 simp only [hMakeS]
 rw [if_pos ⟨trivial, h0, h1, hb⟩]
theorem hBox_a {cs : List Value} {sz : Nat} {K : Value → Mem → Prop} {σ : Mem} (h : cs.length = sz) :
  hBox sz [.agg cs.toArray] K σ = newB cs (fun id => .pointer (some ⟨id, 0, none⟩)) K σ := by
 subst h
 have : cellsOf (.agg cs.toArray) cs.length = some cs := by simp [cellsOf]
 simp only [hBox, this]
def Ar.new (n : Nat) : Ar := ⟨n, fun _ => 0, fun _ => 0, 0, 0, 0, 0, false⟩
structure Nm.fr (N : Nm) (σ : Mem) : Prop where
 m : σ.get N.m = none
 w : σ.get N.w = none
 t : σ.get N.t = none
theorem xBuildMem {a b : Value} {K : Value → Prop} (ha : cellsOf a 1 = some [a]) (hb : cellsOf b 1 = some [b]) :
  xF (fBuild [(0, 1), (1, 1), (2, 1), (3, 1), (4, 3)] [.slice none 0 0, .slice none 0 0, .int .i64 0, .int .i64 0, .int .i64 0, .int .i64 0, .bool false] [0, 1]) [a, b] K =
   K (.agg #[a, b, .int .i64 0, .int .i64 0, .int .i64 0, .int .i64 0, .bool false]) := by
 simp [xF, fBuild, fillL, ha, hb, lay]
theorem c_New {n : Int} (h0 : 1 ≤ n) (h1 : n ≤ 1048576) (hk : ∀ N τ, N.ok → isA N (.new n.toNat) τ → Ext σ τ → N.fr σ → K (.tuple #[N.p, .int .i64 0]) τ) : s_b2 [.int .i64 n] K σ := by
 simp only [s_b2, w_b2, w_b2_j1, w_b2_j1b, ruS, Nat.reduceAdd, reduceIte, Int.reduceLT, Int.reduceLE, Int.reduceEq, Int.reduceNeg, Int.reduceAdd, Int.reduceSub]
 rw [if_neg (by omega), if_neg (by omega)]
 rw [hMakeS_eq (by omega) (by omega) (by decide)]
 intro w hw
 rw [hMakeS_eq (by omega) (by omega) (by decide)]
 intro t ht
 rw [xBuildMem rfl rfl]
 refine (hBox_a (cs := [_, _, _, _, _, _, _]) rfl).mpr ?_
 intro m hm
 simp only [ruS, Nat.reduceAdd, reduceIte, Int.reduceLT, Int.reduceLE, Int.reduceEq, Int.reduceNeg, Int.reduceAdd, Int.reduceSub]
 have hwt : w ≠ t := by rintro rfl; simp at ht
 have hmt : m ≠ t := by rintro rfl; simp at hm
 have hmw : m ≠ w := by
  rintro rfl
  rw [Mem.get_set_ne _ _ hwt, Mem.get_set_same] at hm; cases hm
 refine hk ⟨m, w, t⟩ _ ⟨hmw, hmt, hwt⟩ ⟨?_, ?_, ?_⟩ ?_ ⟨?_, hw, ?_⟩
 ·rw [Mem.get_set_same]; rfl
 ·rw [Mem.get_set_ne _ _ hmw.symm, Mem.get_set_ne _ _ hwt, Mem.get_set_same, cells_repl]; rfl
 ·rw [Mem.get_set_ne _ _ hmt.symm, Mem.get_set_same, cells_repl]; rfl
 ·exact ((Ext.fresh hw).trans (Ext.fresh ht)).trans (Ext.fresh hm)
 ·rw [Mem.get_set_ne _ _ hmt, Mem.get_set_ne _ _ hmw] at hm; exact hm
 ·rw [Mem.get_set_ne _ _ hwt.symm] at ht; exact ht
def Nm.el (N : Nm) (c : Cf) (who : Int) : List Value := [.int .i64 c.T, .int .i64 c.S, .int .i64 c.C, .int .i64 c.W, .int .i64 c.G, .int .i64 c.P, .int .i64 c.R, N.p, .int .i64 who]
section
variable {c : Cf} {l : List Value}
theorem gBoxC : gBox 7 [c.v] l = some c.l := nr rfl
theorem subC : sub c.l 0 7 true = some c.v := nr rfl
theorem subC0 : sub c.l 0 1 false = some (.int .i64 c.T) := nr rfl
theorem subC1 : sub c.l 1 1 false = some (.int .i64 c.S) := nr rfl
theorem subC2 : sub c.l 2 1 false = some (.int .i64 c.C) := nr rfl
theorem subC3 : sub c.l 3 1 false = some (.int .i64 c.W) := nr rfl
theorem subC4 : sub c.l 4 1 false = some (.int .i64 c.G) := nr rfl
theorem subC5 : sub c.l 5 1 false = some (.int .i64 c.P) := nr rfl
theorem subC6 : sub c.l 6 1 false = some (.int .i64 c.R) := nr rfl
theorem gBoxE : gBox 9 [N.env c who] l = some (N.el c who) := nr rfl
theorem subE : sub (N.el c who) 0 9 true = some (N.env c who) := nr rfl
theorem subEC : sub (N.el c who) 0 7 true = some c.v := nr rfl
theorem subE0 : sub (N.el c who) 0 1 false = some (.int .i64 c.T) := nr rfl
theorem subE1 : sub (N.el c who) 1 1 false = some (.int .i64 c.S) := nr rfl
theorem subE2 : sub (N.el c who) 2 1 false = some (.int .i64 c.C) := nr rfl
theorem subE3 : sub (N.el c who) 3 1 false = some (.int .i64 c.W) := nr rfl
theorem subE4 : sub (N.el c who) 4 1 false = some (.int .i64 c.G) := nr rfl
theorem subE6 : sub (N.el c who) 6 1 false = some (.int .i64 c.R) := nr rfl
theorem subE7 : sub (N.el c who) 7 1 false = some N.p := nr rfl
theorem subE8 : sub (N.el c who) 8 1 false = some (.int .i64 who) := nr rfl
end
section
variable {a o v d : Int}
@[simp] theorem by_n : (A.by who).n = A.n := rfl
@[simp] theorem by_w : (A.by who).w = A.w := rfl
@[simp] theorem by_t : (A.by who).t = A.t := rfl
@[simp] theorem by_s : (A.by who).s = A.s := rfl
@[simp] theorem load_n : (A.load a).n = A.n := rfl
@[simp] theorem load_w : (A.load a).w = A.w := rfl
@[simp] theorem load_t : (A.load a).t = A.t := rfl
@[simp] theorem load_s : (A.load a).s = IntKind.i64.wrap (A.s + 1) := rfl
@[simp] theorem load_la : (A.load a).la = a := rfl
@[simp] theorem load_lc : (A.load a).lc = false := rfl
@[simp] theorem store_n : (A.store a v).n = A.n := rfl
@[simp] theorem store_w : (A.store a v).w = upd A.w a v := rfl
@[simp] theorem store_s : (A.store a v).s = IntKind.i64.wrap (A.s + 1) := rfl
@[simp] theorem store_la : (A.store a v).la = a := rfl
@[simp] theorem store_lc : (A.store a v).lc = decide (A.w a ≠ v) := rfl
theorem store_t : (A.store a v).t = if A.w a ≠ v then upd A.t a (IntKind.i64.wrap (A.s + 1)) else A.t := rfl
@[simp] theorem cas_n : (A.cas a o v).n = A.n := by unfold Ar.cas; split <;> rfl
@[simp] theorem cas_s : (A.cas a o v).s = IntKind.i64.wrap (A.s + 1) := by unfold Ar.cas; split <;> rfl
@[simp] theorem cas_la : (A.cas a o v).la = a := by unfold Ar.cas; split <;> rfl
theorem cas_no (h : A.w a ≠ o) : A.cas a o v = A.load a := by unfold Ar.cas; rw [if_neg h]; rfl
theorem cas_yes (h : A.w a = o) : A.cas a o v = A.store a v := by unfold Ar.cas; rw [if_pos h]; rfl
theorem add_eq : A.add a d = A.store a (IntKind.u64.wrap (A.w a + d)) := rfl
end
structure Ar.ok (A : Ar) (b : Int) : Prop where
 w : ∀ i, 0 ≤ A.w i ∧ A.w i < 18446744073709551616
 s : 0 ≤ A.s ∧ A.s ≤ b
 t : ∀ i, 0 ≤ A.t i ∧ A.t i ≤ A.s
theorem Ar.ok.s1 {b : Int} (h : A.ok b) (hb : b < 9223372036854775807) : IntKind.i64.wrap (A.s + 1) = A.s + 1 := IntWalk.i64_in _ (by have := h.s; omega)
theorem upd_cases {f : Int → Int} {a v i : Int} {P : Int → Prop} (h1 : P v) (h2 : P (f i)) : P (upd f a v i) := by unfold upd; split <;> assumption
theorem Ar.ok.store {b a v : Int} (h : A.ok b) (hb : b < 9223372036854775807) (hv : 0 ≤ v ∧ v < 18446744073709551616) : (A.store a v).ok (b + 1) := by
 refine ⟨fun i => upd_cases (P := fun x => 0 ≤ x ∧ x < 18446744073709551616) hv (h.w i), ?_, fun i => ?_⟩
 ·rw [store_s, h.s1 hb]; have := h.s; omega
 ·rw [store_s, h.s1 hb, store_t]
  have := h.t i
  have := h.s
  split
  ·rw [h.s1 hb]; exact upd_cases (P := fun x => 0 ≤ x ∧ x ≤ A.s + 1) (by omega) (by omega)
  ·omega
theorem wrap_in (n : Int) : 0 ≤ IntKind.u64.wrap n ∧ IntKind.u64.wrap n < 18446744073709551616 := by rw [IntKind.wrap_u64]; omega
def Cf.fr (c : Cf) (i : Int) (a : Int) : Int :=
 if c.slot 0 ≤ a ∧ a < c.slot i then (if (a - c.slot 0) % 2 = 0 then putSlot 0 0 1 0 else putTop ((a - c.slot 0) / 2 + 1) 0) else 0
def Cf.w0 (c : Cf) (a : Int) : Int := if a = 1 then putTop 0 0 else if a = c.slot (c.S - 1) + 1 then putTop (-1) 0 else c.fr c.S a
structure FrI (N : Nm) (C : Cf) (σ0 : Mem) (i : Int) (A : Ar) (σ : Mem) : Prop where
 i0 : 0 ≤ i
 i1 : i ≤ C.S
 n : A.n = C.len.toNat
 w : A.w = C.fr i
 s : A.s = 2 * i
 who : A.who = 0
 ok : A.ok (2 * i)
 isA : isA N A σ
 ext : Ext σ0 σ
 fr : N.fr σ0
theorem Ext.put {σ0 : Mem} (h : Ext σ0 σ) (f : N.fr σ0) : Ext σ0 (putA N A σ) := by
 intro i b hi
 rw [putA_ne (fun e => by rw [e, f.m] at hi; cases hi) (fun e => by rw [e, f.w] at hi; cases hi) (fun e => by rw [e, f.t] at hi; cases hi)]
 exact h i b hi
theorem len_eq : C.len = 6 + C.T + 2 * C.S + 3 * C.C + C.W * C.C := rfl
theorem len_bd (h : C.ok) : C.chunk C.C + 17 ≤ C.len ∧ C.len ≤ 200000 := by
 have hW := h.W
 have hC := h.C
 have hS := h.S
 have hT := h.T
 have h1 : 17 * 1 ≤ C.W * C.C := Int.mul_le_mul hW.1 hC.1 (by omega) (by omega)
 have h2 : C.W * C.C ≤ 256 * 64 := Int.mul_le_mul hW.2 hC.2 (by omega) (by omega)
 rw [len_eq]; unfold Cf.chunk
 omega
theorem xBuildSlotG {K : Value → Prop} {g : Int} : xF (fBuild [(0, 1), (1, 1), (2, 1), (3, 1)] [.int .i64 0, .int .i64 0, .int .i64 0, .int .i64 0] [2]) [.int .i64 g] K = K (.agg #[.int .i64 0, .int .i64 0, .int .i64 g, .int .i64 0]) := nr rfl
theorem c_Fresh_round (hC : C.ok) (hN : N.ok) {σ0 : Mem} {J1 R1 : List Value → List (List Value) → Mem → Prop} {i : Int} (h : FrI N C σ0 i A σ)
  (hj : i = C.S → J1 [N.p] [C.l] σ) (hr : i < C.S → ∀ A' τ, FrI N C σ0 (i + 1) A' τ → R1 [N.p, .int .i64 C.S, .int .i64 (i + 1)] [C.l] τ) :
  w_layout_Fresh_l8 K J1 R1 [N.p, .int .i64 C.S, .int .i64 i] [C.l] σ := by
 have hS := hC.S
 have hT := hC.T
 have hl := len_bd hC
 simp only [w_layout_Fresh_l8, w_layout_Fresh_l8b, ruS, Nat.reduceAdd, reduceIte, Int.reduceLT, Int.reduceLE, Int.reduceEq, Int.reduceNeg, Int.reduceAdd, Int.reduceSub, locP_e, gLoad_s, subC]
 by_cases hi : i < C.S
 ·simp only [hi, ruS, Nat.reduceAdd, reduceIte, Int.reduceLT, Int.reduceLE, Int.reduceEq, Int.reduceNeg, Int.reduceAdd, Int.reduceSub]
  have hn : C.slot i + 1 < A.n := by rw [h.n]; unfold Cf.slot; unfold Cf.chunk at hl; have := hC.C; omega
  have hs0 : 0 ≤ C.slot i := by unfold Cf.slot; have := h.i0; omega
  have i0 := h.i0
  rw [c_Slot hC h.i0 (by omega)]
  rw [xBuildSlotG, c_PutSlot, h.isA.eq, c_mStore hN hs0 (by omega), c_Slot hC h.i0 (by omega)]
  simp only [xAdd]
  rw [IntWalk.i64_in (i + 1) (by omega), c_PutTop (by omega), IntWalk.i64_in (C.slot i + 1) (by unfold Cf.slot; omega), c_mStore hN (by omega) (by rw [store_n]; omega)]
  have ok1 := h.ok.store (a := C.slot i) (by omega) (putSlot_in 0 0 1 0)
  have ok2 := ok1.store (a := C.slot i + 1) (by omega) (putTop_in (i + 1) 0)
  have s1 := h.ok.s1 (by omega)
  have s2 := ok1.s1 (by omega)
  refine hr hi ((A.store (C.slot i) (putSlot 0 0 1 0)).store (C.slot i + 1) (putTop (i + 1) 0)) _ ⟨by omega, by omega, h.n, ?_, ?_, h.who, ?_, isA_put hN, h.ext.put h.fr, h.fr⟩
  ·funext a
   rw [store_w, store_w, h.w]
   unfold upd Cf.fr Cf.slot
   have := hC.C
   by_cases e1 : a = 6 + C.T + 2 * i + 1
   ·subst e1
    rw [if_pos rfl, if_pos (by omega), if_neg (by omega)]
    congr 1; omega
   ·rw [if_neg e1]
    by_cases e2 : a = 6 + C.T + 2 * i
    ·subst e2
     rw [if_pos rfl, if_pos (by omega), if_pos (by omega)]
    ·rw [if_neg e2]
     by_cases e3 : 6 + C.T + 2 * 0 ≤ a ∧ a < 6 + C.T + 2 * i
     ·rw [if_pos e3, if_pos (show 6 + C.T + 2 * 0 ≤ a ∧ a < 6 + C.T + 2 * (i + 1) by omega)]
     ·rw [if_neg e3, if_neg (show ¬ (6 + C.T + 2 * 0 ≤ a ∧ a < 6 + C.T + 2 * (i + 1)) by omega)]
  ·rw [store_s, s2, store_s, s1, h.s]; omega
  ·rw [show 2 * (i + 1) = 2 * i + 1 + 1 by omega]; exact ok2
 ·rw [if_neg hi]
  exact hj (by have := h.i1; omega)
structure Frsh (N : Nm) (C : Cf) (A : Ar) : Prop where
 ok : A.ok (2 * C.S + 2)
 n : A.n = C.len.toNat
 w : A.w = C.w0
 s : A.s = 2 * C.S + 2
 who : A.who = 0
 la : A.la = 1
theorem Ar.new_ok {n : Nat} : (Ar.new n).ok (2 * 0) := ⟨fun _ => ⟨Int.le_refl 0, (by decide : (0 : Int) < 18446744073709551616)⟩, ⟨Int.le_refl 0, Int.le_refl 0⟩, fun _ => ⟨Int.le_refl 0, Int.le_refl 0⟩⟩
theorem c_Fresh (hC : C.ok) (hk : ∀ N A τ, N.ok → Frsh N C A → isA N A τ → Ext σ τ → N.fr σ → K (.tuple #[N.p, .int .i64 0]) τ) : s_bk [C.v] K σ := by
 have hl := len_bd hC
 have hS := hC.S
 have hT := hC.T
 have hCC := hC.C
 have hch : C.chunk C.C = 6 + C.T + 2 * C.S + 3 * C.C := rfl
 have hok : C.okB = true := Cf.okB_iff.2 hC
 simp only [s_bk, w_bk, ruS, Nat.reduceAdd, reduceIte, Int.reduceLT, Int.reduceLE, Int.reduceEq, Int.reduceNeg, Int.reduceAdd, Int.reduceSub, locP_e, gBoxC, gLoad_s, subC, subC1, c_Check, hok, c_lLen hC]
 refine c_New (by omega) (by omega) fun N τ hN hA hE hf => ?_
 simp only [ruS, Nat.reduceAdd, reduceIte, Int.reduceLT, Int.reduceLE, Int.reduceEq, Int.reduceNeg, Int.reduceAdd, Int.reduceSub]
 refine xLoop_inv (fun k ts ls τ => ∃ i A, k = (C.S - i).toNat ∧ ts = [N.p, .int .i64 C.S, .int .i64 i] ∧ ls = [C.l] ∧ FrI N C σ i A τ) ?_ (n := (C.S - 0).toNat)
  ⟨0, _, rfl, rfl, rfl, ⟨by omega, by omega, rfl, ?_, rfl, rfl, Ar.new_ok, hA, hE, hf⟩⟩
 ·rintro k ts ls τ ⟨i, A, rfl, rfl, rfl, h⟩
  refine c_Fresh_round hC hN h (fun e => ?_) fun hi A' τ' h' => ⟨_, by have := h.i0; omega, i + 1, A', rfl, rfl, rfl, h'⟩
  subst e
  simp only [w_bk_j1, w_bk_j1b, ruS, Nat.reduceAdd, reduceIte, Int.reduceLT, Int.reduceLE, Int.reduceEq, Int.reduceNeg, Int.reduceAdd, Int.reduceSub, locP_e, gLoad_s, subC, subC1]
  have n2 : C.slot (C.S - 1) + 1 < A.n := by rw [h.n]; unfold Cf.slot; omega
  have hs0 : 0 ≤ C.slot (C.S - 1) := by unfold Cf.slot; omega
  rw [IntWalk.i64_in (C.S - 1) (by omega), c_Slot hC (by omega) (by omega)]
  simp only [xAdd]
  rw [IntWalk.i64_in (C.slot (C.S - 1) + 1) (by unfold Cf.slot; omega), c_PutTop (by omega), h.isA.eq, c_mStore hN (by omega) n2, c_lTop, c_PutTop (by omega), c_mStore hN (by omega) (by rw [store_n]; omega)]
  have ok1 := h.ok.store (a := C.slot (C.S - 1) + 1) (by omega) (putTop_in (-1) 0)
  have ok2 := ok1.store (a := 1) (by omega) (putTop_in 0 0)
  have s1 := h.ok.s1 (by omega)
  have s2 := ok1.s1 (by omega)
  refine hk N ((A.store (C.slot (C.S - 1) + 1) (putTop (-1) 0)).store 1 (putTop 0 0)) _ hN ⟨by rw [show 2 * C.S + 2 = 2 * C.S + 1 + 1 by omega]; exact ok2, h.n, ?_, ?_, h.who, rfl⟩ (isA_put hN) (h.ext.put h.fr) h.fr
  ·rw [store_w, store_w, h.w]; rfl
  ·rw [store_s, s2, store_s, s1, h.s]; omega
 ·funext a
  unfold Cf.fr
  rw [if_neg (by omega)]; rfl
theorem c_Arena (hC : C.ok) (hG : C.G = 100) (hP : C.P = 600) (hR : C.R = 3) (hk : ∀ N A τ, N.ok → Frsh N C A → isA N A τ → Ext σ τ → N.fr σ → K (.tuple #[N.env C 0, .bool true]) τ) :
  s_av [.int .i64 C.T, .int .i64 C.S, .int .i64 C.C, .int .i64 C.W] K σ := by
 simp only [s_av, w_av, ruS, Nat.reduceAdd, reduceIte, Int.reduceLT, Int.reduceLE, Int.reduceEq, Int.reduceNeg, Int.reduceAdd, Int.reduceSub]
 have b1 : ∀ K : Value → Prop, xF (fBuild [(0, 1), (1, 1), (2, 1), (3, 1), (4, 1), (5, 1), (6, 1)] [.int .i64 0, .int .i64 0, .int .i64 0, .int .i64 0, .int .i64 0, .int .i64 0, .int .i64 0] [0, 1, 2, 3, 4, 5, 6])
   [.int .i64 C.T, .int .i64 C.S, .int .i64 C.C, .int .i64 C.W, .int .i64 100, .int .i64 600, .int .i64 3] K = K C.v := by
  intro K; unfold Cf.v; rw [hG, hP, hR]; exact nr rfl
 have b2 : ∀ K : List Value → Prop, xC (gStore 7 [locP 10, C.v] [.int .i64 0, .int .i64 0, .int .i64 0, .int .i64 0, .int .i64 0, .int .i64 0, .int .i64 0]) K = K C.l := fun K => nr rfl
 rw [b1, b2]
 simp only [locP_e, gLoad_s, subC, xOs]
 refine c_Fresh hC fun N A τ hN hF hA hE hf => ?_
 simp only [ruS, Nat.reduceAdd, reduceIte, Int.reduceLT, Int.reduceLE, Int.reduceEq, Int.reduceNeg, Int.reduceAdd, Int.reduceSub, locP_e, gLoad_s, subC]
 exact hk N A τ hN hF hA hE hf
theorem ruE : type_of% ((And.intro (And.intro (And.intro (And.intro @Nat.lt_irrefl @Nat.zero_lt_one) (And.intro @gBoxE (And.intro @gBoxC @subE))) (And.intro (And.intro @subEC (And.intro @subE0 @subE1)) (And.intro @subE2 (And.intro @subE3 @subE4)))) (And.intro (And.intro (And.intro @subE6 @subE7) (And.intro @subE8 (And.intro @subC @subC0))) (And.intro (And.intro @subC1 (And.intro @subC2 @subC3)) (And.intro @subC4 (And.intro @subC5 @subC6)))))) := (And.intro (And.intro (And.intro (And.intro @Nat.lt_irrefl @Nat.zero_lt_one) (And.intro @gBoxE (And.intro @gBoxC @subE))) (And.intro (And.intro @subEC (And.intro @subE0 @subE1)) (And.intro @subE2 (And.intro @subE3 @subE4)))) (And.intro (And.intro (And.intro @subE6 @subE7) (And.intro @subE8 (And.intro @subC @subC0))) (And.intro (And.intro @subC1 (And.intro @subC2 @subC3)) (And.intro @subC4 (And.intro @subC5 @subC6)))))
end Go.Fl
namespace Go.Fl
open Go
set_option linter.unusedVariables false
set_option linter.unusedSimpArgs false
variable {N : Nm} {A B : Ar} {σ : Mem} {K : Value → Mem → Prop} {C : Cf} {who : Int}
theorem notin {p : Nat} (h : p ∉ N.l) : p ≠ N.m ∧ p ≠ N.w ∧ p ≠ N.t := by simpa [Nm.l] using h
theorem putA_get {p : Nat} (h : p ∉ N.l) : (putA N A σ).get p = σ.get p := putA_ne (notin h).1 (notin h).2.1 (notin h).2.2
theorem putA_setP {p : Nat} {c : Blk} (h : p ∉ N.l) : (putA N A σ).set p c = putA N A (σ.set p c) := putA_set (notin h).1 (notin h).2.1 (notin h).2.2
theorem isA.obj {p : Nat} {c : Blk} (h : isA N A σ) (hp : σ.get p = some c) : σ = putA N A (σ.set p c) := by rw [Mem.set_self hp]; exact h.eq
section
variable {p o k sz : Nat} {pre L post : List Value} {ag : Bool}
theorem sub_app (hz : 0 < sz) (hk : k + sz ≤ L.length) : sub (pre ++ L ++ post) (pre.length + k) sz ag = sub L k sz ag := by
 have h1 : pre.length + k + sz ≤ (pre ++ L ++ post).length := by simp; omega
 simp only [sub, if_pos h1, if_pos hk]
 cases ag
 ·simp only [Bool.false_eq_true, if_false]
  rw [List.append_assoc, List.getElem?_append_right (by omega), Nat.add_sub_cancel_left, List.getElem?_append_left (by omega)]
 ·simp only [if_true]
  rw [List.append_assoc, List.drop_append, List.drop_of_length_le (by omega), List.nil_append, Nat.add_sub_cancel_left, List.drop_append_of_le_length (by omega), List.take_append_of_le_length (by simp; omega)]
theorem lay_app {vs : List Value} (hk : k + vs.length ≤ L.length) : lay (pre ++ L ++ post) (pre.length + k) vs = pre ++ lay L k vs ++ post := by
 have e : pre.length + k + vs.length = pre.length + (k + vs.length) := by omega
 simp only [lay, e]
 rw [List.append_assoc pre, List.take_append, List.take_of_length_le (by omega), Nat.add_sub_cancel_left, List.take_append_of_le_length (by omega),
  List.drop_append, List.drop_of_length_le (by omega), List.nil_append, Nat.add_sub_cancel_left, List.drop_append_of_le_length (by omega)]
 simp only [List.append_assoc]
theorem ldO (hd : p ∉ N.l) (hz : 0 < sz) (hk : k + sz ≤ L.length) : hLoad sz ag [.pointer (some ⟨p, pre.length + k, none⟩)] K (putA N A (σ.set p ⟨pre ++ L ++ post, true⟩)) =
  xO (sub L k sz ag) (fun v => K v (putA N A (σ.set p ⟨pre ++ L ++ post, true⟩))) := by
 rw [hLoad_eq ((putA_get hd).trans (Mem.get_set_same _ _ _)), sub_app hz hk]
theorem stO (hd : p ∉ N.l) {x : Value} {c : List Value} (hc : cellsOf x sz = some c) (hl : c.length = sz) (hk : k + sz ≤ L.length) (ho : c.all oneB = true) :
  hStore sz [.pointer (some ⟨p, pre.length + k, none⟩), x] K (putA N A (σ.set p ⟨pre ++ L ++ post, true⟩)) = K undef (putA N A (σ.set p ⟨pre ++ lay L k c ++ post, true⟩)) := by
 rw [hStore_eq ((putA_get hd).trans (Mem.get_set_same _ _ _)) hc (by simp; omega) ho, putA_setP hd, Mem.set_set, lay_app (by omega)]
theorem stOi (hd : p ∉ N.l) {kd : IntKind} {n : Int} (hk : k + 1 ≤ L.length) :
  hStore 1 [.pointer (some ⟨p, pre.length + k, none⟩), .int kd n] K (putA N A (σ.set p ⟨pre ++ L ++ post, true⟩)) = K undef (putA N A (σ.set p ⟨pre ++ lay L k [.int kd n] ++ post, true⟩)) := stO hd rfl rfl hk rfl
theorem stOb (hd : p ∉ N.l) {b : Bool} (hk : k + 1 ≤ L.length) :
  hStore 1 [.pointer (some ⟨p, pre.length + k, none⟩), .bool b] K (putA N A (σ.set p ⟨pre ++ L ++ post, true⟩)) = K undef (putA N A (σ.set p ⟨pre ++ lay L k [.bool b] ++ post, true⟩)) := stO hd rfl rfl hk rfl
theorem stOp (hd : p ∉ N.l) {b : Option Addr} (hk : k + 1 ≤ L.length) :
  hStore 1 [.pointer (some ⟨p, pre.length + k, none⟩), .pointer b] K (putA N A (σ.set p ⟨pre ++ L ++ post, true⟩)) = K undef (putA N A (σ.set p ⟨pre ++ lay L k [.pointer b] ++ post, true⟩)) := stO hd rfl rfl hk rfl
theorem stOa (hd : p ∉ N.l) {c : List Value} (hl : c.length = sz) (hk : k + sz ≤ L.length) (ho : c.all oneB = true) :
  hStore sz [.pointer (some ⟨p, pre.length + k, none⟩), .agg c.toArray] K (putA N A (σ.set p ⟨pre ++ L ++ post, true⟩)) = K undef (putA N A (σ.set p ⟨pre ++ lay L k c ++ post, true⟩)) :=
 stO hd (by subst hl; simp [cellsOf]) hl hk ho
theorem behind (hN : N.ok) (hd : p ∉ N.l) {c : Blk} {v : Value} (hk : ∀ τ, isA N A τ → τ.get p = some c → Keep (p :: N.l) σ τ → K v τ) : K v (putA N A (σ.set p c)) := by
 refine hk _ (isA_put hN) ((putA_get hd).trans (Mem.get_set_same _ _ _)) fun i b hi hn => ?_
 simp only [List.mem_cons, not_or] at hn
 rw [putA_get hn.2, Mem.get_set_ne _ _ hn.1]
 exact hi
end
structure Tk where
 pc : Int
 top : Int
 next : Int
 slot : Int
 ok : Bool
def Tk.l (t : Tk) : List Value := [.int .i64 t.pc, .int .u64 t.top, .int .i64 t.next, .int .i64 t.slot, .bool t.ok]
def Tk.new : Tk := ⟨0, 0, 0, 0, false⟩
def Tk.step (C : Cf) (who : Int) (A : Ar) (t : Tk) : Bool × Tk × Ar :=
 if t.pc = 0 then (decide (topS (A.w 1) < 0), ⟨1, A.w 1, t.next, topS (A.w 1), t.ok⟩, (A.by who).load 1)
 else if t.pc = 1 then (t.ok, ⟨2, t.top, topS (A.w (C.slot t.slot + 1)), t.slot, t.ok⟩, (A.by who).load (C.slot t.slot + 1))
 else (decide (A.w 1 = t.top), ⟨0, t.top, t.next, t.slot, decide (A.w 1 = t.top)⟩, (A.by who).cas 1 t.top (putTop t.next (topN t.top + 1)))
theorem c_Take_Step (hN : N.ok) (hC : C.ok) (hA : isA N A σ) {p : Nat} {pre post : List Value} {t : Tk} (hp : σ.get p = some ⟨pre ++ t.l ++ post, true⟩) (hd : p ∉ N.l)
  (hw : ∀ i, 0 ≤ A.w i ∧ A.w i < 18446744073709551616) (hn : C.len ≤ A.n) (h0 : 0 ≤ t.top ∧ t.top < 18446744073709551616) (h1 : t.pc = 1 → 0 ≤ t.slot ∧ t.slot < C.S) (h2 : 0 ≤ t.next + 1)
  (hk : ∀ τ, isA N (t.step C who A).2.2 τ → τ.get p = some ⟨pre ++ (t.step C who A).2.1.l ++ post, true⟩ → Keep (p :: N.l) σ τ → K (.bool (t.step C who A).1) τ) :
  s_co [.pointer (some ⟨p, pre.length, none⟩), N.env C who] K σ := by
 rw [hA.obj hp]
 have hl := len_bd hC
 have hT := hC.T
 have hS := hC.S
 have hCC := hC.C
 have hch : C.chunk C.C = 6 + C.T + 2 * C.S + 3 * C.C := rfl
 simp only [s_co, w_co, w_co_j1, w_co_j1b, Tk.l, ldO hd, c_lTop, ruS, ruL, ruE, Nat.reduceAdd, reduceIte, Int.reduceLT, Int.reduceLE, Int.reduceEq, Int.reduceNeg, Int.reduceAdd, Int.reduceSub, Nat.reduceLeDiff, Nat.reduceLT]
 by_cases c0 : t.pc = 0
 ·rw [if_pos c0, c_Load hN (by omega) (by omega)]
  simp only [stOi hd, ldO hd, ruS, ruL, ruE, Nat.reduceAdd, reduceIte, Int.reduceLT, Int.reduceLE, Int.reduceEq, Int.reduceNeg, Int.reduceAdd, Int.reduceSub, Nat.reduceLeDiff, Nat.reduceLT]
  rw [c_Top (hw 1).1 (hw 1).2]
  simp only [stOi hd, ldO hd, ruS, ruL, ruE, Nat.reduceAdd, reduceIte, Int.reduceLT, Int.reduceLE, Int.reduceEq, Int.reduceNeg, Int.reduceAdd, Int.reduceSub, Nat.reduceLeDiff, Nat.reduceLT]
  simp only [Tk.step, if_pos c0] at hk
  exact behind hN hd hk
 ·by_cases c1 : t.pc = 1
  ·have := h1 c1
   have ha : 0 ≤ C.slot t.slot + 1 ∧ C.slot t.slot + 1 < A.n := by unfold Cf.slot; unfold Cf.chunk at hl; have := hC.C; omega
   rw [if_neg c0, if_pos c1, c_Slot hC (by omega) (by omega)]
   simp only [xAdd]
   rw [IntWalk.i64_in (C.slot t.slot + 1) (by unfold Cf.slot; omega), c_Load hN ha.1 ha.2, c_Top (hw _).1 (hw _).2]
   simp only [stOi hd, ldO hd, ruS, ruL, ruE, Nat.reduceAdd, reduceIte, Int.reduceLT, Int.reduceLE, Int.reduceEq, Int.reduceNeg, Int.reduceAdd, Int.reduceSub, Nat.reduceLeDiff, Nat.reduceLT]
   simp only [Tk.step, if_neg c0, if_pos c1] at hk
   exact behind hN hd hk
  ·rw [if_neg c0, if_neg c1, c_Top h0.1 h0.2]
   simp only [stOi hd, ldO hd, c_lTop, ruS, ruL, ruE, Nat.reduceAdd, reduceIte, Int.reduceLT, Int.reduceLE, Int.reduceEq, Int.reduceNeg, Int.reduceAdd, Int.reduceSub, Nat.reduceLeDiff, Nat.reduceLT]
   have hN2 : 0 ≤ topN t.top ∧ topN t.top < 68719476736 := by unfold topN; omega
   rw [IntWalk.i64_in (topN t.top + 1) (by omega), c_PutTop (by omega), c_Cas hN (by omega) (by omega)]
   simp only [stOb hd, ldO hd, ruS, ruL, ruE, Nat.reduceAdd, reduceIte, Int.reduceLT, Int.reduceLE, Int.reduceEq, Int.reduceNeg, Int.reduceAdd, Int.reduceSub, Nat.reduceLeDiff, Nat.reduceLT]
   simp only [Tk.step, if_neg c0, if_neg c1] at hk
   exact behind hN hd hk
theorem c_Take_Slot (hA : isA N A σ) {p : Nat} {pre post : List Value} {t : Tk} (hp : σ.get p = some ⟨pre ++ t.l ++ post, true⟩) (hd : p ∉ N.l)
  (hk : K (.tuple #[.int .i64 (if t.ok = true then t.slot else 0), .bool t.ok]) σ) : s_cn [.pointer (some ⟨p, pre.length, none⟩)] K σ := by
 have e := hA.obj hp
 generalize hq : σ = υ at *
 rw [e] at hk ⊢
 simp only [s_cn, w_cn, w_cn_j1, w_cn_j1b, Tk.l, ldO hd, ruS, ruL, ruE, Nat.reduceAdd, reduceIte, Int.reduceLT, Int.reduceLE, Int.reduceEq, Int.reduceNeg, Int.reduceAdd, Int.reduceSub, Nat.reduceLeDiff, Nat.reduceLT] at hk ⊢
 cases h : t.ok <;> simp only [h, xIfB, ldO hd, ruS, ruL, ruE, Nat.reduceAdd, reduceIte, Int.reduceLT, Int.reduceLE, Int.reduceEq, Int.reduceNeg, Int.reduceAdd, Int.reduceSub, Nat.reduceLeDiff, Nat.reduceLT] at hk ⊢ <;> exact hk
structure Gv where
 pc : Int
 slot : Int
 top : Int
def Gv.l (g : Gv) : List Value := [.int .i64 g.pc, .int .i64 g.slot, .int .u64 g.top]
def Gv.step (C : Cf) (who : Int) (A : Ar) (g : Gv) : Bool × Gv × Ar :=
 if g.pc = 0 then (false, ⟨1, g.slot, A.w 1⟩, (A.by who).load 1)
 else if g.pc = 1 then (false, ⟨2, g.slot, g.top⟩, (A.by who).store (C.slot g.slot + 1) (putTop (topS g.top) 0))
 else (decide (A.w 1 = g.top), ⟨0, g.slot, g.top⟩, (A.by who).cas 1 g.top (putTop g.slot (topN g.top + 1)))
theorem c_Give_Step (hN : N.ok) (hC : C.ok) (hA : isA N A σ) {p : Nat} {pre post : List Value} {t : Gv} (hp : σ.get p = some ⟨pre ++ t.l ++ post, true⟩) (hd : p ∉ N.l)
  (hw : ∀ i, 0 ≤ A.w i ∧ A.w i < 18446744073709551616) (hn : C.len ≤ A.n) (h0 : 0 ≤ t.top ∧ t.top < 18446744073709551616) (h1 : 0 ≤ t.slot ∧ t.slot < C.S)
  (hk : ∀ τ, isA N (t.step C who A).2.2 τ → τ.get p = some ⟨pre ++ (t.step C who A).2.1.l ++ post, true⟩ → Keep (p :: N.l) σ τ → K (.bool (t.step C who A).1) τ) :
  s_cl [.pointer (some ⟨p, pre.length, none⟩), N.env C who] K σ := by
 rw [hA.obj hp]
 have hl := len_bd hC
 have hT := hC.T
 have hS := hC.S
 have hCC := hC.C
 have hch : C.chunk C.C = 6 + C.T + 2 * C.S + 3 * C.C := rfl
 simp only [s_cl, w_cl, w_cl_j1, w_cl_j1b, Gv.l, ldO hd, c_lTop, ruS, ruL, ruE, Nat.reduceAdd, reduceIte, Int.reduceLT, Int.reduceLE, Int.reduceEq, Int.reduceNeg, Int.reduceAdd, Int.reduceSub, Nat.reduceLeDiff, Nat.reduceLT]
 rw [c_Top h0.1 h0.2]
 simp only [ldO hd, c_lTop, ruS, ruL, ruE, Nat.reduceAdd, reduceIte, Int.reduceLT, Int.reduceLE, Int.reduceEq, Int.reduceNeg, Int.reduceAdd, Int.reduceSub, Nat.reduceLeDiff, Nat.reduceLT]
 by_cases c0 : t.pc = 0
 ·rw [if_pos c0, c_Load hN (by omega) (by omega)]
  simp only [stOi hd, ldO hd, ruS, ruL, ruE, Nat.reduceAdd, reduceIte, Int.reduceLT, Int.reduceLE, Int.reduceEq, Int.reduceNeg, Int.reduceAdd, Int.reduceSub, Nat.reduceLeDiff, Nat.reduceLT]
  simp only [Gv.step, if_pos c0] at hk
  exact behind hN hd hk
 ·by_cases c1 : t.pc = 1
  ·have ha : 0 ≤ C.slot t.slot + 1 ∧ C.slot t.slot + 1 < A.n := by unfold Cf.slot; omega
   have hN1 : -1 ≤ topS t.top := by unfold topS; omega
   rw [if_neg c0, if_pos c1, c_Slot hC (by omega) (by omega)]
   simp only [xAdd]
   rw [IntWalk.i64_in (C.slot t.slot + 1) (by unfold Cf.slot; omega), c_PutTop (by omega), c_Store hN ha.1 ha.2]
   simp only [stOi hd, ldO hd, ruS, ruL, ruE, Nat.reduceAdd, reduceIte, Int.reduceLT, Int.reduceLE, Int.reduceEq, Int.reduceNeg, Int.reduceAdd, Int.reduceSub, Nat.reduceLeDiff, Nat.reduceLT]
   simp only [Gv.step, if_neg c0, if_pos c1] at hk
   exact behind hN hd hk
  ·rw [if_neg c0, if_neg c1]
   simp only [stOi hd, ldO hd, c_lTop, ruS, ruL, ruE, Nat.reduceAdd, reduceIte, Int.reduceLT, Int.reduceLE, Int.reduceEq, Int.reduceNeg, Int.reduceAdd, Int.reduceSub, Nat.reduceLeDiff, Nat.reduceLT]
   have hN2 : 0 ≤ topN t.top ∧ topN t.top < 68719476736 := by unfold topN; omega
   rw [IntWalk.i64_in (topN t.top + 1) (by omega), c_PutTop (by omega), c_Cas hN (by omega) (by omega)]
   simp only [Gv.step, if_neg c0, if_neg c1] at hk
   exact behind hN hd hk
theorem hBox_i {cs : List Value} {sz : Nat} {K : Value → Mem → Prop} {σ : Mem} (h : cs.length = sz) (hk : ∀ id τ, σ.get id = none → τ.get id = some ⟨cs, true⟩ → Ext σ τ → K (.pointer (some ⟨id, 0, none⟩)) τ) :
  hBox sz [.agg cs.toArray] K σ := by
 rw [hBox_a h]
 exact fun id hid => hk id _ hid (Mem.get_set_same _ _ _) (Ext.fresh hid)
theorem isA.new (h : isA N A σ) {id : Nat} (hid : σ.get id = none) : id ∉ N.l := by
 have := h.fresh hid
 simpa [Nm.l] using this
theorem c_NewGive {s : Int} (hk : ∀ id τ, σ.get id = none → τ.get id = some ⟨(Gv.mk 0 s 0).l, true⟩ → Ext σ τ → K (.pointer (some ⟨id, 0, none⟩)) τ) : s_cm [.int .i64 s] K σ := by
 have b : ∀ K : Value → Prop, xF (fBuild [(0, 1), (1, 1), (2, 1)] [.int .i64 0, .int .i64 0, .int .u64 0] [1]) [.int .i64 s] K = K (.agg #[.int .i64 0, .int .i64 s, .int .u64 0]) := fun K => nr rfl
 simp only [s_cm, w_cm, b, ruS, Nat.reduceAdd, reduceIte, Int.reduceLT, Int.reduceLE, Int.reduceEq, Int.reduceNeg, Int.reduceAdd, Int.reduceSub]
 exact hBox_i (cs := [_, _, _]) rfl hk
theorem xLoop_i {F : (List Value → List (List Value) → Mem → Prop) → List Value → List (List Value) → Mem → Prop} (enc : Int → List Value) (ls : List (List Value)) (m : Int) (I : Int → Mem → Prop)
  (hr : ∀ i σ, I i σ → ∀ R : List Value → List (List Value) → Mem → Prop, (∀ τ, i < m → I (i + 1) τ → R (enc (i + 1)) ls τ) → F R (enc i) ls σ) {i : Int} {σ : Mem} (h0 : I i σ) : xLoop F (enc i) ls σ := by
 refine xLoop_inv (fun k ts l τ => ∃ i, k = (m - i).toNat ∧ ts = enc i ∧ l = ls ∧ I i τ) ?_ (n := (m - i).toNat) ⟨i, rfl, rfl, rfl, h0⟩
 rintro k ts l τ ⟨i, rfl, rfl, rfl, h⟩
 exact hr i τ h _ fun υ hi h' => ⟨_, by omega, i + 1, rfl, rfl, rfl, h'⟩
theorem xLoop_r {F : (List Value → List (List Value) → Mem → Prop) → List Value → List (List Value) → Mem → Prop} (I : Nat → List Value → List (List Value) → Mem → Prop)
  (hr : ∀ n ts ls σ, I n ts ls σ → ∀ R : List Value → List (List Value) → Mem → Prop, (∀ m ts' ls' σ', m < n → I m ts' ls' σ' → R ts' ls' σ') → F R ts ls σ)
  {n : Nat} {ts : List Value} {ls : List (List Value)} {σ : Mem} (h0 : I n ts ls σ) : xLoop F ts ls σ :=
 xLoop_inv I (fun n ts ls σ h => hr n ts ls σ h _ fun m ts' ls' σ' hm h' => ⟨m, hm, h'⟩) h0
theorem ldCells {k : IntKind} {n q : Nat} {g : Int → Int} {i : Int} {b : Bool} (h : σ.get q = some ⟨cells k n g, b⟩) (h0 : 0 ≤ i) (h1 : i < n) :
  hLoad 1 false [.pointer (some ⟨q, i.toNat * 1, none⟩)] K σ = K (.int k (g i)) σ := by
 have := cells_sub k g h0 h1
 rw [Nat.zero_add] at this
 rw [hLoad_eq h, this, xOs]
theorem xAndI {K : Value → Prop} {Q : EqK} {k : Nat} {a : Int} (hk : k ≤ 62) : xF (fBin .and Q) [.int .i64 a, .int .i64 (2 ^ k - 1)] K = K (.int .i64 (a % 2 ^ k)) := by
 have e : ((2 : Int) ^ k - 1) = ((2 ^ k - 1 : Nat) : Int) := by
  push_cast [Nat.one_le_two_pow]
  rfl
 have hp : 0 < 2 ^ k := Nat.two_pow_pos k
 have e2 : ((2 ^ k : Nat) : Int) = 2 ^ k := by push_cast; rfl
 have hb : 2 ^ k ≤ 2 ^ 62 := Nat.pow_le_pow_right (by decide) hk
 have hd : (2 ^ k : Nat) ∣ 2 ^ 64 := Nat.pow_dvd_pow 2 (by omega)
 have q : ((BitVec.ofInt 64 a &&& BitVec.ofInt 64 ((2 ^ k - 1 : Nat) : Int)).toNat : Int) = a % 2 ^ k := by
  rw [BitVec.toNat_and, BitVec.toNat_ofInt, BitVec.toNat_ofInt]
  have h4 : (((2 ^ k - 1 : Nat) : Int) % ((2 ^ 64 : Nat) : Int)).toNat = 2 ^ k - 1 := by omega
  rw [h4, Nat.and_two_pow_sub_one_eq_mod, Int.natCast_emod, Int.toNat_of_nonneg (by omega), Int.emod_emod_of_dvd a (Int.natCast_dvd_natCast.2 hd), e2]
 simp only [xF, fBin, isSh, binI, Bool.false_eq_true, if_false, if_true]
 show K (.int .i64 (IntKind.i64.wrap ((BitVec.ofInt 64 a &&& BitVec.ofInt 64 (2 ^ k - 1)).toNat : Int))) = _
 rw [e, q]
 have h1 : 0 ≤ a % 2 ^ k := by rw [← e2]; exact Int.emod_nonneg _ (by omega)
 have h2 : a % 2 ^ k < 2 ^ k := by rw [← e2]; exact Int.emod_lt_of_pos _ (by omega)
 have h3 : (2 : Int) ^ k ≤ 4611686018427387904 := by rw [← e2]; omega
 rw [IntWalk.i64_in _ (by omega)]
theorem andI15 {K : Value → Prop} {Q : EqK} {a : Int} : xF (fBin .and Q) [.int .i64 a, .int .i64 15] K = K (.int .i64 (a % 16)) := by simpa using xAndI (K := K) (Q := Q) (k := 4) (a := a) (by decide)
theorem andI127 {K : Value → Prop} {Q : EqK} {a : Int} : xF (fBin .and Q) [.int .i64 a, .int .i64 127] K = K (.int .i64 (a % 128)) := by simpa using xAndI (K := K) (Q := Q) (k := 7) (a := a) (by decide)
theorem andI65535 {K : Value → Prop} {Q : EqK} {a : Int} : xF (fBin .and Q) [.int .i64 a, .int .i64 65535] K = K (.int .i64 (a % 65536)) := by simpa using xAndI (K := K) (Q := Q) (k := 16) (a := a) (by decide)
theorem gStoreE {k : Nat} : gStore 9 [.pointer (some ⟨k, 0, some 0⟩), N.env C who] [.int .i64 0, .int .i64 0, .int .i64 0, .int .i64 0, .int .i64 0, .int .i64 0, .int .i64 0, .pointer none, .int .i64 0] = some (N.el C who) := nr rfl
theorem c_PeekA (hN : N.ok) (hA : isA N A σ) {a : Int} (h0 : 0 ≤ a) (h1 : a < A.n) : s_bw [N.p, .int .i64 a] K σ = K (.int .u64 (A.w a)) σ := by
 have := c_mPeek (N := N) (A := A) (σ := σ) (K := K) hN h0 h1
 rwa [← hA.eq] at this
def cA (T S Ch W : Int) : Cf := ⟨T, S, Ch, W, 100, 600, 3⟩
theorem cA_ok {T S Ch W : Int} (h1 : 1 ≤ T ∧ T ≤ 8) (h2 : 1 ≤ S ∧ S ≤ 65536) (h3 : 1 ≤ Ch ∧ Ch ≤ 64) (h4 : 17 ≤ W ∧ W ≤ 256) : (cA T S Ch W).ok :=
 ⟨h1, h2, h3, h4, ⟨by show (1 : Int) ≤ 100; decide, by show (100 : Int) ≤ 65535; decide⟩, ⟨by show (0 : Int) ≤ 600; decide, by show (600 : Int) ≤ 1000; decide⟩, ⟨by show (1 : Int) ≤ 3; decide, by show (3 : Int) ≤ 16; decide⟩⟩
theorem Keep.get {L : List Nat} {τ : Mem} {i : Nat} {b : Blk} (k : Keep L σ τ) (h : σ.get i = some b) (hn : i ∉ L) : τ.get i = some b := k i b h hn
structure Aft (A A' : Ar) (k : Int) (w : Int → Int) : Prop where
 n : A'.n = A.n
 w : A'.w = w
 s : A'.s = A.s + k
 t : ∀ i, A'.t i = A.t i ∨ A.s < A'.t i ∧ A'.t i ≤ A'.s
theorem Aft.ok {A' : Ar} {k b : Int} {w : Int → Int} (h : Aft A A' k w) (hk : 0 ≤ k) (ho : A.ok b) (hw : ∀ i, 0 ≤ w i ∧ w i < 18446744073709551616) : A'.ok (b + k) := by
 refine ⟨fun i => by rw [h.w]; exact hw i, ?_, fun i => ?_⟩
 ·have := ho.s; have := h.s; omega
 ·have := ho.s; have := h.s; have := ho.t i
  rcases h.t i with e | e <;> omega
theorem aft_load {b a : Int} (h : A.ok b) (hb : b < 9223372036854775807) : Aft A ((A.by who).load a) 1 A.w :=
 ⟨rfl, rfl, by rw [load_s, by_s, h.s1 hb], fun i => .inl rfl⟩
theorem aft_store {b a v : Int} (h : A.ok b) (hb : b < 9223372036854775807) : Aft A ((A.by who).store a v) 1 (upd A.w a v) := by
 refine ⟨rfl, rfl, by rw [store_s, by_s, h.s1 hb], fun i => ?_⟩
 rw [store_t, by_s, h.s1 hb, store_s, by_s, h.s1 hb]
 split
 ·unfold upd; split
  ·right; omega
  ·left; rfl
 ·left; rfl
theorem aft_cas {b a o v : Int} (h : A.ok b) (hb : b < 9223372036854775807) : Aft A ((A.by who).cas a o v) 1 (if A.w a = o then upd A.w a v else A.w) := by
 by_cases hc : A.w a = o
 ·rw [if_pos hc, cas_yes (by exact hc)]; exact aft_store h hb
 ·rw [if_neg hc, cas_no (by exact hc)]; exact aft_load h hb
end Go.Fl
namespace Go.Fl
open Go
set_option linter.unusedVariables false
set_option linter.unusedSimpArgs false
variable {N : Nm} {A B : Ar} {σ : Mem} {K : Value → Mem → Prop} {C : Cf} {who : Int}
def ArgI (k : IntKind) (σ : Mem) (s : Value) (n : Nat) (g : Int → Int) : Prop := ∃ a c, s = .slice a n c ∧ (0 < n → ∃ b rw, a = some ⟨b, 0, none⟩ ∧ σ.get b = some ⟨cells k n g, rw⟩)
theorem ArgI.keep {kd : IntKind} {s : Value} {n : Nat} {g : Int → Int} {τ : Mem} (h : ArgI kd σ s n g) (k : Ext σ τ) : ArgI kd τ s n g := by
 obtain ⟨a, c, rfl, h⟩ := h
 refine ⟨a, c, rfl, fun hn => ?_⟩
 obtain ⟨b, rw, e, h⟩ := h hn
 exact ⟨b, rw, e, k _ _ h⟩
theorem ArgI.len {k : IntKind} {s : Value} {n : Nat} {g : Int → Int} (h : ArgI k σ s n g) {K : Value → Prop} : xF fLen [s] K = K (.int .i64 n) := by
 obtain ⟨a, c, rfl, _⟩ := h; exact xLen
theorem ArgI.ix {k' : IntKind} {s : Value} {n : Nat} {g : Int → Int} (h : ArgI k' σ s n g) {i : Int} (h0 : 0 ≤ i) (h1 : i < n) {kd : IntKind} :
  (xF (fIxS 1) [s, .int kd i] fun v => hLoad 1 false [v] K σ) = K (.int k' (g i)) σ := by
 obtain ⟨a, c, rfl, h⟩ := h
 obtain ⟨b, rw, rfl, h'⟩ := h (by omega)
 rw [xIxS h0 h1]
 simp only [Nat.zero_add]
 exact ldCells h' h0 h1
theorem Ext.keep' {σ0 τ : Mem} {L : List Nat} (h : Ext σ0 σ) (k : Keep L σ τ) (hL : ∀ i ∈ L, σ0.get i = none) : Ext σ0 τ := by
 intro i b hi
 refine k i b (h i b hi) fun hm => ?_
 rw [hL i hm] at hi; cases hi
theorem Ext.none {τ : Mem} (h : Ext σ τ) {i : Nat} (hi : τ.get i = none) : σ.get i = none := by
 cases e : σ.get i with
 | none => rfl
 | some b => rw [h i b e] at hi; cases hi
theorem Nm.fr.all (h : N.fr σ) : ∀ i ∈ N.l, σ.get i = none := by
 intro i hi
 simp only [Nm.l, List.mem_cons, List.not_mem_nil, or_false] at hi
 rcases hi with rfl | rfl | rfl
 ·exact h.m
 ·exact h.w
 ·exact h.t
theorem viaA {S : (Value → Mem → Prop) → Mem → Prop} {A' : Ar} {v : Value} (hS : ∀ K σ, S K (putA N A σ) = K v (putA N A' σ)) (hN : N.ok) (hA : isA N A σ) (hk : ∀ τ, isA N A' τ → Keep N.l σ τ → K v τ) : S K σ := by
 have e := hA.eq
 have h : S K (putA N A σ) := (hS K σ).mpr (hk _ (isA_put hN) Keep.put)
 rwa [← e] at h
theorem FlatL.split : ∀ {ks ls : List (Option IntKind)} {cs : List Value}, FlatL (ks ++ ls) cs → FlatL ks (cs.take ks.length) ∧ FlatL ls (cs.drop ks.length)
 | [], ls, cs, h => ⟨.nil, h⟩
 | k :: ks, ls, cs, h => by
  cases h with
  | cons h1 h2 =>
   obtain ⟨a, b⟩ := FlatL.split h2
   exact ⟨.cons h1 a, b⟩
section
variable {b o : Nat} {pre L post : List Value} {rw : Bool}
end
end Go.Fl
namespace Go.Fl
open Go
set_option linter.unusedVariables false
set_option linter.unusedSimpArgs false
variable {N : Nm} {A B : Ar} {σ : Mem} {K : Value → Mem → Prop} {C : Cf} {who : Int}
def slS (w : Int) : Int := w % 8
def slA (w : Int) : Int := w / 8 % 1048576
def slG (w : Int) : Int := w / 8388608 % 65536
def slV (w : Int) : Int := w / 549755813888 % 4194304
theorem c_wSlot {w : Int} (h0 : 0 ≤ w) (h1 : w < 18446744073709551616) : s_cz [.int .u64 w] K σ = K (.agg #[.int .i64 (slS w), .int .i64 (slA w), .int .i64 (slG w), .int .i64 (slV w)]) σ := by
 have b : ∀ (a b c d : Int) (K : Value → Prop), xF (fBuild [(0, 1), (1, 1), (2, 1), (3, 1)] [.int .i64 0, .int .i64 0, .int .i64 0, .int .i64 0] [0, 1, 2, 3]) [.int .i64 a, .int .i64 b, .int .i64 c, .int .i64 d] K =
   K (.agg #[.int .i64 a, .int .i64 b, .int .i64 c, .int .i64 d]) := fun _ _ _ _ K => nr rfl
 simp only [s_cz, w_cz, gAlloc_s, xCs, ruS, Nat.reduceAdd, reduceIte, Int.reduceLT, Int.reduceLE, Int.reduceEq, Int.reduceNeg, Int.reduceAdd, Int.reduceSub]
 rw [and3 h0 h1]
 simp only [ruS, Nat.reduceAdd, reduceIte, Int.reduceLT, Int.reduceLE, Int.reduceEq, Int.reduceNeg, Int.reduceAdd, Int.reduceSub]
 rw [shr3 h0, and20 (by omega) (by omega)]
 simp only [ruS, Nat.reduceAdd, reduceIte, Int.reduceLT, Int.reduceLE, Int.reduceEq, Int.reduceNeg, Int.reduceAdd, Int.reduceSub]
 rw [shr23 h0, and16 (by omega) (by omega)]
 simp only [ruS, Nat.reduceAdd, reduceIte, Int.reduceLT, Int.reduceLE, Int.reduceEq, Int.reduceNeg, Int.reduceAdd, Int.reduceSub]
 rw [shr39 h0, and22 (by omega) (by omega)]
 simp only [ruS, Nat.reduceAdd, reduceIte, Int.reduceLT, Int.reduceLE, Int.reduceEq, Int.reduceNeg, Int.reduceAdd, Int.reduceSub]
 rw [IntWalk.i64_in (w % 8) (by omega), IntWalk.i64_in (w / 8 % 1048576) (by omega), IntWalk.i64_in (w / 8388608 % 65536) (by omega), IntWalk.i64_in (w / 549755813888 % 4194304) (by omega), b]
 simp only [ruS, ruL, ruX, Nat.reduceAdd, reduceIte, Int.reduceLT, Int.reduceLE, Int.reduceEq, Int.reduceNeg, Int.reduceAdd, Int.reduceSub, Nat.reduceLeDiff]
 rfl
theorem slA_bd (w : Int) : 0 ≤ slA w ∧ slA w ≤ 1048575 := by unfold slA; omega
theorem slG_bd (w : Int) : 0 ≤ slG w ∧ slG w ≤ 65535 := by unfold slG; omega
theorem slV_bd (w : Int) : 0 ≤ slV w ∧ slV w ≤ 4194303 := by unfold slV; omega
theorem sl_put {st ad ge ve : Int} (h1 : 0 ≤ st ∧ st ≤ 7) (h2 : 0 ≤ ad ∧ ad ≤ 1048575) (h3 : 0 ≤ ge ∧ ge ≤ 65535) (h4 : 0 ≤ ve ∧ ve ≤ 4194303) :
  slS (putSlot st ad ge ve) = st ∧ slA (putSlot st ad ge ve) = ad ∧ slG (putSlot st ad ge ve) = ge ∧ slV (putSlot st ad ge ve) = ve := by
 have e : putSlot st ad ge ve = st + ad * 8 + ge * 8388608 + ve * 549755813888 := by unfold putSlot; rw [cl_in h1.1 h1.2, cl_in h2.1 h2.2, cl_in h3.1 h3.2, cl_in h4.1 h4.2]
 rw [e]; unfold slS slA slG slV; omega
def bI (b : Bool) : Int := if b = true then 1 else 0
def putHead (k s t g : Int) (o : Bool) : Int := cl k 3 + cl s 65535 * 4 + cl t 65535 * 262144 + cl g 65535 * 17179869184 + bI o * 1125899906842624
theorem bI_bd (b : Bool) : 0 ≤ bI b ∧ bI b ≤ 1 := by cases b <;> decide
theorem putHead_in (k s t g : Int) (o : Bool) : 0 ≤ putHead k s t g o ∧ putHead k s t g o < 18446744073709551616 := by have := bI_bd o; unfold putHead cl; omega
def hdK (w : Int) : Int := w % 4
def hdS (w : Int) : Int := w / 4 % 65536
def hdT (w : Int) : Int := w / 262144 % 65536
def hdG (w : Int) : Int := w / 17179869184 % 65536
def hdO (w : Int) : Bool := decide (w / 1125899906842624 % 2 = 1)
theorem hd_put {k s t g : Int} {o : Bool} (h1 : 0 ≤ k ∧ k ≤ 3) (h2 : 0 ≤ s ∧ s ≤ 65535) (h3 : 0 ≤ t ∧ t ≤ 65535) (h4 : 0 ≤ g ∧ g ≤ 65535) :
  hdK (putHead k s t g o) = k ∧ hdS (putHead k s t g o) = s ∧ hdT (putHead k s t g o) = t ∧ hdG (putHead k s t g o) = g ∧ hdO (putHead k s t g o) = o := by
 have e : putHead k s t g o = k + s * 4 + t * 262144 + g * 17179869184 + bI o * 1125899906842624 := by unfold putHead; rw [cl_in h1.1 h1.2, cl_in h2.1 h2.2, cl_in h3.1 h3.2, cl_in h4.1 h4.2]
 have hb := bI_bd o
 rw [e]; unfold hdK hdS hdT hdG hdO
 refine ⟨by omega, by omega, by omega, by omega, ?_⟩
 have : (k + s * 4 + t * 262144 + g * 17179869184 + bI o * 1125899906842624) / 1125899906842624 % 2 = bI o := by omega
 rw [this]; cases o <;> rfl
theorem c_PutHead {k s t g : Int} {o : Bool} : s_cw [.agg #[.int .i64 k, .int .i64 s, .int .i64 t, .int .i64 g, .bool o]] K σ = K (.int .u64 (putHead k s t g o)) σ := by
 simp only [s_cw, w_cw, w_cw_j1, w_cw_j1b, ruS, ruL, ruX, Nat.reduceAdd, reduceIte, Int.reduceLT, Int.reduceLE, Int.reduceEq, Int.reduceNeg, Int.reduceAdd, Int.reduceSub, Nat.reduceLeDiff]
 have h1 := @cl_le k 3
 have h2 := @cl_nn k 3 (by decide)
 have h3 := @cl_le s 65535
 have h4 := @cl_nn s 65535 (by decide)
 have h5 := @cl_le t 65535
 have h6 := @cl_nn t 65535 (by decide)
 have h7 := @cl_le g 65535
 have h8 := @cl_nn g 65535 (by decide)
 rw [c_fit (by decide) (by decide), c_fit (by decide) (by decide), shl2 h4 (by omega), or2 h2 (by omega) h4 (by omega), c_fit (by decide) (by decide), shl18 h6 (by omega), or18 (by omega) (by omega) h6 (by omega),
  c_fit (by decide) (by decide), shl34 h8 (by omega), or34 (by omega) (by omega) h8 (by omega)]
 have o50 : ∀ K : Value → Prop, xF (fBin .or .no) [.int .u64 (cl k 3 + cl s 65535 * 4 + cl t 65535 * 262144 + cl g 65535 * 17179869184), .int .u64 1125899906842624] K = K (.int .u64 (cl k 3 + cl s 65535 * 4 + cl t 65535 * 262144 + cl g 65535 * 17179869184 + 1 * 1125899906842624)) :=
  fun K => or50 (c := 1) (by omega) (by omega) (by decide) (by omega)
 cases o
 ·simp only [xIfB, ruS, ruL, ruX, Nat.reduceAdd, reduceIte, Int.reduceLT, Int.reduceLE, Int.reduceEq, Int.reduceNeg, Int.reduceAdd, Int.reduceSub, Nat.reduceLeDiff]
  unfold putHead bI; simp
 ·simp only [xIfB, o50, ruS, ruL, ruX, Nat.reduceAdd, reduceIte, Int.reduceLT, Int.reduceLE, Int.reduceEq, Int.reduceNeg, Int.reduceAdd, Int.reduceSub, Nat.reduceLeDiff]
  unfold putHead bI; simp
theorem c_wHead {w : Int} (h0 : 0 ≤ w) (h1 : w < 18446744073709551616) : s_cs [.int .u64 w] K σ = K (.agg #[.int .i64 (hdK w), .int .i64 (hdS w), .int .i64 (hdT w), .int .i64 (hdG w), .bool (hdO w)]) σ := by
 have b : ∀ (a b c d : Int) (e : Bool) (K : Value → Prop), xF (fBuild [(0, 1), (1, 1), (2, 1), (3, 1), (4, 1)] [.int .i64 0, .int .i64 0, .int .i64 0, .int .i64 0, .bool false] [0, 1, 2, 3, 4]) [.int .i64 a, .int .i64 b, .int .i64 c, .int .i64 d, .bool e] K =
   K (.agg #[.int .i64 a, .int .i64 b, .int .i64 c, .int .i64 d, .bool e]) := fun _ _ _ _ _ K => nr rfl
 simp only [s_cs, w_cs, gAlloc_s, xCs, ruS, Nat.reduceAdd, reduceIte, Int.reduceLT, Int.reduceLE, Int.reduceEq, Int.reduceNeg, Int.reduceAdd, Int.reduceSub]
 rw [and2 h0 h1]
 simp only [ruS, Nat.reduceAdd, reduceIte, Int.reduceLT, Int.reduceLE, Int.reduceEq, Int.reduceNeg, Int.reduceAdd, Int.reduceSub]
 rw [shr2 h0, and16 (by omega) (by omega)]
 simp only [ruS, Nat.reduceAdd, reduceIte, Int.reduceLT, Int.reduceLE, Int.reduceEq, Int.reduceNeg, Int.reduceAdd, Int.reduceSub]
 rw [shr18 h0, and16 (by omega) (by omega)]
 simp only [ruS, Nat.reduceAdd, reduceIte, Int.reduceLT, Int.reduceLE, Int.reduceEq, Int.reduceNeg, Int.reduceAdd, Int.reduceSub]
 rw [shr34 h0, and16 (by omega) (by omega)]
 simp only [ruS, Nat.reduceAdd, reduceIte, Int.reduceLT, Int.reduceLE, Int.reduceEq, Int.reduceNeg, Int.reduceAdd, Int.reduceSub]
 rw [shr50 h0, and1 (by omega) (by omega)]
 simp only [ruS, Nat.reduceAdd, reduceIte, Int.reduceLT, Int.reduceLE, Int.reduceEq, Int.reduceNeg, Int.reduceAdd, Int.reduceSub]
 rw [IntWalk.i64_in (w % 4) (by omega), IntWalk.i64_in (w / 4 % 65536) (by omega), IntWalk.i64_in (w / 262144 % 65536) (by omega), IntWalk.i64_in (w / 17179869184 % 65536) (by omega), b]
 simp only [ruS, ruL, ruX, Nat.reduceAdd, reduceIte, Int.reduceLT, Int.reduceLE, Int.reduceEq, Int.reduceNeg, Int.reduceAdd, Int.reduceSub, Nat.reduceLeDiff]
 rfl
def putHandle (s g : Int) : Int := cl s 65535 + cl g 65535 * 65536
theorem c_PutHandle {s g : Int} : s_cv [.agg #[.int .i64 s, .int .i64 g]] K σ = K (.int .u64 (putHandle s g)) σ := by
 simp only [s_cv, w_cv, ruS, ruL, ruX, Nat.reduceAdd, reduceIte, Int.reduceLT, Int.reduceLE, Int.reduceEq, Int.reduceNeg, Int.reduceAdd, Int.reduceSub, Nat.reduceLeDiff]
 have h1 := @cl_le s 65535
 have h2 := @cl_nn s 65535 (by decide)
 have h3 := @cl_le g 65535
 have h4 := @cl_nn g 65535 (by decide)
 rw [c_fit (by decide) (by decide), c_fit (by decide) (by decide), shl16 h4 (by omega), or16 h2 (by omega) h4 (by omega)]
 rfl
theorem c_wHandle {w : Int} (h0 : 0 ≤ w) (h1 : w < 4294967296) (h2 : 65536 ≤ w) : s_cr [.int .u64 w] K σ = K (.tuple #[.agg #[.int .i64 (w % 65536), .int .i64 (w / 65536)], .bool true]) σ := by
 have b : ∀ (a b : Int) (K : Value → Prop), xF (fBuild [(0, 1), (1, 1)] [.int .i64 0, .int .i64 0] [0, 1]) [.int .i64 a, .int .i64 b] K = K (.agg #[.int .i64 a, .int .i64 b]) := fun _ _ K => nr rfl
 simp only [s_cr, w_cr, w_cr_j1, w_cr_j1b, gAlloc_s, xCs, ruS, Nat.reduceAdd, reduceIte, Int.reduceLT, Int.reduceLE, Int.reduceEq, Int.reduceNeg, Int.reduceAdd, Int.reduceSub]
 have e1 : w / 4294967296 = 0 := by omega
 have e2 : ¬ w / 65536 = 0 := by omega
 rw [shr32 h0, e1]
 simp only [ruS, Nat.reduceAdd, reduceIte, Int.reduceLT, Int.reduceLE, Int.reduceEq, Int.reduceNeg, Int.reduceAdd, Int.reduceSub]
 rw [shr16 h0]
 simp only [e2, ruS, Nat.reduceAdd, reduceIte, Int.reduceLT, Int.reduceLE, Int.reduceEq, Int.reduceNeg, Int.reduceAdd, Int.reduceSub]
 rw [and16 h0 (by omega)]
 simp only [ruS, Nat.reduceAdd, reduceIte, Int.reduceLT, Int.reduceLE, Int.reduceEq, Int.reduceNeg, Int.reduceAdd, Int.reduceSub]
 rw [shr16 h0]
 simp only [ruS, Nat.reduceAdd, reduceIte, Int.reduceLT, Int.reduceLE, Int.reduceEq, Int.reduceNeg, Int.reduceAdd, Int.reduceSub]
 rw [IntWalk.i64_in (w % 65536) (by omega), IntWalk.i64_in (w / 65536) (by omega), b]
 simp only [ruS, ruL, ruX, Nat.reduceAdd, reduceIte, Int.reduceLT, Int.reduceLE, Int.reduceEq, Int.reduceNeg, Int.reduceAdd, Int.reduceSub, Nat.reduceLeDiff]
end Go.Fl
namespace Go.Fl
open Go
set_option linter.unusedVariables false
set_option linter.unusedSimpArgs false
variable {N : Nm} {A B : Ar} {σ : Mem} {K : Value → Mem → Prop} {C : Cf} {who : Int}
def chS (w : Int) : Int := w % 4
def chC (w : Int) : Int := w / 4 % 64
def chU (w : Int) : Int := w / 256 % 1048576
def chN (w : Int) : Int := w / 268435456 % 68719476736
def putChunk (st c us sp : Int) : Int := cl st 3 + cl c 63 * 4 + cl us 1048575 * 256 + cl sp 68719476735 * 268435456
theorem putChunk_in (st c us sp : Int) : 0 ≤ putChunk st c us sp ∧ putChunk st c us sp < 18446744073709551616 := by unfold putChunk cl; omega
theorem c_PutChunk {st c us sp : Int} : s_cu [.agg #[.int .i64 st, .int .i64 c, .int .i64 us, .int .i64 sp]] K σ = K (.int .u64 (putChunk st c us sp)) σ := by
 simp only [s_cu, w_cu, ruS, ruL, ruX, Nat.reduceAdd, reduceIte, Int.reduceLT, Int.reduceLE, Int.reduceEq, Int.reduceNeg, Int.reduceAdd, Int.reduceSub, Nat.reduceLeDiff]
 have h1 := @cl_le st 3
 have h2 := @cl_nn st 3 (by decide)
 have h3 := @cl_le c 63
 have h4 := @cl_nn c 63 (by decide)
 have h5 := @cl_le us 1048575
 have h6 := @cl_nn us 1048575 (by decide)
 have h7 := @cl_le sp 68719476735
 have h8 := @cl_nn sp 68719476735 (by decide)
 rw [c_fit (by decide) (by decide), c_fit (by decide) (by decide), shl2 h4 (by omega), or2 h2 (by omega) h4 (by omega), c_fit (by decide) (by decide), shl8 h6 (by omega), or8 (by omega) (by omega) h6 (by omega),
  c_fit (by decide) (by decide), shl28 h8 (by omega), or28 (by omega) (by omega) h8 (by omega)]
 rfl
theorem c_wChunk {w : Int} (h0 : 0 ≤ w) (h1 : w < 18446744073709551616) : s_cq [.int .u64 w] K σ = K (.agg #[.int .i64 (chS w), .int .i64 (chC w), .int .i64 (chU w), .int .i64 (chN w)]) σ := by
 have b : ∀ (a b c d : Int) (K : Value → Prop), xF (fBuild [(0, 1), (1, 1), (2, 1), (3, 1)] [.int .i64 0, .int .i64 0, .int .i64 0, .int .i64 0] [0, 1, 2, 3]) [.int .i64 a, .int .i64 b, .int .i64 c, .int .i64 d] K =
   K (.agg #[.int .i64 a, .int .i64 b, .int .i64 c, .int .i64 d]) := fun _ _ _ _ K => nr rfl
 simp only [s_cq, w_cq, gAlloc_s, xCs, ruS, Nat.reduceAdd, reduceIte, Int.reduceLT, Int.reduceLE, Int.reduceEq, Int.reduceNeg, Int.reduceAdd, Int.reduceSub]
 rw [and2 h0 h1]
 simp only [ruS, Nat.reduceAdd, reduceIte, Int.reduceLT, Int.reduceLE, Int.reduceEq, Int.reduceNeg, Int.reduceAdd, Int.reduceSub]
 rw [shr2 h0, and6 (by omega) (by omega)]
 simp only [ruS, Nat.reduceAdd, reduceIte, Int.reduceLT, Int.reduceLE, Int.reduceEq, Int.reduceNeg, Int.reduceAdd, Int.reduceSub]
 rw [shr8 h0, and20 (by omega) (by omega)]
 simp only [ruS, Nat.reduceAdd, reduceIte, Int.reduceLT, Int.reduceLE, Int.reduceEq, Int.reduceNeg, Int.reduceAdd, Int.reduceSub]
 rw [shr28 h0, and36 (by omega) (by omega)]
 simp only [ruS, Nat.reduceAdd, reduceIte, Int.reduceLT, Int.reduceLE, Int.reduceEq, Int.reduceNeg, Int.reduceAdd, Int.reduceSub]
 rw [IntWalk.i64_in (w % 4) (by omega), IntWalk.i64_in (w / 4 % 64) (by omega), IntWalk.i64_in (w / 256 % 1048576) (by omega), IntWalk.i64_in (w / 268435456 % 68719476736) (by omega), b]
 simp only [ruS, ruL, ruX, Nat.reduceAdd, reduceIte, Int.reduceLT, Int.reduceLE, Int.reduceEq, Int.reduceNeg, Int.reduceAdd, Int.reduceSub, Nat.reduceLeDiff]
 rfl
theorem chS_bd (w : Int) : 0 ≤ chS w ∧ chS w ≤ 3 := by unfold chS; omega
theorem chC_bd (w : Int) : 0 ≤ chC w ∧ chC w ≤ 63 := by unfold chC; omega
theorem chU_bd (w : Int) : 0 ≤ chU w ∧ chU w ≤ 1048575 := by unfold chU; omega
theorem chN_bd (w : Int) : 0 ≤ chN w ∧ chN w ≤ 68719476735 := by unfold chN; omega
theorem ch_put {st c us sp : Int} (h1 : 0 ≤ st ∧ st ≤ 3) (h2 : 0 ≤ c ∧ c ≤ 63) (h3 : 0 ≤ us ∧ us ≤ 1048575) (h4 : 0 ≤ sp ∧ sp ≤ 68719476735) :
  chS (putChunk st c us sp) = st ∧ chC (putChunk st c us sp) = c ∧ chU (putChunk st c us sp) = us ∧ chN (putChunk st c us sp) = sp := by
 have e : putChunk st c us sp = st + c * 4 + us * 256 + sp * 268435456 := by unfold putChunk; rw [cl_in h1.1 h1.2, cl_in h2.1 h2.2, cl_in h3.1 h3.2, cl_in h4.1 h4.2]
 rw [e]; unfold chS chC chU chN; omega
structure Pl where
 cls : Int
 pc : Int
 opn : Int
 at' : Int
 w : Int
 sa : Int
 sc : Int
 ok : Bool
def Pl.l (p : Pl) : List Value := [.int .i64 p.cls, .int .i64 p.pc, .int .u64 p.opn, .int .i64 p.at', .int .u64 p.w, .int .i64 p.sa, .int .i64 p.sc, .bool p.ok]
def Pl.new (c : Int) : Pl := ⟨c, 0, 0, 0, 0, 0, 0, false⟩
def Pl.fresh (p : Pl) : Int := putChunk 1 p.cls 0 (chN p.w + 1)
def Pl.next (C : Cf) (p : Pl) : Bool × Pl := (decide (C.C ≤ p.at' + 1), { p with at' := p.at' + 1, pc := 3 })
def Pl.step (C : Cf) (who : Int) (A : Ar) (p : Pl) : Bool × Pl × Ar :=
 if p.pc = 0 then
  let w := A.w (2 + p.cls)
  (false, (if IntKind.i64.wrap w - 1 < 0 then { p with opn := w, at' := 0, pc := 3 } else { p with opn := w, at' := IntKind.i64.wrap w - 1, pc := 1 }), (A.by who).load (2 + p.cls))
 else if p.pc = 1 then
  let w := A.w (C.chunk p.at')
  (false, (if chS w ≠ 1 ∨ chC w ≠ p.cls ∨ C.W < chU w + roomOf p.cls then { p with w := w, at' := 0, pc := 3 } else { p with w := w, pc := 2 }), (A.by who).load (C.chunk p.at'))
 else if p.pc = 2 then
  let good := A.w (C.chunk p.at') = p.w
  (decide good, (if good then { p with pc := 0, sa := C.base p.at' + chU p.w, sc := p.at', ok := true } else { p with pc := 0 }), (A.by who).cas (C.chunk p.at') p.w (putChunk (chS p.w) (chC p.w) (chU p.w + roomOf p.cls) (chN p.w)))
 else if p.pc = 3 then
  let w := A.w (C.chunk p.at')
  let q : Pl := { p with w := w }
  if chS w ≠ 0 then ((q.next C).1, (q.next C).2, (A.by who).load (C.chunk p.at')) else (false, { q with pc := 4 }, (A.by who).load (C.chunk p.at'))
 else if p.pc = 4 then
  if A.w (C.chunk p.at') = p.w then (false, { p with pc := 5 }, (A.by who).cas (C.chunk p.at') p.w p.fresh) else ((p.next C).1, (p.next C).2, (A.by who).cas (C.chunk p.at') p.w p.fresh)
 else if p.pc = 5 then
  (false, (if A.w (2 + p.cls) = p.opn then { p with pc := 0 } else { p with pc := 6 }), (A.by who).cas (2 + p.cls) p.opn (p.at' + 1))
 else (false, { p with pc := 0 }, (A.by who).cas (C.chunk p.at') p.fresh (putChunk 0 0 0 (chN p.w + 2)))
structure Pl.fit (C : Cf) (p : Pl) : Prop where
 cls : 0 ≤ p.cls ∧ p.cls ≤ 3
 opn : 0 ≤ p.opn ∧ p.opn < 18446744073709551616
 at' : 0 ≤ p.at' ∧ p.at' < C.C
 w : 0 ≤ p.w ∧ p.w < 18446744073709551616
theorem c_PlaceNew {c : Int} (hk : ∀ id τ, σ.get id = none → τ.get id = some ⟨(Pl.new c).l, true⟩ → Ext σ τ → K (.pointer (some ⟨id, 0, none⟩)) τ) : s_ce [.int .i64 c] K σ := by
 have b : ∀ K : Value → Prop, xF (fBuild [(0, 1), (1, 1), (2, 1), (3, 1), (4, 1), (5, 2), (7, 1)] [.int .i64 0, .int .i64 0, .int .u64 0, .int .i64 0, .int .u64 0, .int .i64 0, .int .i64 0, .bool false] [0]) [.int .i64 c] K =
   K (.agg #[.int .i64 c, .int .i64 0, .int .u64 0, .int .i64 0, .int .u64 0, .int .i64 0, .int .i64 0, .bool false]) := fun K => nr rfl
 simp only [s_ce, w_ce, b, ruS, Nat.reduceAdd, reduceIte, Int.reduceLT, Int.reduceLE, Int.reduceEq, Int.reduceNeg, Int.reduceAdd, Int.reduceSub]
 exact hBox_i (cs := [_, _, _, _, _, _, _, _]) rfl hk
theorem c_Place_Spot (hA : isA N A σ) {p : Nat} {pre post : List Value} {t : Pl} (hp : σ.get p = some ⟨pre ++ t.l ++ post, true⟩) (hd : p ∉ N.l)
  (hk : K (.tuple #[if t.ok = true then .agg #[.int .i64 t.sa, .int .i64 t.sc] else .agg #[.int .i64 0, .int .i64 0], .bool t.ok]) σ) : s_cf [.pointer (some ⟨p, pre.length, none⟩)] K σ := by
 have b : ∀ K : Value → Prop, xF (fBuild [(0, 1), (1, 1)] [.int .i64 0, .int .i64 0] []) [] K = K (.agg #[.int .i64 0, .int .i64 0]) := fun K => nr rfl
 have e := hA.obj hp
 generalize hq : σ = υ at *
 rw [e] at hk ⊢
 simp only [s_cf, w_cf, w_cf_j1, w_cf_j1b, Pl.l, ldO hd, b, ruS, ruL, ruE, Nat.reduceAdd, reduceIte, Int.reduceLT, Int.reduceLE, Int.reduceEq, Int.reduceNeg, Int.reduceAdd, Int.reduceSub, Nat.reduceLeDiff, Nat.reduceLT] at hk ⊢
 cases h : t.ok <;> simp only [h, xIfB, ldO hd, ruS, ruL, ruE, Nat.reduceAdd, reduceIte, Int.reduceLT, Int.reduceLE, Int.reduceEq, Int.reduceNeg, Int.reduceAdd, Int.reduceSub, Nat.reduceLeDiff, Nat.reduceLT, sub_l] at hk ⊢ <;> exact hk
theorem c_fresh {p : Nat} {pre post : List Value} {t : Pl} (hd : p ∉ N.l) (hw : 0 ≤ t.w ∧ t.w < 18446744073709551616) :
  s_ch [.pointer (some ⟨p, pre.length, none⟩)] K (putA N A (σ.set p ⟨pre ++ t.l ++ post, true⟩)) = K (.int .u64 t.fresh) (putA N A (σ.set p ⟨pre ++ t.l ++ post, true⟩)) := by
 have b : ∀ (a b c : Int) (K : Value → Prop), xF (fBuild [(0, 1), (1, 1), (2, 1), (3, 1)] [.int .i64 0, .int .i64 0, .int .i64 0, .int .i64 0] [0, 1, 3]) [.int .i64 a, .int .i64 b, .int .i64 c] K = K (.agg #[.int .i64 a, .int .i64 b, .int .i64 0, .int .i64 c]) := fun _ _ _ K => nr rfl
 have hN := chN_bd t.w
 simp only [s_ch, w_ch, Pl.l, ldO hd, ruS, ruL, ruE, Nat.reduceAdd, reduceIte, Int.reduceLT, Int.reduceLE, Int.reduceEq, Int.reduceNeg, Int.reduceAdd, Int.reduceSub, Nat.reduceLeDiff, Nat.reduceLT]
 rw [c_wChunk hw.1 hw.2]
 simp only [ruS, ruL, ruE, Nat.reduceAdd, reduceIte, Int.reduceLT, Int.reduceLE, Int.reduceEq, Int.reduceNeg, Int.reduceAdd, Int.reduceSub, Nat.reduceLeDiff, Nat.reduceLT]
 rw [IntWalk.i64_in (chN t.w + 1) (by omega), b, c_PutChunk]
 rfl
theorem c_on {p : Nat} {pre post : List Value} {t : Pl} (hd : p ∉ N.l) (ha : 0 ≤ t.at' ∧ t.at' < 1000) :
  s_cj [.pointer (some ⟨p, pre.length, none⟩), N.env C who] K (putA N A (σ.set p ⟨pre ++ t.l ++ post, true⟩)) = K (.bool (t.next C).1) (putA N A (σ.set p ⟨pre ++ (t.next C).2.l ++ post, true⟩)) := by
 simp only [s_cj, w_cj, Pl.l, stOi hd, ldO hd, ruS, ruL, ruE, Nat.reduceAdd, reduceIte, Int.reduceLT, Int.reduceLE, Int.reduceEq, Int.reduceNeg, Int.reduceAdd, Int.reduceSub, Nat.reduceLeDiff, Nat.reduceLT]
 rw [IntWalk.i64_in (t.at' + 1) (by omega)]
 rfl
end Go.Fl
namespace Go.Fl
open Go
set_option linter.unusedVariables false
set_option linter.unusedSimpArgs false
variable {N : Nm} {A B : Ar} {σ : Mem} {K : Value → Mem → Prop} {C : Cf} {who : Int}
theorem room_bd {k : Int} (h0 : 0 ≤ k) (h1 : k ≤ 3) : 3 ≤ roomOf k ∧ roomOf k ≤ 17 := by
 rcases (show k = 0 ∨ k = 1 ∨ k = 2 ∨ k = 3 by omega) with rfl | rfl | rfl | rfl <;> decide
theorem chunk_bd (h : C.ok) {a : Int} (h0 : 0 ≤ a) (h1 : a < C.C) (hn : C.len ≤ A.n) : 0 ≤ C.chunk a ∧ C.chunk a < A.n := by
 have := len_bd h; have := h.T; have := h.S; have := h.C
 unfold Cf.chunk at *; omega
theorem base_bd (h : C.ok) {a : Int} (h0 : 0 ≤ a) (h1 : a < 65536) : 0 ≤ C.base a ∧ C.base a ≤ 1000000000 := by
 have := h.T; have := h.S; have := h.C
 have := mulW h h0 (by omega)
 unfold Cf.base; omega
theorem gStoreH {a b c d w x y z : Int} : gStore 4 [.pointer (some ⟨5, 0, none⟩), .agg #[.int .i64 a, .int .i64 b, .int .i64 c, .int .i64 d]] [.int .i64 w, .int .i64 x, .int .i64 y, .int .i64 z] = some [.int .i64 a, .int .i64 b, .int .i64 c, .int .i64 d] := rfl
theorem sub4 {a b c d : Value} : sub [a, b, c, d] 0 4 true = some (.agg #[a, b, c, d]) := rfl
theorem c_Place_Step (hN : N.ok) (hC : C.ok) (hA : isA N A σ) {p : Nat} {pre post : List Value} {t : Pl} (hp : σ.get p = some ⟨pre ++ t.l ++ post, true⟩) (hd : p ∉ N.l)
  (hw : ∀ i, 0 ≤ A.w i ∧ A.w i < 18446744073709551616) (hn : C.len ≤ A.n) (hf : t.fit C) (ho : A.w (2 + t.cls) ≤ C.C)
  (hk : ∀ τ, isA N (t.step C who A).2.2 τ → τ.get p = some ⟨pre ++ (t.step C who A).2.1.l ++ post, true⟩ → Keep (p :: N.l) σ τ → K (.bool (t.step C who A).1) τ) :
  s_cg [.pointer (some ⟨p, pre.length, none⟩), N.env C who] K σ := by
 rw [hA.obj hp]
 have hl := len_bd hC
 have hT := hC.T
 have hS := hC.S
 have hCC := hC.C
 have hW := hC.W
 obtain ⟨f1, f2, f3, f4⟩ := hf
 have hch : C.chunk C.C = 6 + C.T + 2 * C.S + 3 * C.C := rfl
 have hcb := chunk_bd hC f3.1 f3.2 hn
 have hbb := base_bd hC f3.1 (by omega)
 have hrb := room_bd f1.1 f1.2
 have hwo := hw (2 + t.cls)
 have hwc := hw (C.chunk t.at')
 have hwr : IntKind.i64.wrap (A.w (2 + t.cls)) = A.w (2 + t.cls) := IntWalk.i64_in _ (by omega)
 simp only [s_cg, w_cg, w_cg_j1, w_cg_j1b, w_cg_j2, w_cg_j2b, Pl.l, ldO hd, ruS, ruL, ruE, Nat.reduceAdd, reduceIte, Int.reduceLT, Int.reduceLE, Int.reduceEq, Int.reduceNeg, Int.reduceAdd, Int.reduceSub, Nat.reduceLeDiff, Nat.reduceLT]
 by_cases c0 : t.pc = 0
 ·rw [if_pos c0, c_Open f1.1 (by omega), c_Load hN (by omega) (by omega)]
  simp only [stOi hd, stOb hd, ldO hd, ruS, ruL, ruE, Nat.reduceAdd, reduceIte, Int.reduceLT, Int.reduceLE, Int.reduceEq, Int.reduceNeg, Int.reduceAdd, Int.reduceSub, Nat.reduceLeDiff, Nat.reduceLT]
  rw [hwr, IntWalk.i64_in (A.w (2 + t.cls) - 1) (by omega)]
  simp only [Pl.step, if_pos c0, hwr] at hk
  by_cases q : A.w (2 + t.cls) - 1 < 0
  ·rw [if_pos q] at hk ⊢
   exact behind hN hd hk
  ·rw [if_neg q] at hk ⊢
   exact behind hN hd hk
 ·by_cases c1 : t.pc = 1
  ·rw [if_neg c0, if_pos c1, c_Chunk hC f3.1 (by omega), c_Load hN hcb.1 hcb.2]
   simp only [stOi hd, stOb hd, ldO hd, ruS, ruL, ruE, Nat.reduceAdd, reduceIte, Int.reduceLT, Int.reduceLE, Int.reduceEq, Int.reduceNeg, Int.reduceAdd, Int.reduceSub, Nat.reduceLeDiff, Nat.reduceLT]
   rw [c_wChunk hwc.1 hwc.2]
   simp only [stOi hd, ldO hd, gStoreH, Cf.v, Cf.l, ruS, ruL, ruE, Nat.reduceAdd, reduceIte, Int.reduceLT, Int.reduceLE, Int.reduceEq, Int.reduceNeg, Int.reduceAdd, Int.reduceSub, Nat.reduceLeDiff, Nat.reduceLT]
   simp only [Pl.step, if_neg c0, if_pos c1] at hk
   have hu := chU_bd (A.w (C.chunk t.at'))
   by_cases q1 : chS (A.w (C.chunk t.at')) = 1
   ·by_cases q2 : chC (A.w (C.chunk t.at')) = t.cls
    ·simp only [q1, q2, ruS, ruL, ruE, Nat.reduceAdd, reduceIte, Int.reduceLT, Int.reduceLE, Int.reduceEq, Int.reduceNeg, Int.reduceAdd, Int.reduceSub, Nat.reduceLeDiff, Nat.reduceLT]
     rw [c_Room f1.1 f1.2]
     simp only [ruS, ruL, ruE, Nat.reduceAdd, reduceIte, Int.reduceLT, Int.reduceLE, Int.reduceEq, Int.reduceNeg, Int.reduceAdd, Int.reduceSub, Nat.reduceLeDiff, Nat.reduceLT]
     rw [IntWalk.i64_in (chU (A.w (C.chunk t.at')) + roomOf t.cls) (by omega)]
     by_cases q3 : C.W < chU (A.w (C.chunk t.at')) + roomOf t.cls
     ·simp only [q3, stOi hd, ruS, ruL, ruE, Nat.reduceAdd, reduceIte, Int.reduceLT, Int.reduceLE, Int.reduceEq, Int.reduceNeg, Int.reduceAdd, Int.reduceSub, Nat.reduceLeDiff, Nat.reduceLT]
      rw [if_pos (.inr (.inr q3))] at hk
      exact behind hN hd hk
     ·simp only [q3, ruS, ruL, ruE, Nat.reduceAdd, reduceIte, Int.reduceLT, Int.reduceLE, Int.reduceEq, Int.reduceNeg, Int.reduceAdd, Int.reduceSub, Nat.reduceLeDiff, Nat.reduceLT]
      rw [if_neg (by rintro (h | h | h) <;> contradiction)] at hk
      exact behind hN hd hk
    ·simp only [q1, q2, ruS, ruL, ruE, Nat.reduceAdd, reduceIte, Int.reduceLT, Int.reduceLE, Int.reduceEq, Int.reduceNeg, Int.reduceAdd, Int.reduceSub, Nat.reduceLeDiff, Nat.reduceLT]
     rw [if_pos (.inr (.inl q2))] at hk
     exact behind hN hd hk
   ·simp only [q1, ruS, ruL, ruE, Nat.reduceAdd, reduceIte, Int.reduceLT, Int.reduceLE, Int.reduceEq, Int.reduceNeg, Int.reduceAdd, Int.reduceSub, Nat.reduceLeDiff, Nat.reduceLT]
    rw [if_pos (.inl q1)] at hk
    exact behind hN hd hk
  ·by_cases c2 : t.pc = 2
   ·rw [if_neg c0, if_neg c1, if_pos c2]
    simp only [Pl.step, if_neg c0, if_neg c1, if_pos c2] at hk
    simp only [s_ci, w_ci, ldO hd, ruS, ruL, ruE, Nat.reduceAdd, reduceIte, Int.reduceLT, Int.reduceLE, Int.reduceEq, Int.reduceNeg, Int.reduceAdd, Int.reduceSub, Nat.reduceLeDiff, Nat.reduceLT]
    rw [c_wChunk f4.1 f4.2]
    have hu := chU_bd t.w
    simp only [stOi hd, ldO hd, gStoreH, ruS, ruL, ruE, Nat.reduceAdd, reduceIte, Int.reduceLT, Int.reduceLE, Int.reduceEq, Int.reduceNeg, Int.reduceAdd, Int.reduceSub, Nat.reduceLeDiff, Nat.reduceLT]
    rw [c_Room f1.1 f1.2]
    simp only [ruS, ruL, ruE, Nat.reduceAdd, reduceIte, Int.reduceLT, Int.reduceLE, Int.reduceEq, Int.reduceNeg, Int.reduceAdd, Int.reduceSub, Nat.reduceLeDiff, Nat.reduceLT]
    rw [IntWalk.i64_in (chU t.w + roomOf t.cls) (by omega)]
    simp only [stOi hd, ldO hd, ruS, ruL, ruE, Nat.reduceAdd, reduceIte, Int.reduceLT, Int.reduceLE, Int.reduceEq, Int.reduceNeg, Int.reduceAdd, Int.reduceSub, Nat.reduceLeDiff, Nat.reduceLT]
    rw [c_Chunk hC f3.1 (by omega)]
    simp only [stOi hd, ldO hd, sub4, ruS, ruL, ruE, Nat.reduceAdd, reduceIte, Int.reduceLT, Int.reduceLE, Int.reduceEq, Int.reduceNeg, Int.reduceAdd, Int.reduceSub, Nat.reduceLeDiff, Nat.reduceLT]
    rw [c_PutChunk, c_Cas hN hcb.1 hcb.2]
    by_cases q : A.w (C.chunk t.at') = t.w
    ·have b : ∀ (a c : Int) (K : Value → Prop), xF (fBuild [(0, 1), (1, 1)] [.int .i64 0, .int .i64 0] [0, 1]) [.int .i64 a, .int .i64 c] K = K (.agg #[.int .i64 a, .int .i64 c]) := fun _ _ K => nr rfl
     simp only [q, ldO hd, ruS, ruL, ruE, Nat.reduceAdd, reduceIte, Int.reduceLT, Int.reduceLE, Int.reduceEq, Int.reduceNeg, Int.reduceAdd, Int.reduceSub, Nat.reduceLeDiff, Nat.reduceLT]
     rw [c_Base hC f3.1 (by omega)]
     simp only [ldO hd, ruS, ruL, ruE, Nat.reduceAdd, reduceIte, Int.reduceLT, Int.reduceLE, Int.reduceEq, Int.reduceNeg, Int.reduceAdd, Int.reduceSub, Nat.reduceLeDiff, Nat.reduceLT]
     rw [IntWalk.i64_in (C.base t.at' + chU t.w) (by omega), b]
     simp only [stOa hd, stOb hd, q, ruS, ruL, ruE, Nat.reduceAdd, reduceIte, Int.reduceLT, Int.reduceLE, Int.reduceEq, Int.reduceNeg, Int.reduceAdd, Int.reduceSub, Nat.reduceLeDiff, Nat.reduceLT] at hk ⊢
     exact behind hN hd hk
    ·simp only [q, ruS, ruL, ruE, Nat.reduceAdd, reduceIte, Int.reduceLT, Int.reduceLE, Int.reduceEq, Int.reduceNeg, Int.reduceAdd, Int.reduceSub, Nat.reduceLeDiff, Nat.reduceLT] at hk ⊢
     exact behind hN hd hk
   ·by_cases c3 : t.pc = 3
    ·rw [if_neg c0, if_neg c1, if_neg c2, if_pos c3, c_Chunk hC f3.1 (by omega), c_Load hN hcb.1 hcb.2]
     simp only [Pl.step, if_neg c0, if_neg c1, if_neg c2, if_pos c3] at hk
     simp only [stOi hd, stOb hd, ldO hd, ruS, ruL, ruE, Nat.reduceAdd, reduceIte, Int.reduceLT, Int.reduceLE, Int.reduceEq, Int.reduceNeg, Int.reduceAdd, Int.reduceSub, Nat.reduceLeDiff, Nat.reduceLT]
     rw [c_wChunk hwc.1 hwc.2]
     simp only [stOi hd, ldO hd, ruS, ruL, ruE, Nat.reduceAdd, reduceIte, Int.reduceLT, Int.reduceLE, Int.reduceEq, Int.reduceNeg, Int.reduceAdd, Int.reduceSub, Nat.reduceLeDiff, Nat.reduceLT]
     by_cases q : chS (A.w (C.chunk t.at')) = 0
     ·simp only [q, ruS, ruL, ruE, Nat.reduceAdd, reduceIte, Int.reduceLT, Int.reduceLE, Int.reduceEq, Int.reduceNeg, Int.reduceAdd, Int.reduceSub, Nat.reduceLeDiff, Nat.reduceLT]
      rw [if_neg (fun h => h q)] at hk
      exact behind hN hd hk
     ·simp only [q, ruS, ruL, ruE, Nat.reduceAdd, reduceIte, Int.reduceLT, Int.reduceLE, Int.reduceEq, Int.reduceNeg, Int.reduceAdd, Int.reduceSub, Nat.reduceLeDiff, Nat.reduceLT]
      rw [if_pos q] at hk
      exact Eq.mpr (c_on (K := K) (t := ⟨t.cls, t.pc, t.opn, t.at', A.w (C.chunk t.at'), t.sa, t.sc, t.ok⟩) hd ⟨f3.1, by dsimp only; omega⟩) (behind hN hd hk)
    ·by_cases c4 : t.pc = 4
     ·rw [if_neg c0, if_neg c1, if_neg c2, if_neg c3, if_pos c4, c_Chunk hC f3.1 (by omega)]
      simp only [Pl.step, if_neg c0, if_neg c1, if_neg c2, if_neg c3, if_pos c4] at hk
      simp only [stOi hd, stOb hd, ldO hd, ruS, ruL, ruE, Nat.reduceAdd, reduceIte, Int.reduceLT, Int.reduceLE, Int.reduceEq, Int.reduceNeg, Int.reduceAdd, Int.reduceSub, Nat.reduceLeDiff, Nat.reduceLT]
      refine Eq.mpr (c_fresh (t := t) hd f4) ?_
      rw [c_Cas hN hcb.1 hcb.2]
      by_cases q : A.w (C.chunk t.at') = t.w
      ·simp only [q, stOi hd, ldO hd, Pl.l, ruS, ruL, ruE, Nat.reduceAdd, reduceIte, Int.reduceLT, Int.reduceLE, Int.reduceEq, Int.reduceNeg, Int.reduceAdd, Int.reduceSub, Nat.reduceLeDiff, Nat.reduceLT] at hk ⊢
       exact behind hN hd hk
      ·simp only [q, ruS, ruL, ruE, Nat.reduceAdd, reduceIte, Int.reduceLT, Int.reduceLE, Int.reduceEq, Int.reduceNeg, Int.reduceAdd, Int.reduceSub, Nat.reduceLeDiff, Nat.reduceLT] at hk ⊢
       exact Eq.mpr (c_on (K := K) (t := t) hd ⟨f3.1, by omega⟩) (behind hN hd hk)
     ·by_cases c5 : t.pc = 5
      ·rw [if_neg c0, if_neg c1, if_neg c2, if_neg c3, if_neg c4, if_pos c5]
       simp only [Pl.step, if_neg c0, if_neg c1, if_neg c2, if_neg c3, if_neg c4, if_pos c5] at hk
       simp only [stOi hd, ldO hd, ruS, ruL, ruE, Nat.reduceAdd, reduceIte, Int.reduceLT, Int.reduceLE, Int.reduceEq, Int.reduceNeg, Int.reduceAdd, Int.reduceSub, Nat.reduceLeDiff, Nat.reduceLT]
       rw [c_Open f1.1 (by omega)]
       simp only [stOi hd, ldO hd, ruS, ruL, ruE, Nat.reduceAdd, reduceIte, Int.reduceLT, Int.reduceLE, Int.reduceEq, Int.reduceNeg, Int.reduceAdd, Int.reduceSub, Nat.reduceLeDiff, Nat.reduceLT]
       rw [IntWalk.i64_in (t.at' + 1) (by omega), show IntKind.u64.wrap (t.at' + 1) = t.at' + 1 from IntWalk.u64_in _ (by omega), c_Cas hN (by omega) (by omega)]
       by_cases q : A.w (2 + t.cls) = t.opn
       ·simp only [q, stOi hd, ldO hd, ruS, ruL, ruE, Nat.reduceAdd, reduceIte, Int.reduceLT, Int.reduceLE, Int.reduceEq, Int.reduceNeg, Int.reduceAdd, Int.reduceSub, Nat.reduceLeDiff, Nat.reduceLT] at hk ⊢
        exact behind hN hd hk
       ·simp only [q, ruS, ruL, ruE, Nat.reduceAdd, reduceIte, Int.reduceLT, Int.reduceLE, Int.reduceEq, Int.reduceNeg, Int.reduceAdd, Int.reduceSub, Nat.reduceLeDiff, Nat.reduceLT] at hk ⊢
        exact behind hN hd hk
      ·rw [if_neg c0, if_neg c1, if_neg c2, if_neg c3, if_neg c4, if_neg c5, c_wChunk f4.1 f4.2]
       simp only [Pl.step, if_neg c0, if_neg c1, if_neg c2, if_neg c3, if_neg c4, if_neg c5] at hk
       have hN := chN_bd t.w
       have b : ∀ (a : Int) (K : Value → Prop), xF (fBuild [(0, 1), (1, 1), (2, 1), (3, 1)] [.int .i64 0, .int .i64 0, .int .i64 0, .int .i64 0] [3]) [.int .i64 a] K = K (.agg #[.int .i64 0, .int .i64 0, .int .i64 0, .int .i64 a]) := fun _ K => nr rfl
       simp only [ruS, ruL, ruE, Nat.reduceAdd, reduceIte, Int.reduceLT, Int.reduceLE, Int.reduceEq, Int.reduceNeg, Int.reduceAdd, Int.reduceSub, Nat.reduceLeDiff, Nat.reduceLT]
       rw [IntWalk.i64_in (chN t.w + 2) (by omega), b, c_PutChunk]
       simp only [stOi hd, ldO hd, ruS, ruL, ruE, Nat.reduceAdd, reduceIte, Int.reduceLT, Int.reduceLE, Int.reduceEq, Int.reduceNeg, Int.reduceAdd, Int.reduceSub, Nat.reduceLeDiff, Nat.reduceLT]
       rw [c_Chunk hC f3.1 (by omega)]
       refine Eq.mpr (c_fresh (t := t) hd f4) ?_
       rw [c_Cas ‹N.ok› hcb.1 hcb.2]
       simp only [stOi hd, ldO hd, Pl.l, ruS, ruL, ruE, Nat.reduceAdd, reduceIte, Int.reduceLT, Int.reduceLE, Int.reduceEq, Int.reduceNeg, Int.reduceAdd, Int.reduceSub, Nat.reduceLeDiff, Nat.reduceLT] at hk ⊢
       exact behind ‹N.ok› hd hk
end Go.Fl
namespace Go.Fl
open Go
set_option linter.unusedVariables false
set_option linter.unusedSimpArgs false
variable {N : Nm} {A B : Ar} {σ : Mem} {K : Value → Mem → Prop} {C : Cf} {who : Int}
def ceV (w : Int) : Int := w % 1099511627776
def ceF (w : Int) : Bool := decide (w / 9223372036854775808 = 1)
def ceN (w : Int) : Int := if ceF w = true then w / 1099511627776 % 4194304 else 0
def putCell (v : Int) (f : Bool) (n : Int) : Int := if f = true then cl v 1099511627775 + (8388608 + cl n 4194303) * 1099511627776 else cl v 1099511627775
theorem putCell_in (v : Int) (f : Bool) (n : Int) : 0 ≤ putCell v f n ∧ putCell v f n < 18446744073709551616 := by unfold putCell cl; split <;> omega
theorem ceV_bd (w : Int) : 0 ≤ ceV w ∧ ceV w ≤ 1099511627775 := by unfold ceV; omega
theorem ce_put {v n : Int} {f : Bool} (h1 : 0 ≤ v ∧ v ≤ 1099511627775) (h2 : 0 ≤ n ∧ n ≤ 4194303) :
  ceV (putCell v f n) = v ∧ ceF (putCell v f n) = f ∧ ceN (putCell v f n) = (if f = true then n else 0) := by
 have e : putCell v f n = if f = true then v + (8388608 + n) * 1099511627776 else v := by unfold putCell; rw [cl_in h1.1 h1.2, cl_in h2.1 h2.2]
 cases f with
 | true =>
  rw [e]; simp only [if_true]
  have hF : ceF (v + (8388608 + n) * 1099511627776) = true := decide_eq_true (by omega)
  refine ⟨by unfold ceV; omega, hF, ?_⟩
  unfold ceN; rw [hF]; simp only [if_true]; omega
 | false =>
  rw [e]; simp only [Bool.false_eq_true, if_false]
  have hF : ceF v = false := decide_eq_false (by omega)
  refine ⟨by unfold ceV; omega, hF, ?_⟩
  unfold ceN; rw [hF]; simp
theorem or63c {K : Value → Prop} {Q : EqK} {a : Int} (h0 : 0 ≤ a) (h1 : a < 9223372036854775808) : xF (fBin .or Q) [.int .u64 9223372036854775808, .int .u64 a] K = K (.int .u64 (a + 9223372036854775808)) := by
 have := xOrG (K := K) (Q := Q) (s := 63) (a := a) (c := 1) h0 (by simpa using h1) (by decide) (by simp; omega)
 have e : xF (fBin .or Q) [.int .u64 9223372036854775808, .int .u64 a] K = xF (fBin .or Q) [.int .u64 a, .int .u64 (1 * 2 ^ 63)] K := by
  simp only [xF, fBin, isSh, binI, Bool.false_eq_true, if_false, if_true]
  rw [BitVec.or_comm]; rfl
 rw [e, this]; rfl
theorem c_PutCell {v n : Int} {f : Bool} : s_ct [.agg #[.int .i64 v, .bool f, .int .i64 n]] K σ = K (.int .u64 (putCell v f n)) σ := by
 simp only [s_ct, w_ct, w_ct_j1, w_ct_j1b, ruS, ruL, ruX, Nat.reduceAdd, reduceIte, Int.reduceLT, Int.reduceLE, Int.reduceEq, Int.reduceNeg, Int.reduceAdd, Int.reduceSub, Nat.reduceLeDiff]
 have h1 := @cl_le v 1099511627775
 have h2 := @cl_nn v 1099511627775 (by decide)
 have h3 := @cl_le n 4194303
 have h4 := @cl_nn n 4194303 (by decide)
 rw [c_fit (by decide) (by decide)]
 cases f
 ·simp only [xIfB, ruS, ruL, ruX, Nat.reduceAdd, reduceIte, Int.reduceLT, Int.reduceLE, Int.reduceEq, Int.reduceNeg, Int.reduceAdd, Int.reduceSub, Nat.reduceLeDiff]
  unfold putCell; simp
 ·simp only [xIfB, ruS, ruL, ruX, Nat.reduceAdd, reduceIte, Int.reduceLT, Int.reduceLE, Int.reduceEq, Int.reduceNeg, Int.reduceAdd, Int.reduceSub, Nat.reduceLeDiff]
  rw [c_fit (by decide) (by decide), shl40 h4 (by omega), or63c (by omega) (by omega), show cl n 4194303 * 1099511627776 + 9223372036854775808 = (8388608 + cl n 4194303) * 1099511627776 by omega, or40 h2 (by omega) (by omega) (by omega)]
  unfold putCell; simp
theorem c_wCell {w : Int} (h0 : 0 ≤ w) (h1 : w < 18446744073709551616) : s_cp [.int .u64 w] K σ = K (.agg #[.int .i64 (ceV w), .bool (ceF w), .int .i64 (ceN w)]) σ := by
 have b : ∀ (a : Int) (e : Bool) (K : Value → Prop), xF (fBuild [(0, 1), (1, 1), (2, 1)] [.int .i64 0, .bool false, .int .i64 0] [0, 1]) [.int .i64 a, .bool e] K = K (.agg #[.int .i64 a, .bool e, .int .i64 0]) := fun _ _ K => nr rfl
 simp only [s_cp, w_cp, w_cp_j1, w_cp_j1b, gAlloc_s, xCs, ruS, Nat.reduceAdd, reduceIte, Int.reduceLT, Int.reduceLE, Int.reduceEq, Int.reduceNeg, Int.reduceAdd, Int.reduceSub]
 rw [and40 h0 h1]
 simp only [ruS, Nat.reduceAdd, reduceIte, Int.reduceLT, Int.reduceLE, Int.reduceEq, Int.reduceNeg, Int.reduceAdd, Int.reduceSub]
 rw [shr63 h0]
 simp only [ruS, Nat.reduceAdd, reduceIte, Int.reduceLT, Int.reduceLE, Int.reduceEq, Int.reduceNeg, Int.reduceAdd, Int.reduceSub]
 rw [IntWalk.i64_in (w % 1099511627776) (by omega), b]
 by_cases e : w / 9223372036854775808 = 1
 ·have hF : ceF w = true := decide_eq_true e
  simp only [e, ruS, ruL, ruX, Nat.reduceAdd, reduceIte, Int.reduceLT, Int.reduceLE, Int.reduceEq, Int.reduceNeg, Int.reduceAdd, Int.reduceSub, Nat.reduceLeDiff]
  rw [shr40 h0, and22 (by omega) (by omega)]
  simp only [ruS, ruL, ruX, Nat.reduceAdd, reduceIte, Int.reduceLT, Int.reduceLE, Int.reduceEq, Int.reduceNeg, Int.reduceAdd, Int.reduceSub, Nat.reduceLeDiff]
  rw [IntWalk.i64_in (w / 1099511627776 % 4194304) (by omega), hF]
  unfold ceN ceV; rw [hF]; rfl
 ·have hF : ceF w = false := decide_eq_false e
  simp only [e, ruS, ruL, ruX, Nat.reduceAdd, reduceIte, Int.reduceLT, Int.reduceLE, Int.reduceEq, Int.reduceNeg, Int.reduceAdd, Int.reduceSub, Nat.reduceLeDiff]
  rw [hF]
  unfold ceN ceV; rw [hF]; rfl
def hdOk (h : Int) : Bool := decide (h / 4294967296 = 0 ∧ h / 65536 ≠ 0)
def hdSl (h : Int) : Int := if hdOk h = true then h % 65536 else 0
def hdGe (h : Int) : Int := if hdOk h = true then h / 65536 else 0
theorem hdSl_bd {h : Int} (h0 : 0 ≤ h) : (0 ≤ hdSl h ∧ hdSl h ≤ 65535) ∧ 0 ≤ hdGe h ∧ hdGe h ≤ 65535 := by
 unfold hdSl hdGe hdOk
 by_cases e : h / 4294967296 = 0 ∧ h / 65536 ≠ 0
 ·simp only [e, ne_eq, not_false_eq_true, and_self, decide_true, if_true]; omega
 ·simp [e]
theorem c_wHandleG {w : Int} (h0 : 0 ≤ w) (h1 : w < 18446744073709551616) : s_cr [.int .u64 w] K σ = K (.tuple #[.agg #[.int .i64 (hdSl w), .int .i64 (hdGe w)], .bool (hdOk w)]) σ := by
 by_cases e1 : w / 4294967296 = 0
 ·by_cases e2 : w / 65536 = 0
  ·have hO : hdOk w = false := decide_eq_false (by simp [e2])
   have b : ∀ (K : Value → Prop), xF (fBuild [(0, 1), (1, 1)] [.int .i64 0, .int .i64 0] []) [] K = K (.agg #[.int .i64 0, .int .i64 0]) := fun K => nr rfl
   simp only [s_cr, w_cr, w_cr_j1, w_cr_j1b, gAlloc_s, xCs, ruS, Nat.reduceAdd, reduceIte, Int.reduceLT, Int.reduceLE, Int.reduceEq, Int.reduceNeg, Int.reduceAdd, Int.reduceSub]
   rw [shr32 h0, e1]
   simp only [ruS, Nat.reduceAdd, reduceIte, Int.reduceLT, Int.reduceLE, Int.reduceEq, Int.reduceNeg, Int.reduceAdd, Int.reduceSub]
   rw [shr16 h0]
   simp only [e2, b, ruS, ruL, ruX, Nat.reduceAdd, reduceIte, Int.reduceLT, Int.reduceLE, Int.reduceEq, Int.reduceNeg, Int.reduceAdd, Int.reduceSub, Nat.reduceLeDiff]
   unfold hdSl hdGe; rw [hO]; rfl
  ·have hO : hdOk w = true := decide_eq_true ⟨e1, e2⟩
   rw [c_wHandle h0 (by omega) (by omega)]
   unfold hdSl hdGe; rw [hO]; rfl
 ·have hO : hdOk w = false := decide_eq_false (by simp [e1])
  have b : ∀ (K : Value → Prop), xF (fBuild [(0, 1), (1, 1)] [.int .i64 0, .int .i64 0] []) [] K = K (.agg #[.int .i64 0, .int .i64 0]) := fun K => nr rfl
  simp only [s_cr, w_cr, w_cr_j1, w_cr_j1b, gAlloc_s, xCs, ruS, Nat.reduceAdd, reduceIte, Int.reduceLT, Int.reduceLE, Int.reduceEq, Int.reduceNeg, Int.reduceAdd, Int.reduceSub]
  rw [shr32 h0]
  simp only [e1, b, ne_eq, not_false_eq_true, ruS, ruL, ruX, Nat.reduceAdd, reduceIte, Int.reduceLT, Int.reduceLE, Int.reduceEq, Int.reduceNeg, Int.reduceAdd, Int.reduceSub, Nat.reduceLeDiff]
  unfold hdSl hdGe; rw [hO]; rfl
structure Hl where
 slot : Int
 w : Int
 size : Int
 i : Int
 cell : Int
 read : Bool
 won : Bool
def Hl.l (h : Hl) : List Value := [.int .i64 h.slot, .int .u64 h.w, .int .i64 h.size, .int .i64 h.i, .int .u64 h.cell, .bool h.read, .bool h.won]
def Hl.new (s w z : Int) : Hl := ⟨s, w, z, 0, 0, false, false⟩
def Hl.a (h : Hl) : Int := slA h.w + 1 + h.i
def Hl.next (C : Cf) (h : Hl) : Int := if C.G ≤ slG h.w then putSlot 3 0 (slG h.w) 0 else putSlot 0 0 (slG h.w + 1) 0
def Hl.step (C : Cf) (who : Int) (A : Ar) (h : Hl) : Bool × Hl × Ar :=
 if h.size ≤ h.i then (true, { h with won := decide (A.w (C.slot h.slot) = h.w) }, (A.by who).cas (C.slot h.slot) h.w (h.next C))
 else if h.read = false then
  if ceF (A.w h.a) = true ∧ ceN (A.w h.a) = slV h.w then (false, { h with cell := A.w h.a, read := false, i := h.i + 1 }, (A.by who).load h.a)
  else (false, { h with cell := A.w h.a, read := true }, (A.by who).load h.a)
 else if A.w h.a = h.cell then (false, { h with read := false, i := h.i + 1 }, (A.by who).cas h.a h.cell (putCell (ceV h.cell) true (slV h.w)))
 else (false, { h with read := false }, (A.by who).cas h.a h.cell (putCell (ceV h.cell) true (slV h.w)))
structure Hl.fit (C : Cf) (h : Hl) : Prop where
 slot : 0 ≤ h.slot ∧ h.slot < C.S
 w : 0 ≤ h.w ∧ h.w < 18446744073709551616
 cell : 0 ≤ h.cell ∧ h.cell < 18446744073709551616
 size : h.size ≤ 65535
 i : 0 ≤ h.i ∧ h.i ≤ 65536
 at' : h.i < h.size → slA h.w + 1 + h.i < C.len
theorem c_NewHelp {s w z : Int} (hk : ∀ id τ, σ.get id = none → τ.get id = some ⟨(Hl.new s w z).l, true⟩ → Ext σ τ → K (.pointer (some ⟨id, 0, none⟩)) τ) : s_au [.int .i64 s, .int .u64 w, .int .i64 z] K σ := by
 have b : ∀ K : Value → Prop, xF (fBuild [(0, 1), (1, 1), (2, 1), (3, 1), (4, 1), (5, 1), (6, 1)] [.int .i64 0, .int .u64 0, .int .i64 0, .int .i64 0, .int .u64 0, .bool false, .bool false] [0, 1, 2]) [.int .i64 s, .int .u64 w, .int .i64 z] K =
   K (.agg #[.int .i64 s, .int .u64 w, .int .i64 z, .int .i64 0, .int .u64 0, .bool false, .bool false]) := fun K => nr rfl
 simp only [s_au, w_au, b, ruS, Nat.reduceAdd, reduceIte, Int.reduceLT, Int.reduceLE, Int.reduceEq, Int.reduceNeg, Int.reduceAdd, Int.reduceSub]
 exact hBox_i (cs := [_, _, _, _, _, _, _]) rfl hk
theorem c_Help_Step (hN : N.ok) (hC : C.ok) (hA : isA N A σ) {p : Nat} {pre post : List Value} {t : Hl} (hp : σ.get p = some ⟨pre ++ t.l ++ post, true⟩) (hd : p ∉ N.l)
  (hw : ∀ i, 0 ≤ A.w i ∧ A.w i < 18446744073709551616) (hn : C.len ≤ A.n) (hf : t.fit C)
  (hk : ∀ τ, isA N (t.step C who A).2.2 τ → τ.get p = some ⟨pre ++ (t.step C who A).2.1.l ++ post, true⟩ → Keep (p :: N.l) σ τ → K (.bool (t.step C who A).1) τ) :
  s_ar [.pointer (some ⟨p, pre.length, none⟩), N.env C who] K σ := by
 rw [hA.obj hp]
 have hl := len_bd hC
 have hT := hC.T
 have hS := hC.S
 have hCC := hC.C
 obtain ⟨f1, f2, f3, f4, f5, f6⟩ := hf
 have hch : C.chunk C.C = 6 + C.T + 2 * C.S + 3 * C.C := rfl
 have hsb : 0 ≤ C.slot t.slot ∧ C.slot t.slot < A.n := by unfold Cf.slot; omega
 have hA1 := slA_bd t.w
 have hG1 := slG_bd t.w
 have hV1 := slV_bd t.w
 have g4 : ∀ (k : Nat) (x y z w x' y' z' w' : Int), gStore 4 [.pointer (some ⟨k, 0, some 0⟩), .agg #[.int .i64 x, .int .i64 y, .int .i64 z, .int .i64 w]] [.int .i64 x', .int .i64 y', .int .i64 z', .int .i64 w'] = some [.int .i64 x, .int .i64 y, .int .i64 z, .int .i64 w] := fun _ _ _ _ _ _ _ _ _ => rfl
 have g3 : ∀ (k : Nat) (x z : Int) (y : Bool) (x' z' : Int) (y' : Bool), gStore 3 [.pointer (some ⟨k, 0, some 0⟩), .agg #[.int .i64 x, .bool y, .int .i64 z]] [.int .i64 x', .bool y', .int .i64 z'] = some [.int .i64 x, .bool y, .int .i64 z] := fun _ _ _ _ _ _ _ => rfl
 have b02 : ∀ (x y : Int) (K : Value → Prop), xF (fBuild [(0, 1), (1, 1), (2, 1), (3, 1)] [.int .i64 0, .int .i64 0, .int .i64 0, .int .i64 0] [0, 2]) [.int .i64 x, .int .i64 y] K = K (.agg #[.int .i64 x, .int .i64 0, .int .i64 y, .int .i64 0]) := fun _ _ K => nr rfl
 have b3 : ∀ (x y : Int) (z : Bool) (K : Value → Prop), xF (fBuild [(0, 1), (1, 1), (2, 1)] [.int .i64 0, .bool false, .int .i64 0] [0, 1, 2]) [.int .i64 x, .bool z, .int .i64 y] K = K (.agg #[.int .i64 x, .bool z, .int .i64 y]) := fun _ _ _ K => nr rfl
 simp only [s_ar, w_ar, w_ar_j1, w_ar_j1b, Hl.l, ldO hd, ruS, ruL, ruE, Nat.reduceAdd, reduceIte, Int.reduceLT, Int.reduceLE, Int.reduceEq, Int.reduceNeg, Int.reduceAdd, Int.reduceSub, Nat.reduceLeDiff, Nat.reduceLT]
 rw [c_wSlot f2.1 f2.2]
 simp only [g4, ldO hd, ruS, ruL, ruE, Nat.reduceAdd, reduceIte, Int.reduceLT, Int.reduceLE, Int.reduceEq, Int.reduceNeg, Int.reduceAdd, Int.reduceSub, Nat.reduceLeDiff, Nat.reduceLT]
 rw [IntWalk.i64_in (slA t.w + 1) (by omega), IntWalk.i64_in (slA t.w + 1 + t.i) (by omega), c_wCell f3.1 f3.2]
 simp only [g3, ldO hd, ruS, ruL, ruE, Nat.reduceAdd, reduceIte, Int.reduceLT, Int.reduceLE, Int.reduceEq, Int.reduceNeg, Int.reduceAdd, Int.reduceSub, Nat.reduceLeDiff, Nat.reduceLT]
 unfold Hl.step at hk
 by_cases c0 : t.size ≤ t.i
 ·rw [if_pos c0] at hk
  simp only [c0, b02, g4, ruS, ruL, ruE, Nat.reduceAdd, reduceIte, Int.reduceLT, Int.reduceLE, Int.reduceEq, Int.reduceNeg, Int.reduceAdd, Int.reduceSub, Nat.reduceLeDiff, Nat.reduceLT]
  rw [IntWalk.i64_in (slG t.w + 1) (by omega)]
  have e : ∀ v, t.next C = v → (K (.bool true) (putA N ((A.by who).cas (C.slot t.slot) t.w v) (σ.set p ⟨pre ++ ({ t with won := decide (A.w (C.slot t.slot) = t.w) } : Hl).l ++ post, true⟩))) := by
   rintro v rfl; exact behind hN hd hk
  by_cases q : C.G ≤ slG t.w
  ·have := e _ (if_pos q)
   simp only [q, b02, g4, w_ar_j2, w_ar_j2b, ldO hd, ruS, ruL, ruE, Nat.reduceAdd, reduceIte, Int.reduceLT, Int.reduceLE, Int.reduceEq, Int.reduceNeg, Int.reduceAdd, Int.reduceSub, Nat.reduceLeDiff, Nat.reduceLT]
   rw [c_Slot hC f1.1 (by omega)]
   simp only [ldO hd, sub4, ruS, ruL, ruE, Nat.reduceAdd, reduceIte, Int.reduceLT, Int.reduceLE, Int.reduceEq, Int.reduceNeg, Int.reduceAdd, Int.reduceSub, Nat.reduceLeDiff, Nat.reduceLT]
   rw [c_PutSlot, c_Cas hN hsb.1 hsb.2]
   simp only [stOb hd, ruS, ruL, ruE, Nat.reduceAdd, reduceIte, Int.reduceLT, Int.reduceLE, Int.reduceEq, Int.reduceNeg, Int.reduceAdd, Int.reduceSub, Nat.reduceLeDiff, Nat.reduceLT]
   exact this
  ·have := e _ (if_neg q)
   simp only [q, w_ar_j2, w_ar_j2b, ldO hd, ruS, ruL, ruE, Nat.reduceAdd, reduceIte, Int.reduceLT, Int.reduceLE, Int.reduceEq, Int.reduceNeg, Int.reduceAdd, Int.reduceSub, Nat.reduceLeDiff, Nat.reduceLT]
   rw [c_Slot hC f1.1 (by omega)]
   simp only [ldO hd, sub4, ruS, ruL, ruE, Nat.reduceAdd, reduceIte, Int.reduceLT, Int.reduceLE, Int.reduceEq, Int.reduceNeg, Int.reduceAdd, Int.reduceSub, Nat.reduceLeDiff, Nat.reduceLT]
   rw [c_PutSlot, c_Cas hN hsb.1 hsb.2]
   simp only [stOb hd, ruS, ruL, ruE, Nat.reduceAdd, reduceIte, Int.reduceLT, Int.reduceLE, Int.reduceEq, Int.reduceNeg, Int.reduceAdd, Int.reduceSub, Nat.reduceLeDiff, Nat.reduceLT]
   exact this
 ·rw [if_neg c0] at hk
  have hat := f6 (by omega)
  have hwa := hw (slA t.w + 1 + t.i)
  cases c1 : t.read with
  | false =>
   rw [if_pos c1] at hk
   simp only [c0, c1, ldO hd, ruS, ruL, ruE, Nat.reduceAdd, reduceIte, Int.reduceLT, Int.reduceLE, Int.reduceEq, Int.reduceNeg, Int.reduceAdd, Int.reduceSub, Nat.reduceLeDiff, Nat.reduceLT]
   rw [c_Load hN (by omega) (by omega)]
   simp only [stOi hd, ldO hd, ruS, ruL, ruE, Nat.reduceAdd, reduceIte, Int.reduceLT, Int.reduceLE, Int.reduceEq, Int.reduceNeg, Int.reduceAdd, Int.reduceSub, Nat.reduceLeDiff, Nat.reduceLT]
   rw [c_wCell hwa.1 hwa.2]
   simp only [g3, ruS, ruL, ruE, Nat.reduceAdd, reduceIte, Int.reduceLT, Int.reduceLE, Int.reduceEq, Int.reduceNeg, Int.reduceAdd, Int.reduceSub, Nat.reduceLeDiff, Nat.reduceLT]
   change ∀ τ, _ at hk
   by_cases q1 : ceF (A.w t.a) = true
   ·by_cases q2 : ceN (A.w t.a) = slV t.w
    ·rw [if_pos ⟨q1, q2⟩] at hk
     have q1' : ceF (A.w (slA t.w + 1 + t.i)) = true := q1
     have q2' : ceN (A.w (slA t.w + 1 + t.i)) = slV t.w := q2
     simp only [q1', q2', ne_eq, not_true_eq_false, w_ar_j1, w_ar_j1b, w_ar_j3, w_ar_j3b, stOb hd, stOi hd, ldO hd, ruS, ruL, ruE, Nat.reduceAdd, reduceIte, Int.reduceLT, Int.reduceLE, Int.reduceEq, Int.reduceNeg, Int.reduceAdd, Int.reduceSub, Nat.reduceLeDiff, Nat.reduceLT]
     rw [IntWalk.i64_in (t.i + 1) (by omega)]
     exact behind hN hd hk
    ·rw [if_neg (fun h => q2 h.2)] at hk
     have q1' : ceF (A.w (slA t.w + 1 + t.i)) = true := q1
     have q2' : ¬ ceN (A.w (slA t.w + 1 + t.i)) = slV t.w := q2
     simp only [q1', q2', ne_eq, not_false_eq_true, w_ar_j1, w_ar_j1b, w_ar_j3, w_ar_j3b, stOb hd, stOi hd, ldO hd, ruS, ruL, ruE, Nat.reduceAdd, reduceIte, Int.reduceLT, Int.reduceLE, Int.reduceEq, Int.reduceNeg, Int.reduceAdd, Int.reduceSub, Nat.reduceLeDiff, Nat.reduceLT]
     exact behind hN hd hk
   ·rw [if_neg (fun h => q1 h.1)] at hk
    have q1' : ceF (A.w (slA t.w + 1 + t.i)) = false := by simpa [Hl.a] using q1
    simp only [q1', w_ar_j1, w_ar_j1b, w_ar_j3, w_ar_j3b, stOb hd, stOi hd, ldO hd, ruS, ruL, ruE, Nat.reduceAdd, reduceIte, Int.reduceLT, Int.reduceLE, Int.reduceEq, Int.reduceNeg, Int.reduceAdd, Int.reduceSub, Nat.reduceLeDiff, Nat.reduceLT]
    exact behind hN hd hk
  | true =>
   rw [if_neg (by rw [c1]; decide)] at hk
   simp only [c0, c1, stOb hd, ldO hd, b3, ruS, ruL, ruE, Nat.reduceAdd, reduceIte, Int.reduceLT, Int.reduceLE, Int.reduceEq, Int.reduceNeg, Int.reduceAdd, Int.reduceSub, Nat.reduceLeDiff, Nat.reduceLT]
   rw [c_PutCell, c_Cas hN (by omega) (by omega)]
   by_cases q : A.w t.a = t.cell
   ·rw [if_pos q] at hk
    have q' : A.w (slA t.w + 1 + t.i) = t.cell := q
    simp only [q', w_ar_j1, w_ar_j1b, stOi hd, ldO hd, ruS, ruL, ruE, Nat.reduceAdd, reduceIte, Int.reduceLT, Int.reduceLE, Int.reduceEq, Int.reduceNeg, Int.reduceAdd, Int.reduceSub, Nat.reduceLeDiff, Nat.reduceLT]
    rw [IntWalk.i64_in (t.i + 1) (by omega)]
    exact behind hN hd hk
   ·rw [if_neg q] at hk
    have q' : ¬ A.w (slA t.w + 1 + t.i) = t.cell := q
    simp only [q', w_ar_j1, w_ar_j1b, ruS, ruL, ruE, Nat.reduceAdd, reduceIte, Int.reduceLT, Int.reduceLE, Int.reduceEq, Int.reduceNeg, Int.reduceAdd, Int.reduceSub, Nat.reduceLeDiff, Nat.reduceLT]
    exact behind hN hd hk
end Go.Fl
namespace Go.Fl
open Go
set_option linter.unusedVariables false
set_option linter.unusedSimpArgs false
variable {N : Nm} {A B : Ar} {σ : Mem} {K : Value → Mem → Prop} {C : Cf} {who : Int}
def ofC (C : Cf) (a : Int) : Int := if C.base 0 ≤ a ∧ a < C.len then (a - C.base 0) / C.W else -1
theorem c_Of (hC : C.ok) {a : Int} (ha : a < 9223372036854775808) : s_bm [C.v, .int .i64 a] K σ = K (.int .i64 (ofC C a)) σ := by
 have hW := hC.W
 have hl := len_bd hC
 have hT := hC.T
 have hS := hC.S
 have hCC := hC.C
 have hb : C.base 0 = 6 + C.T + 2 * C.S + 3 * C.C := by unfold Cf.base; omega
 simp only [s_bm, w_bm, w_bm_j1, w_bm_j1b, c_Base hC (Int.le_refl 0) (by decide : (0 : Int) ≤ 65536), c_lLen hC, ruS, ruL, ruE, Nat.reduceAdd, reduceIte, Int.reduceLT, Int.reduceLE, Int.reduceEq, Int.reduceNeg, Int.reduceAdd, Int.reduceSub, Nat.reduceLeDiff, Nat.reduceLT]
 unfold ofC
 by_cases c1 : a < C.base 0
 ·simp only [c1, ruS, ruL, ruE, Nat.reduceAdd, reduceIte, Int.reduceLT, Int.reduceLE, Int.reduceEq, Int.reduceNeg, Int.reduceAdd, Int.reduceSub, Nat.reduceLeDiff, Nat.reduceLT]
  rw [if_neg (by omega)]
 ·by_cases c2 : C.len ≤ a
  ·simp only [c1, c2, ruS, ruL, ruE, Nat.reduceAdd, reduceIte, Int.reduceLT, Int.reduceLE, Int.reduceEq, Int.reduceNeg, Int.reduceAdd, Int.reduceSub, Nat.reduceLeDiff, Nat.reduceLT]
   rw [if_neg (by omega)]
  ·simp only [c1, c2, xQuo (show C.W ≠ 0 by omega), ruS, ruL, ruE, Nat.reduceAdd, reduceIte, Int.reduceLT, Int.reduceLE, Int.reduceEq, Int.reduceNeg, Int.reduceAdd, Int.reduceSub, Nat.reduceLeDiff, Nat.reduceLT]
   rw [if_pos (by omega), IntWalk.i64_in (a - C.base 0) (by omega), Int.tdiv_eq_ediv_of_nonneg (by omega)]
   have := Int.ediv_le_self C.W (show 0 ≤ a - C.base 0 by omega)
   have := Int.ediv_nonneg (show 0 ≤ a - C.base 0 by omega) (show 0 ≤ C.W by omega)
   rw [IntWalk.i64_in _ (by omega)]
end Go.Fl
namespace Go.Fl
open Go
set_option linter.unusedVariables false
set_option linter.unusedSimpArgs false
variable {N : Nm} {A B : Ar} {σ : Mem} {K : Value → Mem → Prop} {C : Cf} {who : Int}
theorem w0_open (hC : C.ok) {c : Int} (h0 : 0 ≤ c) (h1 : c ≤ 3) : C.w0 (2 + c) = 0 := by
 have := hC.T; have := hC.S
 unfold Cf.w0 Cf.fr Cf.slot
 rw [if_neg (by omega), if_neg (by omega), if_neg (by omega)]
theorem w0_chunk (hC : C.ok) {j : Int} (h0 : 0 ≤ j) : C.w0 (C.chunk j) = 0 := by
 have := hC.T; have := hC.S
 unfold Cf.w0 Cf.fr Cf.slot Cf.chunk
 rw [if_neg (by omega), if_neg (by omega), if_neg (by omega)]
structure Pa (C : Cf) (A : Ar) (b : Int) : Prop where
 ok : A.ok b
 n : C.len ≤ A.n
 op : ∀ c, 0 ≤ c → c ≤ 3 → A.w (2 + c) ≤ C.C
theorem Pa.mono {b b' : Int} (h : Pa C A b) (hb : b ≤ b') : Pa C A b' := ⟨⟨h.ok.w, ⟨h.ok.s.1, by have := h.ok.s.2; omega⟩, h.ok.t⟩, h.n, h.op⟩
structure Go1 (C : Cf) (A : Ar) (p : Pl) (r : Bool × Pl × Ar) (a : Int) : Prop where
 wh : a = 2 + p.cls ∨ a = C.chunk p.at'
 la : r.2.2.la = a
 s : r.2.2.s = A.s + 1
 n : r.2.2.n = A.n
 w : ∀ i, i ≠ a → r.2.2.w i = A.w i
 cls : r.2.1.cls = p.cls
theorem aw {w : Int → Int} {a v i : Int} {c : Prop} [Decidable c] (h : i ≠ a) : (if c then upd w a v else w) i = w i := by
 split
 ·exact upd_ne _ _ h
 ·rfl
theorem Pl.go (hC : C.ok) {b : Int} (hb : b < 4611686018427387904) (h : Pa C A b) {p : Pl} (hf : p.fit C) :
  Pa C (p.step C who A).2.2 (b + 1) ∧ ((p.step C who A).1 = false → (p.step C who A).2.1.fit C) ∧ ∃ a, Go1 C A p (p.step C who A) a := by
 obtain ⟨ok, n, op⟩ := h
 obtain ⟨f1, f2, f3, f4⟩ := hf
 have hC3 := hC.C
 have hT := hC.T
 have hS := hC.S
 have hcb := chunk_bd hC f3.1 f3.2 n
 have hwo := ok.w (2 + p.cls)
 have hwc := ok.w (C.chunk p.at')
 have hoo := op p.cls f1.1 f1.2
 have hwr : IntKind.i64.wrap (A.w (2 + p.cls)) = A.w (2 + p.cls) := IntWalk.i64_in _ (by omega)
 have hne : ∀ c, 0 ≤ c → c ≤ 3 → 2 + c ≠ C.chunk p.at' := fun c c0 c3 => by unfold Cf.chunk; omega
 have L : ∀ a, Pa C ((A.by who).load a) (b + 1) := fun a =>
  ⟨(aft_load ok (by omega)).ok (by decide) ok ok.w, n, op⟩
 have Cs : ∀ o v, 0 ≤ v ∧ v < 18446744073709551616 → Pa C ((A.by who).cas (C.chunk p.at') o v) (b + 1) := by
  intro o v hv
  have a1 := aft_cas (who := who) (a := C.chunk p.at') (o := o) (v := v) ok (by omega)
  refine ⟨a1.ok (by decide) ok (fun i => ?_), by rw [a1.n]; exact n, fun c c0 c3 => ?_⟩
  ·split
   ·exact upd_cases (P := fun x => 0 ≤ x ∧ x < 18446744073709551616) hv (ok.w i)
   ·exact ok.w i
  ·rw [a1.w, aw (hne c c0 c3)]; exact op c c0 c3
 have nx : ∀ q : Pl, 0 ≤ q.cls ∧ q.cls ≤ 3 → 0 ≤ q.opn ∧ q.opn < 18446744073709551616 → 0 ≤ q.at' → 0 ≤ q.w ∧ q.w < 18446744073709551616 → (q.next C).1 = false → (q.next C).2.fit C := by
  intro q a b c d e
  have e' : ¬ C.C ≤ q.at' + 1 := of_decide_eq_false e
  exact ⟨a, b, ⟨by show 0 ≤ q.at' + 1; omega, by show q.at' + 1 < C.C; omega⟩, d⟩
 unfold Pl.step
 by_cases c0 : p.pc = 0
 ·rw [if_pos c0]
  dsimp only
  rw [hwr]
  refine ⟨L _, fun _ => ?_, 2 + p.cls, ⟨.inl rfl, rfl, (aft_load (who := who) (a := 2 + p.cls) ok (by omega)).s, rfl, fun _ _ => rfl, ?_⟩⟩
  ·split
   ·exact ⟨f1, hwo, ⟨Int.le_refl 0, by show (0 : Int) < C.C; omega⟩, f4⟩
   ·exact ⟨f1, hwo, ⟨by dsimp only; omega, by dsimp only; omega⟩, f4⟩
  ·split <;> rfl
 rw [if_neg c0]
 by_cases c1 : p.pc = 1
 ·rw [if_pos c1]
  refine ⟨L _, fun _ => ?_, C.chunk p.at', ⟨.inr rfl, rfl, (aft_load (who := who) (a := C.chunk p.at') ok (by omega)).s, rfl, fun _ _ => rfl, ?_⟩⟩
  ·dsimp only
   split
   ·exact ⟨f1, f2, ⟨Int.le_refl 0, by show (0 : Int) < C.C; omega⟩, hwc⟩
   ·exact ⟨f1, f2, f3, hwc⟩
  ·dsimp only; split <;> rfl
 rw [if_neg c1]
 by_cases c2 : p.pc = 2
 ·rw [if_pos c2]
  have a1 := fun v => aft_cas (who := who) (a := C.chunk p.at') (o := p.w) (v := v) ok (by omega)
  refine ⟨Cs _ _ (putChunk_in _ _ _ _), fun _ => ?_, C.chunk p.at', ⟨.inr rfl, cas_la, (a1 _).s, (a1 _).n, fun i hi => by rw [(a1 _).w, aw hi], ?_⟩⟩
  ·dsimp only; split <;> exact ⟨f1, f2, f3, f4⟩
  ·dsimp only; split <;> rfl
 rw [if_neg c2]
 by_cases c3 : p.pc = 3
 ·rw [if_pos c3]
  dsimp only
  split
  ·exact ⟨L _, nx _ f1 f2 f3.1 hwc, C.chunk p.at', ⟨.inr rfl, rfl, (aft_load (who := who) (a := C.chunk p.at') ok (by omega)).s, rfl, fun _ _ => rfl, rfl⟩⟩
  ·exact ⟨L _, fun _ => ⟨f1, f2, f3, hwc⟩, C.chunk p.at', ⟨.inr rfl, rfl, (aft_load (who := who) (a := C.chunk p.at') ok (by omega)).s, rfl, fun _ _ => rfl, rfl⟩⟩
 rw [if_neg c3]
 by_cases c4 : p.pc = 4
 ·rw [if_pos c4]
  have a1 := fun v => aft_cas (who := who) (a := C.chunk p.at') (o := p.w) (v := v) ok (by omega)
  split
  ·exact ⟨Cs _ _ (putChunk_in _ _ _ _), fun _ => ⟨f1, f2, f3, f4⟩, C.chunk p.at', ⟨.inr rfl, cas_la, (a1 _).s, (a1 _).n, fun i hi => by rw [(a1 _).w, aw hi], rfl⟩⟩
  ·exact ⟨Cs _ _ (putChunk_in _ _ _ _), nx _ f1 f2 f3.1 f4, C.chunk p.at', ⟨.inr rfl, cas_la, (a1 _).s, (a1 _).n, fun i hi => by rw [(a1 _).w, aw hi], rfl⟩⟩
 rw [if_neg c4]
 by_cases c5 : p.pc = 5
 ·rw [if_pos c5]
  have a1 := fun v => aft_cas (who := who) (a := 2 + p.cls) (o := p.opn) (v := v) ok (by omega)
  refine ⟨⟨(a1 _).ok (by decide) ok (fun i => ?_), by rw [(a1 _).n]; exact n, fun c c0 c3 => ?_⟩, fun _ => ?_, 2 + p.cls, ⟨.inl rfl, cas_la, (a1 _).s, (a1 _).n, fun i hi => by rw [(a1 _).w, aw hi], ?_⟩⟩
  ·split
   ·exact upd_cases (P := fun x => 0 ≤ x ∧ x < 18446744073709551616) (by omega) (ok.w i)
   ·exact ok.w i
  ·rw [(a1 _).w]
   split
   ·exact upd_cases (P := fun x => x ≤ C.C) (by omega) (op c c0 c3)
   ·exact op c c0 c3
  ·dsimp only; split <;> exact ⟨f1, f2, f3, f4⟩
  ·dsimp only; split <;> rfl
 ·rw [if_neg c5]
  have a1 := fun v => aft_cas (who := who) (a := C.chunk p.at') (o := p.fresh) (v := v) ok (by omega)
  exact ⟨Cs _ _ (putChunk_in _ _ _ _), fun _ => ⟨f1, f2, f3, f4⟩, C.chunk p.at', ⟨.inr rfl, cas_la, (a1 _).s, (a1 _).n, fun i hi => by rw [(a1 _).w, aw hi], rfl⟩⟩
theorem Pl.new_fit (hC : C.ok) {c : Int} (h0 : 0 ≤ c) (h1 : c ≤ 3) : (Pl.new c).fit C := by
 have := hC.C
 exact ⟨⟨h0, h1⟩, ⟨Int.le_refl 0, by show (0 : Int) < 18446744073709551616; decide⟩, ⟨Int.le_refl 0, by show (0 : Int) < C.C; omega⟩, ⟨Int.le_refl 0, by show (0 : Int) < 18446744073709551616; decide⟩⟩
end Go.Fl
namespace Go.Fl
open Go
set_option linter.unusedVariables false
set_option linter.unusedSimpArgs false
variable {N : Nm} {A B : Ar} {σ : Mem} {K : Value → Mem → Prop} {C : Cf} {who : Int}
theorem chunk_inj {i j : Int} (h : C.chunk i = C.chunk j) : i = j := by unfold Cf.chunk at h; omega
theorem chunk_ne (hC : C.ok) {i c : Int} (h0 : 0 ≤ i) (h1 : c ≤ 3) : C.chunk i ≠ 2 + c := by have := hC.T; have := hC.S; unfold Cf.chunk; omega
section
variable {p : Pl}
theorem Pl.s0a (h : p.pc = 0) (hn : IntKind.i64.wrap (A.w (2 + p.cls)) - 1 < 0) : p.step C who A = (false, { p with opn := A.w (2 + p.cls), at' := 0, pc := 3 }, (A.by who).load (2 + p.cls)) := by
 unfold Pl.step; rw [if_pos h]; dsimp only; rw [if_pos hn]
theorem Pl.s0b (h : p.pc = 0) (hn : ¬ IntKind.i64.wrap (A.w (2 + p.cls)) - 1 < 0) : p.step C who A = (false, { p with opn := A.w (2 + p.cls), at' := IntKind.i64.wrap (A.w (2 + p.cls)) - 1, pc := 1 }, (A.by who).load (2 + p.cls)) := by
 unfold Pl.step; rw [if_pos h]; dsimp only; rw [if_neg hn]
theorem Pl.s1a (h : p.pc = 1) (hn : chS (A.w (C.chunk p.at')) ≠ 1 ∨ chC (A.w (C.chunk p.at')) ≠ p.cls ∨ C.W < chU (A.w (C.chunk p.at')) + roomOf p.cls) :
  p.step C who A = (false, { p with w := A.w (C.chunk p.at'), at' := 0, pc := 3 }, (A.by who).load (C.chunk p.at')) := by
 unfold Pl.step; rw [if_neg (by omega), if_pos h]; dsimp only; rw [if_pos hn]
theorem Pl.s1b (h : p.pc = 1) (hn : ¬ (chS (A.w (C.chunk p.at')) ≠ 1 ∨ chC (A.w (C.chunk p.at')) ≠ p.cls ∨ C.W < chU (A.w (C.chunk p.at')) + roomOf p.cls)) :
  p.step C who A = (false, { p with w := A.w (C.chunk p.at'), pc := 2 }, (A.by who).load (C.chunk p.at')) := by
 unfold Pl.step; rw [if_neg (by omega), if_pos h]; dsimp only; rw [if_neg hn]
theorem Pl.s2a (h : p.pc = 2) (hn : A.w (C.chunk p.at') = p.w) :
  p.step C who A = (true, { p with pc := 0, sa := C.base p.at' + chU p.w, sc := p.at', ok := true }, (A.by who).cas (C.chunk p.at') p.w (putChunk (chS p.w) (chC p.w) (chU p.w + roomOf p.cls) (chN p.w))) := by
 unfold Pl.step; rw [if_neg (by omega), if_neg (by omega), if_pos h]; dsimp only; rw [if_pos hn, decide_eq_true hn]
theorem Pl.s3a (h : p.pc = 3) (hn : chS (A.w (C.chunk p.at')) ≠ 0) :
  p.step C who A = (decide (C.C ≤ p.at' + 1), { p with w := A.w (C.chunk p.at'), at' := p.at' + 1, pc := 3 }, (A.by who).load (C.chunk p.at')) := by
 unfold Pl.step; rw [if_neg (by omega), if_neg (by omega), if_neg (by omega), if_pos h]; dsimp only; rw [if_pos hn]; rfl
theorem Pl.s3b (h : p.pc = 3) (hn : chS (A.w (C.chunk p.at')) = 0) :
  p.step C who A = (false, { p with w := A.w (C.chunk p.at'), pc := 4 }, (A.by who).load (C.chunk p.at')) := by
 unfold Pl.step; rw [if_neg (by omega), if_neg (by omega), if_neg (by omega), if_pos h]; dsimp only; rw [if_neg (fun q => q hn)]
theorem Pl.s4a (h : p.pc = 4) (hn : A.w (C.chunk p.at') = p.w) :
  p.step C who A = (false, { p with pc := 5 }, (A.by who).cas (C.chunk p.at') p.w p.fresh) := by
 unfold Pl.step; rw [if_neg (by omega), if_neg (by omega), if_neg (by omega), if_neg (by omega), if_pos h, if_pos hn]
theorem Pl.s5a (h : p.pc = 5) (hn : A.w (2 + p.cls) = p.opn) :
  p.step C who A = (false, { p with pc := 0 }, (A.by who).cas (2 + p.cls) p.opn (p.at' + 1)) := by
 unfold Pl.step; rw [if_neg (by omega), if_neg (by omega), if_neg (by omega), if_neg (by omega), if_neg (by omega), if_pos h, if_pos hn]
end
theorem stFl {P Q : Prop} (q : Q) : if (false : Bool) = true then P else Q := by rw [if_neg Bool.false_ne_true]; exact q
theorem stTr {P Q : Prop} (q : P) : if (true : Bool) = true then P else Q := by rw [if_pos rfl]; exact q
end Go.Fl
