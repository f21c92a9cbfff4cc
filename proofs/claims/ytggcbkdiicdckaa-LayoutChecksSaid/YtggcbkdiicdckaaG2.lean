/- What each Go function that the law reaches does, read off its text by a program; that this is the function; the same for the closed evaluator. No condition. -/
import Derived.Test.YtggcbkdiicdckaaG1
namespace Go.Fl
open Go Go.Proofs
set_option linter.unusedVariables false
set_option maxRecDepth 10000000

/-! ### /law06.awake -/
def w_law06_awake_r (K : Value → Mem → Prop) (σ : Mem) : Prop :=
xF fMove [(.bool false)] fun v0 =>
s_law04_Arena [(.int .i64 2), (.int .i64 2), (.int .i64 1), (.int .i64 20)] (fun v13 σ =>
xF fMove [v13] fun v12 =>
xF (fExt 0) [v12] fun v14 =>
xF (fExt 1) [v12] fun v15 =>
xC (gStore 9 [(locP 1), v14] [(.int .i64 0), (.int .i64 0), (.int .i64 0), (.int .i64 0), (.int .i64 0), (.int .i64 0), (.int .i64 0), (.pointer none), (.int .i64 0)]) fun c1 =>
xF fMove [v15] fun v2 =>
xF fMove [v2] fun v16 =>
xF (fUn .not) [v16] fun v17 =>
xIf v17
 (xF fMove [(.bool false)] fun v0 =>
K v0 σ)
 (xO (gLoad 9 true [(locP 1)] c1) fun v19 =>
s_law06_take [v19] (fun v20 σ =>
xF fMove [v20] fun v18 =>
xF (fExt 0) [v18] fun v21 =>
xF (fExt 1) [v18] fun v22 =>
xF (fExt 2) [v18] fun v23 =>
xF fMove [v21] fun v3 =>
xF fMove [v22] fun v4 =>
xF fMove [v23] fun v5 =>
xO (gLoad 9 true [(locP 1)] c1) fun v25 =>
s_law06_take [v25] (fun v26 σ =>
xF fMove [v26] fun v24 =>
xF (fExt 0) [v24] fun v27 =>
xF (fExt 1) [v24] fun v28 =>
xF (fExt 2) [v24] fun v29 =>
xF fMove [v27] fun v6 =>
xF fMove [v28] fun v7 =>
xF fMove [v29] fun v8 =>
xO (gLoad 9 true [(locP 1)] c1) fun v31 =>
s_law06_take [v31] (fun v32 σ =>
xF fMove [v32] fun v30 =>
xF (fExt 0) [v30] fun v33 =>
xF (fExt 1) [v30] fun v34 =>
xF (fExt 2) [v30] fun v35 =>
xF fMove [v33] fun v9 =>
xF fMove [v34] fun v10 =>
xF fMove [v35] fun v11 =>
xF fMove [v4] fun v36 =>
xF fMove [v36] fun v37 =>
xIf v37
 (xF fMove [v7] fun v38 =>
xF fPick [(.bool true), v38, (.bool false)] fun v39 =>
xF fMove [v39] fun v40 =>
xIf v40
 (xF fMove [v10] fun v41 =>
xF (fUn .not) [v41] fun v42 =>
xF fPick [(.bool true), v42, (.bool false)] fun v43 =>
xF fMove [v43] fun v44 =>
xIf v44
 (xF fMove [v3] fun v45 =>
xF (fBin .eql .no) [v45, (.int .i64 0)] fun v46 =>
xF fPick [(.bool true), v46, (.bool false)] fun v47 =>
xF fMove [v47] fun v48 =>
xIf v48
 (xF fMove [v6] fun v49 =>
xF (fBin .eql .no) [v49, (.int .i64 1)] fun v50 =>
xF fPick [(.bool true), v50, (.bool false)] fun v51 =>
xF fMove [v51] fun v52 =>
xIf v52
 (xF fMove [v5] fun v53 =>
xF (fBin .eql .no) [v53, (.int .i64 3)] fun v54 =>
xF fPick [(.bool true), v54, (.bool false)] fun v55 =>
xF fMove [v55] fun v0 =>
K v0 σ)
 (xF fPick [(.bool false), undef, (.bool false)] fun v55 =>
xF fMove [v55] fun v0 =>
K v0 σ))
 (xF fPick [(.bool false), undef, (.bool false)] fun v51 =>
xF fMove [v51] fun v52 =>
xIf v52
 (xF fMove [v5] fun v53 =>
xF (fBin .eql .no) [v53, (.int .i64 3)] fun v54 =>
xF fPick [(.bool true), v54, (.bool false)] fun v55 =>
xF fMove [v55] fun v0 =>
K v0 σ)
 (xF fPick [(.bool false), undef, (.bool false)] fun v55 =>
xF fMove [v55] fun v0 =>
K v0 σ)))
 (xF fPick [(.bool false), undef, (.bool false)] fun v47 =>
xF fMove [v47] fun v48 =>
xIf v48
 (xF fMove [v6] fun v49 =>
xF (fBin .eql .no) [v49, (.int .i64 1)] fun v50 =>
xF fPick [(.bool true), v50, (.bool false)] fun v51 =>
xF fMove [v51] fun v52 =>
xIf v52
 (xF fMove [v5] fun v53 =>
xF (fBin .eql .no) [v53, (.int .i64 3)] fun v54 =>
xF fPick [(.bool true), v54, (.bool false)] fun v55 =>
xF fMove [v55] fun v0 =>
K v0 σ)
 (xF fPick [(.bool false), undef, (.bool false)] fun v55 =>
xF fMove [v55] fun v0 =>
K v0 σ))
 (xF fPick [(.bool false), undef, (.bool false)] fun v51 =>
xF fMove [v51] fun v52 =>
xIf v52
 (xF fMove [v5] fun v53 =>
xF (fBin .eql .no) [v53, (.int .i64 3)] fun v54 =>
xF fPick [(.bool true), v54, (.bool false)] fun v55 =>
xF fMove [v55] fun v0 =>
K v0 σ)
 (xF fPick [(.bool false), undef, (.bool false)] fun v55 =>
xF fMove [v55] fun v0 =>
K v0 σ))))
 (xF fPick [(.bool false), undef, (.bool false)] fun v43 =>
xF fMove [v43] fun v44 =>
xIf v44
 (xF fMove [v3] fun v45 =>
xF (fBin .eql .no) [v45, (.int .i64 0)] fun v46 =>
xF fPick [(.bool true), v46, (.bool false)] fun v47 =>
xF fMove [v47] fun v48 =>
xIf v48
 (xF fMove [v6] fun v49 =>
xF (fBin .eql .no) [v49, (.int .i64 1)] fun v50 =>
xF fPick [(.bool true), v50, (.bool false)] fun v51 =>
xF fMove [v51] fun v52 =>
xIf v52
 (xF fMove [v5] fun v53 =>
xF (fBin .eql .no) [v53, (.int .i64 3)] fun v54 =>
xF fPick [(.bool true), v54, (.bool false)] fun v55 =>
xF fMove [v55] fun v0 =>
K v0 σ)
 (xF fPick [(.bool false), undef, (.bool false)] fun v55 =>
xF fMove [v55] fun v0 =>
K v0 σ))
 (xF fPick [(.bool false), undef, (.bool false)] fun v51 =>
xF fMove [v51] fun v52 =>
xIf v52
 (xF fMove [v5] fun v53 =>
xF (fBin .eql .no) [v53, (.int .i64 3)] fun v54 =>
xF fPick [(.bool true), v54, (.bool false)] fun v55 =>
xF fMove [v55] fun v0 =>
K v0 σ)
 (xF fPick [(.bool false), undef, (.bool false)] fun v55 =>
xF fMove [v55] fun v0 =>
K v0 σ)))
 (xF fPick [(.bool false), undef, (.bool false)] fun v47 =>
xF fMove [v47] fun v48 =>
xIf v48
 (xF fMove [v6] fun v49 =>
xF (fBin .eql .no) [v49, (.int .i64 1)] fun v50 =>
xF fPick [(.bool true), v50, (.bool false)] fun v51 =>
xF fMove [v51] fun v52 =>
xIf v52
 (xF fMove [v5] fun v53 =>
xF (fBin .eql .no) [v53, (.int .i64 3)] fun v54 =>
xF fPick [(.bool true), v54, (.bool false)] fun v55 =>
xF fMove [v55] fun v0 =>
K v0 σ)
 (xF fPick [(.bool false), undef, (.bool false)] fun v55 =>
xF fMove [v55] fun v0 =>
K v0 σ))
 (xF fPick [(.bool false), undef, (.bool false)] fun v51 =>
xF fMove [v51] fun v52 =>
xIf v52
 (xF fMove [v5] fun v53 =>
xF (fBin .eql .no) [v53, (.int .i64 3)] fun v54 =>
xF fPick [(.bool true), v54, (.bool false)] fun v55 =>
xF fMove [v55] fun v0 =>
K v0 σ)
 (xF fPick [(.bool false), undef, (.bool false)] fun v55 =>
xF fMove [v55] fun v0 =>
K v0 σ)))))
 (xF fPick [(.bool false), undef, (.bool false)] fun v39 =>
xF fMove [v39] fun v40 =>
xIf v40
 (xF fMove [v10] fun v41 =>
xF (fUn .not) [v41] fun v42 =>
xF fPick [(.bool true), v42, (.bool false)] fun v43 =>
xF fMove [v43] fun v44 =>
xIf v44
 (xF fMove [v3] fun v45 =>
xF (fBin .eql .no) [v45, (.int .i64 0)] fun v46 =>
xF fPick [(.bool true), v46, (.bool false)] fun v47 =>
xF fMove [v47] fun v48 =>
xIf v48
 (xF fMove [v6] fun v49 =>
xF (fBin .eql .no) [v49, (.int .i64 1)] fun v50 =>
xF fPick [(.bool true), v50, (.bool false)] fun v51 =>
xF fMove [v51] fun v52 =>
xIf v52
 (xF fMove [v5] fun v53 =>
xF (fBin .eql .no) [v53, (.int .i64 3)] fun v54 =>
xF fPick [(.bool true), v54, (.bool false)] fun v55 =>
xF fMove [v55] fun v0 =>
K v0 σ)
 (xF fPick [(.bool false), undef, (.bool false)] fun v55 =>
xF fMove [v55] fun v0 =>
K v0 σ))
 (xF fPick [(.bool false), undef, (.bool false)] fun v51 =>
xF fMove [v51] fun v52 =>
xIf v52
 (xF fMove [v5] fun v53 =>
xF (fBin .eql .no) [v53, (.int .i64 3)] fun v54 =>
xF fPick [(.bool true), v54, (.bool false)] fun v55 =>
xF fMove [v55] fun v0 =>
K v0 σ)
 (xF fPick [(.bool false), undef, (.bool false)] fun v55 =>
xF fMove [v55] fun v0 =>
K v0 σ)))
 (xF fPick [(.bool false), undef, (.bool false)] fun v47 =>
xF fMove [v47] fun v48 =>
xIf v48
 (xF fMove [v6] fun v49 =>
xF (fBin .eql .no) [v49, (.int .i64 1)] fun v50 =>
xF fPick [(.bool true), v50, (.bool false)] fun v51 =>
xF fMove [v51] fun v52 =>
xIf v52
 (xF fMove [v5] fun v53 =>
xF (fBin .eql .no) [v53, (.int .i64 3)] fun v54 =>
xF fPick [(.bool true), v54, (.bool false)] fun v55 =>
xF fMove [v55] fun v0 =>
K v0 σ)
 (xF fPick [(.bool false), undef, (.bool false)] fun v55 =>
xF fMove [v55] fun v0 =>
K v0 σ))
 (xF fPick [(.bool false), undef, (.bool false)] fun v51 =>
xF fMove [v51] fun v52 =>
xIf v52
 (xF fMove [v5] fun v53 =>
xF (fBin .eql .no) [v53, (.int .i64 3)] fun v54 =>
xF fPick [(.bool true), v54, (.bool false)] fun v55 =>
xF fMove [v55] fun v0 =>
K v0 σ)
 (xF fPick [(.bool false), undef, (.bool false)] fun v55 =>
xF fMove [v55] fun v0 =>
K v0 σ))))
 (xF fPick [(.bool false), undef, (.bool false)] fun v43 =>
xF fMove [v43] fun v44 =>
xIf v44
 (xF fMove [v3] fun v45 =>
xF (fBin .eql .no) [v45, (.int .i64 0)] fun v46 =>
xF fPick [(.bool true), v46, (.bool false)] fun v47 =>
xF fMove [v47] fun v48 =>
xIf v48
 (xF fMove [v6] fun v49 =>
xF (fBin .eql .no) [v49, (.int .i64 1)] fun v50 =>
xF fPick [(.bool true), v50, (.bool false)] fun v51 =>
xF fMove [v51] fun v52 =>
xIf v52
 (xF fMove [v5] fun v53 =>
xF (fBin .eql .no) [v53, (.int .i64 3)] fun v54 =>
xF fPick [(.bool true), v54, (.bool false)] fun v55 =>
xF fMove [v55] fun v0 =>
K v0 σ)
 (xF fPick [(.bool false), undef, (.bool false)] fun v55 =>
xF fMove [v55] fun v0 =>
K v0 σ))
 (xF fPick [(.bool false), undef, (.bool false)] fun v51 =>
xF fMove [v51] fun v52 =>
xIf v52
 (xF fMove [v5] fun v53 =>
xF (fBin .eql .no) [v53, (.int .i64 3)] fun v54 =>
xF fPick [(.bool true), v54, (.bool false)] fun v55 =>
xF fMove [v55] fun v0 =>
K v0 σ)
 (xF fPick [(.bool false), undef, (.bool false)] fun v55 =>
xF fMove [v55] fun v0 =>
K v0 σ)))
 (xF fPick [(.bool false), undef, (.bool false)] fun v47 =>
xF fMove [v47] fun v48 =>
xIf v48
 (xF fMove [v6] fun v49 =>
xF (fBin .eql .no) [v49, (.int .i64 1)] fun v50 =>
xF fPick [(.bool true), v50, (.bool false)] fun v51 =>
xF fMove [v51] fun v52 =>
xIf v52
 (xF fMove [v5] fun v53 =>
xF (fBin .eql .no) [v53, (.int .i64 3)] fun v54 =>
xF fPick [(.bool true), v54, (.bool false)] fun v55 =>
xF fMove [v55] fun v0 =>
K v0 σ)
 (xF fPick [(.bool false), undef, (.bool false)] fun v55 =>
xF fMove [v55] fun v0 =>
K v0 σ))
 (xF fPick [(.bool false), undef, (.bool false)] fun v51 =>
xF fMove [v51] fun v52 =>
xIf v52
 (xF fMove [v5] fun v53 =>
xF (fBin .eql .no) [v53, (.int .i64 3)] fun v54 =>
xF fPick [(.bool true), v54, (.bool false)] fun v55 =>
xF fMove [v55] fun v0 =>
K v0 σ)
 (xF fPick [(.bool false), undef, (.bool false)] fun v55 =>
xF fMove [v55] fun v0 =>
K v0 σ)))))) σ) σ) σ)) σ

def s_law06_awake_r : Spec := fun args K σ => match args with
  | [] => w_law06_awake_r  K σ
  | _ => False

noncomputable def cx_law06_awake_r : Cx := { P := Try.prog, T := [(36, .write, s_law04_Arena), (38, .write, s_law06_take)], loc := [(1, 1)], eqt := [], n := 56, keep := [] }
theorem q_law06_awake_r : FnS cx_law06_awake_r Try.f37 (bodyOf Try.f37) 0 = s_law06_awake_r := by
  funext args K σ
  rcases args with _ | ⟨b, r⟩ <;> kernel_rfl
theorem e_law06_awake_r : Entry Try.prog 37 .write s_law06_awake_r :=
  entry (C := cx_law06_awake_r) (TOk.cons e_law04_Arena (TOk.cons e_law06_take TOk.nil)) mixedOk Try.func37 (by kernel_rfl) (by kernel_rfl) (by kernel_rfl) q_law06_awake_r

def xl_law06_awake_r : List (Nat × Nat) := [(1, 1)]
noncomputable def xc_law06_awake_r : XC XN :=
(.seq none
 (.reg [⟨none, some 0, [(.const (.bool false))], ⟨.f fMove, rMove⟩⟩])
 (.seq none
 (.reg [⟨none, some 13, [(.const (.int .i64 2)), (.const (.int .i64 2)), (.const (.int .i64 1)), (.const (.int .i64 20))], ⟨.call .write s_law04_Arena v_law04_Arena, rCall v_law04_Arena⟩⟩,
  ⟨none, some 12, [(.tmp 13)], ⟨.f fMove, rMove⟩⟩,
  ⟨none, some 14, [(.tmp 12)], ⟨.f (fExt 0), rAny xl_law06_awake_r (.f (fExt 0))⟩⟩,
  ⟨none, some 15, [(.tmp 12)], ⟨.f (fExt 1), rAny xl_law06_awake_r (.f (fExt 1))⟩⟩,
  ⟨none, some 1, [], ⟨.la 1 [(.int .i64 0), (.int .i64 0), (.int .i64 0), (.int .i64 0), (.int .i64 0), (.int .i64 0), (.int .i64 0), (.pointer none), (.int .i64 0)], rAny xl_law06_awake_r (.la 1 [(.int .i64 0), (.int .i64 0), (.int .i64 0), (.int .i64 0), (.int .i64 0), (.int .i64 0), (.int .i64 0), (.pointer none), (.int .i64 0)])⟩⟩,
  ⟨none, none, [(.tmp 1), (.tmp 14)], ⟨.ls 1 9, rAny xl_law06_awake_r (.ls 1 9)⟩⟩,
  ⟨none, some 2, [(.tmp 15)], ⟨.f fMove, rMove⟩⟩])
 (.seq none
 (.seq none
 (.reg [⟨none, some 16, [(.tmp 2)], ⟨.f fMove, rMove⟩⟩,
  ⟨none, some 17, [(.tmp 16)], ⟨.f (fUn .not), rNot⟩⟩])
 (.cond (.tmp 17)
 (.seq none
 (.reg [⟨none, some 0, [(.const (.bool false))], ⟨.f fMove, rMove⟩⟩])
 .ret)
 .skip))
 (.seq none
 (.reg [⟨none, some 19, [(.tmp 1)], ⟨.lr 1 9 true, rAny xl_law06_awake_r (.lr 1 9 true)⟩⟩,
  ⟨none, some 20, [(.tmp 19)], ⟨.call .write s_law06_take v_law06_take, rCall v_law06_take⟩⟩,
  ⟨none, some 18, [(.tmp 20)], ⟨.f fMove, rMove⟩⟩,
  ⟨none, some 21, [(.tmp 18)], ⟨.f (fExt 0), rAny xl_law06_awake_r (.f (fExt 0))⟩⟩,
  ⟨none, some 22, [(.tmp 18)], ⟨.f (fExt 1), rAny xl_law06_awake_r (.f (fExt 1))⟩⟩,
  ⟨none, some 23, [(.tmp 18)], ⟨.f (fExt 2), rAny xl_law06_awake_r (.f (fExt 2))⟩⟩,
  ⟨none, some 3, [(.tmp 21)], ⟨.f fMove, rMove⟩⟩,
  ⟨none, some 4, [(.tmp 22)], ⟨.f fMove, rMove⟩⟩,
  ⟨none, some 5, [(.tmp 23)], ⟨.f fMove, rMove⟩⟩])
 (.seq none
 (.reg [⟨none, some 25, [(.tmp 1)], ⟨.lr 1 9 true, rAny xl_law06_awake_r (.lr 1 9 true)⟩⟩,
  ⟨none, some 26, [(.tmp 25)], ⟨.call .write s_law06_take v_law06_take, rCall v_law06_take⟩⟩,
  ⟨none, some 24, [(.tmp 26)], ⟨.f fMove, rMove⟩⟩,
  ⟨none, some 27, [(.tmp 24)], ⟨.f (fExt 0), rAny xl_law06_awake_r (.f (fExt 0))⟩⟩,
  ⟨none, some 28, [(.tmp 24)], ⟨.f (fExt 1), rAny xl_law06_awake_r (.f (fExt 1))⟩⟩,
  ⟨none, some 29, [(.tmp 24)], ⟨.f (fExt 2), rAny xl_law06_awake_r (.f (fExt 2))⟩⟩,
  ⟨none, some 6, [(.tmp 27)], ⟨.f fMove, rMove⟩⟩,
  ⟨none, some 7, [(.tmp 28)], ⟨.f fMove, rMove⟩⟩,
  ⟨none, some 8, [(.tmp 29)], ⟨.f fMove, rMove⟩⟩])
 (.seq none
 (.reg [⟨none, some 31, [(.tmp 1)], ⟨.lr 1 9 true, rAny xl_law06_awake_r (.lr 1 9 true)⟩⟩,
  ⟨none, some 32, [(.tmp 31)], ⟨.call .write s_law06_take v_law06_take, rCall v_law06_take⟩⟩,
  ⟨none, some 30, [(.tmp 32)], ⟨.f fMove, rMove⟩⟩,
  ⟨none, some 33, [(.tmp 30)], ⟨.f (fExt 0), rAny xl_law06_awake_r (.f (fExt 0))⟩⟩,
  ⟨none, some 34, [(.tmp 30)], ⟨.f (fExt 1), rAny xl_law06_awake_r (.f (fExt 1))⟩⟩,
  ⟨none, some 35, [(.tmp 30)], ⟨.f (fExt 2), rAny xl_law06_awake_r (.f (fExt 2))⟩⟩,
  ⟨none, some 9, [(.tmp 33)], ⟨.f fMove, rMove⟩⟩,
  ⟨none, some 10, [(.tmp 34)], ⟨.f fMove, rMove⟩⟩,
  ⟨none, some 11, [(.tmp 35)], ⟨.f fMove, rMove⟩⟩])
 (.seq none
 (.reg [⟨none, some 36, [(.tmp 4)], ⟨.f fMove, rMove⟩⟩,
  ⟨none, some 37, [(.tmp 36)], ⟨.f fMove, rMove⟩⟩,
  ⟨(some (2, 1, true, some 37)), some 38, [(.tmp 7)], ⟨.f fMove, rMove⟩⟩,
  ⟨none, some 39, [(.tmp 37), (.tmp 38), (.const (.bool false))], ⟨.f fPick, rPick⟩⟩,
  ⟨none, some 40, [(.tmp 39)], ⟨.f fMove, rMove⟩⟩,
  ⟨(some (5, 4, true, some 40)), some 41, [(.tmp 10)], ⟨.f fMove, rMove⟩⟩,
  ⟨(some (6, 4, true, some 40)), some 42, [(.tmp 41)], ⟨.f (fUn .not), rNot⟩⟩,
  ⟨none, some 43, [(.tmp 40), (.tmp 42), (.const (.bool false))], ⟨.f fPick, rPick⟩⟩,
  ⟨none, some 44, [(.tmp 43)], ⟨.f fMove, rMove⟩⟩,
  ⟨(some (9, 8, true, some 44)), some 45, [(.tmp 3)], ⟨.f fMove, rMove⟩⟩,
  ⟨(some (10, 8, true, some 44)), some 46, [(.tmp 45), (.const (.int .i64 0))], ⟨.f (fBin .eql .no), rEql⟩⟩,
  ⟨none, some 47, [(.tmp 44), (.tmp 46), (.const (.bool false))], ⟨.f fPick, rPick⟩⟩,
  ⟨none, some 48, [(.tmp 47)], ⟨.f fMove, rMove⟩⟩,
  ⟨(some (13, 12, true, some 48)), some 49, [(.tmp 6)], ⟨.f fMove, rMove⟩⟩,
  ⟨(some (14, 12, true, some 48)), some 50, [(.tmp 49), (.const (.int .i64 1))], ⟨.f (fBin .eql .no), rEql⟩⟩,
  ⟨none, some 51, [(.tmp 48), (.tmp 50), (.const (.bool false))], ⟨.f fPick, rPick⟩⟩,
  ⟨none, some 52, [(.tmp 51)], ⟨.f fMove, rMove⟩⟩,
  ⟨(some (17, 16, true, some 52)), some 53, [(.tmp 5)], ⟨.f fMove, rMove⟩⟩,
  ⟨(some (18, 16, true, some 52)), some 54, [(.tmp 53), (.const (.int .i64 3))], ⟨.f (fBin .eql .no), rEql⟩⟩,
  ⟨none, some 55, [(.tmp 52), (.tmp 54), (.const (.bool false))], ⟨.f fPick, rPick⟩⟩,
  ⟨none, some 0, [(.tmp 55)], ⟨.f fMove, rMove⟩⟩])
 .ret)))))))
noncomputable def v_law06_awake_r : EvF := evFn 0 xc_law06_awake_r [.t 0]
theorem xt_law06_awake_r : toC cx_law06_awake_r (bodyOf Try.f37) = some (xc_law06_awake_r.map XN.sm) := by kernel_rfl
theorem xr_law06_awake_r : toR cx_law06_awake_r Try.f37.results.toList = some [.t 0] := by kernel_rfl
theorem xo_law06_awake_r : xc_law06_awake_r.ok xl_law06_awake_r := ⟨⟨rMove_ok, trivial⟩, ⟨⟨rCall_ok ve_law04_Arena, rMove_ok, rAny_ok (eqv_ext _), rAny_ok (eqv_ext _), rAny_ok (trivial), rAny_ok (trivial), rMove_ok, trivial⟩, ⟨⟨⟨rMove_ok, rNot_ok, trivial⟩, ⟨⟨⟨rMove_ok, trivial⟩, trivial⟩, trivial⟩⟩, ⟨⟨rAny_ok (trivial), rCall_ok ve_law06_take, rMove_ok, rAny_ok (eqv_ext _), rAny_ok (eqv_ext _), rAny_ok (eqv_ext _), rMove_ok, rMove_ok, rMove_ok, trivial⟩, ⟨⟨rAny_ok (trivial), rCall_ok ve_law06_take, rMove_ok, rAny_ok (eqv_ext _), rAny_ok (eqv_ext _), rAny_ok (eqv_ext _), rMove_ok, rMove_ok, rMove_ok, trivial⟩, ⟨⟨rAny_ok (trivial), rCall_ok ve_law06_take, rMove_ok, rAny_ok (eqv_ext _), rAny_ok (eqv_ext _), rAny_ok (eqv_ext _), rMove_ok, rMove_ok, rMove_ok, trivial⟩, ⟨⟨rMove_ok, rMove_ok, rMove_ok, rPick_ok, rMove_ok, rMove_ok, rNot_ok, rPick_ok, rMove_ok, rMove_ok, rEql_ok, rPick_ok, rMove_ok, rMove_ok, rEql_ok, rPick_ok, rMove_ok, rMove_ok, rEql_ok, rPick_ok, rMove_ok, trivial⟩, trivial⟩⟩⟩⟩⟩⟩⟩
theorem ve_law06_awake_r : EvOk s_law06_awake_r v_law06_awake_r := EvOk.of (evFn_sound (C := cx_law06_awake_r) xt_law06_awake_r xr_law06_awake_r xo_law06_awake_r) q_law06_awake_r

theorem a_law06_awake : v_law06_awake_r [] ⟨.e, 0⟩ (fun v _ => isT v) = true := by kernel_rfl
def s_law06_awake : Spec := sTrue
theorem e_law06_awake : Entry Try.prog 37 .none s_law06_awake := e_law06_awake_r.awake ve_law06_awake_r a_law06_awake
noncomputable def v_law06_awake : EvF := vTrue
theorem ve_law06_awake : EvOk s_law06_awake v_law06_awake := vTrue_ok

attribute [irreducible] w_law06_awake_r s_law06_awake_r s_law06_awake

/-! ### /law06.SlotEmpty -/
def w_law06_SlotEmpty_j5b (K : Value → Mem → Prop) (σ : Mem) : Prop :=
xF fMove [(.bool true)] fun v4 =>
K v4 σ

def w_law06_SlotEmpty_j5 (K : Value → Mem → Prop) (ts : List Value) (ls : List (List Value)) (σ : Mem) : Prop := w_law06_SlotEmpty_j5b K σ

def w_law06_SlotEmpty_l27b (K : Value → Mem → Prop) (J5 : List Value → List (List Value) → Mem → Prop) (R1 : List Value → List (List Value) → Mem → Prop) (v12 v18 : Value) (c6 : List Value) (σ : Mem) : Prop :=
xF fMove [v18] fun v81 =>
xF fMove [v12] fun v82 =>
xF fLen [v82] fun v83 =>
xF (fBin .lss .no) [v81, v83] fun v84 =>
xIf v84
 (xF (fFld 7) [(locP 6)] fun v87 =>
xO (gLoad 1 false [v87] c6) fun v88 =>
xF fMove [v18] fun v89 =>
s_mem_Mem_Peek [v88, v89] (fun v90 σ =>
xF fMove [v12] fun v91 =>
xF fMove [v18] fun v92 =>
xF (fIxS 1) [v91, v92] fun v93 =>
hLoad 1 false [v93] (fun v94 σ =>
xF (fBin .neq .no) [v90, v94] fun v95 =>
xIf v95
 (xF fMove [(.bool false)] fun v4 =>
K v4 σ)
 (xF fMove [v18] fun v85 =>
xF (fBin .add .no) [v85, (.int .i64 1)] fun v86 =>
xF fMove [v86] fun v18 =>
R1 [v12, v18] [c6] σ)) σ) σ)
 (J5 [] [] σ)

def w_law06_SlotEmpty_l27 (K : Value → Mem → Prop) (J5 : List Value → List (List Value) → Mem → Prop) (R1 : List Value → List (List Value) → Mem → Prop) (ts : List Value) (ls : List (List Value)) (σ : Mem) : Prop := w_law06_SlotEmpty_l27b K J5 R1 (ts.getD 0 poison) (ts.getD 1 poison) (ls.getD 0 []) σ

def w_law06_SlotEmpty_j4b (K : Value → Mem → Prop) (v12 : Value) (c6 : List Value) (σ : Mem) : Prop :=
xJoin (w_law06_SlotEmpty_j5 K) fun J5 =>
xF fMove [(.int .i64 0)] fun v18 =>
xLoop (w_law06_SlotEmpty_l27 K J5) [v12, v18] [c6] σ

def w_law06_SlotEmpty_j4 (K : Value → Mem → Prop) (ts : List Value) (ls : List (List Value)) (σ : Mem) : Prop := w_law06_SlotEmpty_j4b K (ts.getD 0 poison) (ls.getD 0 []) σ

def w_law06_SlotEmpty_l18b (K : Value → Mem → Prop) (J4 : List Value → List (List Value) → Mem → Prop) (R1 : List Value → List (List Value) → Mem → Prop) (v1 v12 v14 : Value) (c6 : List Value) (σ : Mem) : Prop :=
xF fMove [v14] fun v63 =>
xF fMove [v1] fun v64 =>
xF (fBin .and .no) [v64, (.int .i64 15)] fun v65 =>
xF (fBin .lss .no) [v63, v65] fun v66 =>
xIf v66
 (xF (fBuild [(0, 1), (1, 1), (2, 1), (3, 1), (4, 1)] [(.int .i64 0), (.int .u64 0), (.int .i64 0), (.int .i64 0), (.bool false)] []) [] fun v69 =>
hBox 5 [v69] (fun v70 σ =>
xF fMove [v70] fun v15 =>
xF fMove [v15] fun v71 =>
xO (gLoad 9 true [(locP 6)] c6) fun v72 =>
s_slot_Take_Step [v71, v72] (fun v73 σ =>
xF (fUn .not) [v73] fun v74 =>
xIf v74
 (xF fMove [(.bool false)] fun v4 =>
K v4 σ)
 (xF fMove [v15] fun v76 =>
s_slot_Take_Slot [v76] (fun v77 σ =>
xF fMove [v77] fun v75 =>
xF (fExt 0) [v75] fun v78 =>
xF (fExt 1) [v75] fun v79 =>
xF fMove [v78] fun v16 =>
xF fMove [v79] fun v17 =>
xF fMove [v17] fun v80 =>
xIf v80
 (xF fMove [(.bool false)] fun v4 =>
K v4 σ)
 (xF fMove [v14] fun v67 =>
xF (fBin .add .no) [v67, (.int .i64 1)] fun v68 =>
xF fMove [v68] fun v14 =>
R1 [v1, v12, v14] [c6] σ)) σ)) σ) σ)
 (J4 [v12] [c6] σ)

def w_law06_SlotEmpty_l18 (K : Value → Mem → Prop) (J4 : List Value → List (List Value) → Mem → Prop) (R1 : List Value → List (List Value) → Mem → Prop) (ts : List Value) (ls : List (List Value)) (σ : Mem) : Prop := w_law06_SlotEmpty_l18b K J4 R1 (ts.getD 0 poison) (ts.getD 1 poison) (ts.getD 2 poison) (ls.getD 0 []) σ

def w_law06_SlotEmpty_j3b (K : Value → Mem → Prop) (v1 v12 : Value) (c6 : List Value) (σ : Mem) : Prop :=
xJoin (w_law06_SlotEmpty_j4 K) fun J4 =>
xF fMove [(.int .i64 0)] fun v14 =>
xLoop (w_law06_SlotEmpty_l18 K J4) [v1, v12, v14] [c6] σ

def w_law06_SlotEmpty_j3 (K : Value → Mem → Prop) (ts : List Value) (ls : List (List Value)) (σ : Mem) : Prop := w_law06_SlotEmpty_j3b K (ts.getD 0 poison) (ts.getD 1 poison) (ls.getD 0 []) σ

def w_law06_SlotEmpty_l14b (K : Value → Mem → Prop) (J3 : List Value → List (List Value) → Mem → Prop) (R1 : List Value → List (List Value) → Mem → Prop) (v1 v12 v13 : Value) (c6 : List Value) (σ : Mem) : Prop :=
xF fMove [v13] fun v50 =>
xF fMove [v12] fun v51 =>
xF fLen [v51] fun v52 =>
xF (fBin .lss .no) [v50, v52] fun v53 =>
xIf v53
 (xF fMove [v12] fun v56 =>
xF fMove [v13] fun v57 =>
xF (fFld 7) [(locP 6)] fun v58 =>
xO (gLoad 1 false [v58] c6) fun v59 =>
xF fMove [v13] fun v60 =>
s_mem_Mem_Peek [v59, v60] (fun v61 σ =>
xF (fIxS 1) [v56, v57] fun v62 =>
hStore 1 [v62, v61] (fun _v σ =>
xF fMove [v13] fun v54 =>
xF (fBin .add .no) [v54, (.int .i64 1)] fun v55 =>
xF fMove [v55] fun v13 =>
R1 [v1, v12, v13] [c6] σ) σ) σ)
 (J3 [v1, v12] [c6] σ)

def w_law06_SlotEmpty_l14 (K : Value → Mem → Prop) (J3 : List Value → List (List Value) → Mem → Prop) (R1 : List Value → List (List Value) → Mem → Prop) (ts : List Value) (ls : List (List Value)) (σ : Mem) : Prop := w_law06_SlotEmpty_l14b K J3 R1 (ts.getD 0 poison) (ts.getD 1 poison) (ts.getD 2 poison) (ls.getD 0 []) σ

def w_law06_SlotEmpty_j2b (K : Value → Mem → Prop) (v1 : Value) (c6 : List Value) (σ : Mem) : Prop :=
xF (fFld 7) [(locP 6)] fun v46 =>
xO (gLoad 1 false [v46] c6) fun v47 =>
s_mem_Mem_Len [v47] (fun v48 σ =>
hMakeS 1 8 [(.int .u64 0)] [v48, v48] (fun v49 σ =>
xF fMove [v49] fun v12 =>
xJoin (w_law06_SlotEmpty_j3 K) fun J3 =>
xF fMove [(.int .i64 0)] fun v13 =>
xLoop (w_law06_SlotEmpty_l14 K J3) [v1, v12, v13] [c6] σ) σ) σ

def w_law06_SlotEmpty_j2 (K : Value → Mem → Prop) (ts : List Value) (ls : List (List Value)) (σ : Mem) : Prop := w_law06_SlotEmpty_j2b K (ts.getD 0 poison) (ls.getD 0 []) σ

def w_law06_SlotEmpty_l7b (K : Value → Mem → Prop) (J2 : List Value → List (List Value) → Mem → Prop) (R1 : List Value → List (List Value) → Mem → Prop) (v1 v5 v8 : Value) (c6 : List Value) (σ : Mem) : Prop :=
xF fMove [v8] fun v33 =>
xF fMove [v5] fun v34 =>
xF (fBin .lss .no) [v33, v34] fun v35 =>
xIf v35
 (xO (gLoad 9 true [(locP 6)] c6) fun v39 =>
s_law06_take [v39] (fun v40 σ =>
xF fMove [v40] fun v38 =>
xF (fExt 0) [v38] fun v41 =>
xF (fExt 1) [v38] fun v42 =>
xF (fExt 2) [v38] fun v43 =>
xF fMove [v41] fun v9 =>
xF fMove [v42] fun v10 =>
xF fMove [v43] fun v11 =>
xF fMove [v10] fun v44 =>
xF (fUn .not) [v44] fun v45 =>
xIf v45
 (xF fMove [(.bool false)] fun v4 =>
K v4 σ)
 (xF fMove [v8] fun v36 =>
xF (fBin .add .no) [v36, (.int .i64 1)] fun v37 =>
xF fMove [v37] fun v8 =>
R1 [v1, v5, v8] [c6] σ)) σ)
 (J2 [v1] [c6] σ)

def w_law06_SlotEmpty_l7 (K : Value → Mem → Prop) (J2 : List Value → List (List Value) → Mem → Prop) (R1 : List Value → List (List Value) → Mem → Prop) (ts : List Value) (ls : List (List Value)) (σ : Mem) : Prop := w_law06_SlotEmpty_l7b K J2 R1 (ts.getD 0 poison) (ts.getD 1 poison) (ts.getD 2 poison) (ls.getD 0 []) σ

def w_law06_SlotEmpty_j1b (K : Value → Mem → Prop) (v1 v5 v32 : Value) (c6 : List Value) (σ : Mem) : Prop :=
xIf v32
 (xF fMove [(.bool false)] fun v4 =>
K v4 σ)
 (xJoin (w_law06_SlotEmpty_j2 K) fun J2 =>
xF fMove [(.int .i64 0)] fun v8 =>
xLoop (w_law06_SlotEmpty_l7 K J2) [v1, v5, v8] [c6] σ)

def w_law06_SlotEmpty_j1 (K : Value → Mem → Prop) (ts : List Value) (ls : List (List Value)) (σ : Mem) : Prop := w_law06_SlotEmpty_j1b K (ts.getD 0 poison) (ts.getD 1 poison) (ts.getD 2 poison) (ls.getD 0 []) σ

def w_law06_SlotEmpty (a0 a1 : Value) (K : Value → Mem → Prop) (σ : Mem) : Prop :=
xF fMove [(.bool false)] fun v4 =>
xF fMove [a0] fun v19 =>
xF (fBin .and .no) [v19, (.int .i64 7)] fun v20 =>
xF (fBin .add .no) [(.int .i64 1), v20] fun v21 =>
xF fMove [v21] fun v5 =>
xF fMove [v5] fun v23 =>
s_law04_Arena [(.int .i64 1), v23, (.int .i64 1), (.int .i64 20)] (fun v24 σ =>
xF fMove [v24] fun v22 =>
xF (fExt 0) [v22] fun v25 =>
xF (fExt 1) [v22] fun v26 =>
xC (gStore 9 [(locP 6), v25] [(.int .i64 0), (.int .i64 0), (.int .i64 0), (.int .i64 0), (.int .i64 0), (.int .i64 0), (.int .i64 0), (.pointer none), (.int .i64 0)]) fun c6 =>
xF fMove [v26] fun v7 =>
xJoin (w_law06_SlotEmpty_j1 K) fun J1 =>
s_law06_awake [] (fun v27 σ =>
xF (fUn .not) [v27] fun v28 =>
xF fMove [v28] fun v29 =>
xIf v29
 (xF fPick [(.bool true), (.bool true), undef] fun v32 =>
J1 [a1, v5, v32] [c6] σ)
 (xF fMove [v7] fun v30 =>
xF (fUn .not) [v30] fun v31 =>
xF fPick [(.bool false), (.bool true), v31] fun v32 =>
J1 [a1, v5, v32] [c6] σ)) σ) σ

def s_law06_SlotEmpty : Spec := fun args K σ => match args with
  | [a0, a1] => w_law06_SlotEmpty a0 a1 K σ
  | _ => False

noncomputable def cx_law06_SlotEmpty : Cx := { P := Try.prog, T := [(36, .write, s_law04_Arena), (37, .none, s_law06_awake), (38, .write, s_law06_take), (23, .read, s_mem_Mem_Len), (27, .read, s_mem_Mem_Peek), (39, .write, s_slot_Take_Step), (40, .read, s_slot_Take_Slot)], loc := [(6, 6), (46, 6), (58, 6), (87, 6)], eqt := [], n := 96, keep := [(7, [1, 5, 8], [6]), (14, [1, 12, 13], [6]), (18, [1, 12, 14], [6]), (27, [12, 18], [6]), (1000005, [1, 5, 32], [6]), (1000012, [1], [6]), (1000017, [1, 12], [6]), (1000026, [12], [6]), (1000031, [], [])] }
theorem q_law06_SlotEmpty : FnS cx_law06_SlotEmpty Try.f8 (bodyOf Try.f8) 2 = s_law06_SlotEmpty := by
  funext args K σ
  rcases args with _ | ⟨a0, _ | ⟨a1, _ | ⟨b, r⟩⟩⟩ <;> kernel_rfl
theorem e_law06_SlotEmpty : Entry Try.prog 8 .write s_law06_SlotEmpty :=
  entry (C := cx_law06_SlotEmpty) (TOk.cons e_law04_Arena (TOk.cons e_law06_awake (TOk.cons e_law06_take (TOk.cons e_mem_Mem_Len (TOk.cons e_mem_Mem_Peek (TOk.cons e_slot_Take_Step (TOk.cons e_slot_Take_Slot TOk.nil))))))) mixedOk Try.func8 (by kernel_rfl) (by kernel_rfl) (by kernel_rfl) q_law06_SlotEmpty

def xl_law06_SlotEmpty : List (Nat × Nat) := [(6, 6), (46, 6), (58, 6), (87, 6)]
noncomputable def xc_law06_SlotEmpty : XC XN :=
(.seq none
 (.reg [⟨none, some 4, [(.const (.bool false))], ⟨.f fMove, rMove⟩⟩])
 (.seq none
 (.reg [⟨none, some 19, [(.tmp 0)], ⟨.f fMove, rMove⟩⟩,
  ⟨none, some 20, [(.tmp 19), (.const (.int .i64 7))], ⟨.band .no, rAny xl_law06_SlotEmpty (.band .no)⟩⟩,
  ⟨none, some 21, [(.const (.int .i64 1)), (.tmp 20)], ⟨.f (fBin .add .no), rAdd⟩⟩,
  ⟨none, some 5, [(.tmp 21)], ⟨.f fMove, rMove⟩⟩])
 (.seq none
 (.reg [⟨none, some 23, [(.tmp 5)], ⟨.f fMove, rMove⟩⟩,
  ⟨none, some 24, [(.const (.int .i64 1)), (.tmp 23), (.const (.int .i64 1)), (.const (.int .i64 20))], ⟨.call .write s_law04_Arena v_law04_Arena, rCall v_law04_Arena⟩⟩,
  ⟨none, some 22, [(.tmp 24)], ⟨.f fMove, rMove⟩⟩,
  ⟨none, some 25, [(.tmp 22)], ⟨.f (fExt 0), rAny xl_law06_SlotEmpty (.f (fExt 0))⟩⟩,
  ⟨none, some 26, [(.tmp 22)], ⟨.f (fExt 1), rAny xl_law06_SlotEmpty (.f (fExt 1))⟩⟩,
  ⟨none, some 6, [], ⟨.la 6 [(.int .i64 0), (.int .i64 0), (.int .i64 0), (.int .i64 0), (.int .i64 0), (.int .i64 0), (.int .i64 0), (.pointer none), (.int .i64 0)], rAny xl_law06_SlotEmpty (.la 6 [(.int .i64 0), (.int .i64 0), (.int .i64 0), (.int .i64 0), (.int .i64 0), (.int .i64 0), (.int .i64 0), (.pointer none), (.int .i64 0)])⟩⟩,
  ⟨none, none, [(.tmp 6), (.tmp 25)], ⟨.ls 6 9, rAny xl_law06_SlotEmpty (.ls 6 9)⟩⟩,
  ⟨none, some 7, [(.tmp 26)], ⟨.f fMove, rMove⟩⟩])
 (.seq none
 (.seq (some ([1, 5, 32], [6]))
 (.reg [⟨none, some 27, [], ⟨.call .none s_law06_awake v_law06_awake, rCall v_law06_awake⟩⟩,
  ⟨none, some 28, [(.tmp 27)], ⟨.f (fUn .not), rNot⟩⟩,
  ⟨none, some 29, [(.tmp 28)], ⟨.f fMove, rMove⟩⟩,
  ⟨(some (3, 2, false, some 29)), some 30, [(.tmp 7)], ⟨.f fMove, rMove⟩⟩,
  ⟨(some (4, 2, false, some 29)), some 31, [(.tmp 30)], ⟨.f (fUn .not), rNot⟩⟩,
  ⟨none, some 32, [(.tmp 29), (.const (.bool true)), (.tmp 31)], ⟨.f fPick, rPick⟩⟩])
 (.cond (.tmp 32)
 (.seq none
 (.reg [⟨none, some 4, [(.const (.bool false))], ⟨.f fMove, rMove⟩⟩])
 .ret)
 .skip))
 (.seq (some ([1], [6]))
 (.seq none
 (.reg [⟨none, some 8, [(.const (.int .i64 0))], ⟨.f fMove, rMove⟩⟩])
 (.block 0
 (.loop ([1, 5, 8], [6])
 (.seq none
 (.seq none
 (.reg [⟨none, some 33, [(.tmp 8)], ⟨.f fMove, rMove⟩⟩,
  ⟨none, some 34, [(.tmp 5)], ⟨.f fMove, rMove⟩⟩,
  ⟨none, some 35, [(.tmp 33), (.tmp 34)], ⟨.f (fBin .lss .no), rLss⟩⟩])
 (.cond (.tmp 35)
 .skip
 (.exit 0)))
 (.seq none
 (.block 1
 (.seq none
 (.reg [⟨none, some 39, [(.tmp 6)], ⟨.lr 6 9 true, rAny xl_law06_SlotEmpty (.lr 6 9 true)⟩⟩,
  ⟨none, some 40, [(.tmp 39)], ⟨.call .write s_law06_take v_law06_take, rCall v_law06_take⟩⟩,
  ⟨none, some 38, [(.tmp 40)], ⟨.f fMove, rMove⟩⟩,
  ⟨none, some 41, [(.tmp 38)], ⟨.f (fExt 0), rAny xl_law06_SlotEmpty (.f (fExt 0))⟩⟩,
  ⟨none, some 42, [(.tmp 38)], ⟨.f (fExt 1), rAny xl_law06_SlotEmpty (.f (fExt 1))⟩⟩,
  ⟨none, some 43, [(.tmp 38)], ⟨.f (fExt 2), rAny xl_law06_SlotEmpty (.f (fExt 2))⟩⟩,
  ⟨none, some 9, [(.tmp 41)], ⟨.f fMove, rMove⟩⟩,
  ⟨none, some 10, [(.tmp 42)], ⟨.f fMove, rMove⟩⟩,
  ⟨none, some 11, [(.tmp 43)], ⟨.f fMove, rMove⟩⟩])
 (.seq none
 (.reg [⟨none, some 44, [(.tmp 10)], ⟨.f fMove, rMove⟩⟩,
  ⟨none, some 45, [(.tmp 44)], ⟨.f (fUn .not), rNot⟩⟩])
 (.cond (.tmp 45)
 (.seq none
 (.reg [⟨none, some 4, [(.const (.bool false))], ⟨.f fMove, rMove⟩⟩])
 .ret)
 .skip))))
 (.reg [⟨none, some 36, [(.tmp 8)], ⟨.f fMove, rMove⟩⟩,
  ⟨none, some 37, [(.tmp 36), (.const (.int .i64 1))], ⟨.f (fBin .add .no), rAdd⟩⟩,
  ⟨none, some 8, [(.tmp 37)], ⟨.f fMove, rMove⟩⟩]))))))
 (.seq none
 (.reg [⟨none, some 46, [(.tmp 6)], ⟨.f (fFld 7), rFld 7⟩⟩,
  ⟨none, some 47, [(.tmp 46)], ⟨.lr 6 1 false, rLr1 6⟩⟩,
  ⟨none, some 48, [(.tmp 47)], ⟨.call .read s_mem_Mem_Len v_mem_Mem_Len, rCall v_mem_Mem_Len⟩⟩,
  ⟨none, some 49, [(.tmp 48), (.tmp 48)], ⟨.ms 1 8 [(.int .u64 0)], rAny xl_law06_SlotEmpty (.ms 1 8 [(.int .u64 0)])⟩⟩,
  ⟨none, some 12, [(.tmp 49)], ⟨.f fMove, rMove⟩⟩])
 (.seq (some ([1, 12], [6]))
 (.seq none
 (.reg [⟨none, some 13, [(.const (.int .i64 0))], ⟨.f fMove, rMove⟩⟩])
 (.block 2
 (.loop ([1, 12, 13], [6])
 (.seq none
 (.seq none
 (.reg [⟨none, some 50, [(.tmp 13)], ⟨.f fMove, rMove⟩⟩,
  ⟨none, some 51, [(.tmp 12)], ⟨.f fMove, rMove⟩⟩,
  ⟨none, some 52, [(.tmp 51)], ⟨.f fLen, rAny xl_law06_SlotEmpty (.f fLen)⟩⟩,
  ⟨none, some 53, [(.tmp 50), (.tmp 52)], ⟨.f (fBin .lss .no), rLss⟩⟩])
 (.cond (.tmp 53)
 .skip
 (.exit 2)))
 (.seq none
 (.block 3
 (.reg [⟨none, some 56, [(.tmp 12)], ⟨.f fMove, rMove⟩⟩,
  ⟨none, some 57, [(.tmp 13)], ⟨.f fMove, rMove⟩⟩,
  ⟨none, some 58, [(.tmp 6)], ⟨.f (fFld 7), rFld 7⟩⟩,
  ⟨none, some 59, [(.tmp 58)], ⟨.lr 6 1 false, rLr1 6⟩⟩,
  ⟨none, some 60, [(.tmp 13)], ⟨.f fMove, rMove⟩⟩,
  ⟨none, some 61, [(.tmp 59), (.tmp 60)], ⟨.call .read s_mem_Mem_Peek v_mem_Mem_Peek, rCall v_mem_Mem_Peek⟩⟩,
  ⟨none, some 62, [(.tmp 56), (.tmp 57)], ⟨.f (fIxS 1), rIxS 1⟩⟩,
  ⟨none, none, [(.tmp 62), (.tmp 61)], ⟨.store 1, rStore1⟩⟩]))
 (.reg [⟨none, some 54, [(.tmp 13)], ⟨.f fMove, rMove⟩⟩,
  ⟨none, some 55, [(.tmp 54), (.const (.int .i64 1))], ⟨.f (fBin .add .no), rAdd⟩⟩,
  ⟨none, some 13, [(.tmp 55)], ⟨.f fMove, rMove⟩⟩]))))))
 (.seq (some ([12], [6]))
 (.seq none
 (.reg [⟨none, some 14, [(.const (.int .i64 0))], ⟨.f fMove, rMove⟩⟩])
 (.block 4
 (.loop ([1, 12, 14], [6])
 (.seq none
 (.seq none
 (.reg [⟨none, some 63, [(.tmp 14)], ⟨.f fMove, rMove⟩⟩,
  ⟨none, some 64, [(.tmp 1)], ⟨.f fMove, rMove⟩⟩,
  ⟨none, some 65, [(.tmp 64), (.const (.int .i64 15))], ⟨.band .no, rAny xl_law06_SlotEmpty (.band .no)⟩⟩,
  ⟨none, some 66, [(.tmp 63), (.tmp 65)], ⟨.f (fBin .lss .no), rLss⟩⟩])
 (.cond (.tmp 66)
 .skip
 (.exit 4)))
 (.seq none
 (.block 5
 (.seq none
 (.reg [⟨none, some 69, [], ⟨.f (fBuild [(0, 1), (1, 1), (2, 1), (3, 1), (4, 1)] [(.int .i64 0), (.int .u64 0), (.int .i64 0), (.int .i64 0), (.bool false)] []), rAny xl_law06_SlotEmpty (.f (fBuild [(0, 1), (1, 1), (2, 1), (3, 1), (4, 1)] [(.int .i64 0), (.int .u64 0), (.int .i64 0), (.int .i64 0), (.bool false)] []))⟩⟩,
  ⟨none, some 70, [(.tmp 69)], ⟨.box 5, rAny xl_law06_SlotEmpty (.box 5)⟩⟩,
  ⟨none, some 15, [(.tmp 70)], ⟨.f fMove, rMove⟩⟩])
 (.seq none
 (.seq none
 (.reg [⟨none, some 71, [(.tmp 15)], ⟨.f fMove, rMove⟩⟩,
  ⟨none, some 72, [(.tmp 6)], ⟨.lr 6 9 true, rAny xl_law06_SlotEmpty (.lr 6 9 true)⟩⟩,
  ⟨none, some 73, [(.tmp 71), (.tmp 72)], ⟨.call .write s_slot_Take_Step v_slot_Take_Step, rCall v_slot_Take_Step⟩⟩,
  ⟨none, some 74, [(.tmp 73)], ⟨.f (fUn .not), rNot⟩⟩])
 (.cond (.tmp 74)
 (.seq none
 (.reg [⟨none, some 4, [(.const (.bool false))], ⟨.f fMove, rMove⟩⟩])
 .ret)
 .skip))
 (.seq none
 (.reg [⟨none, some 76, [(.tmp 15)], ⟨.f fMove, rMove⟩⟩,
  ⟨none, some 77, [(.tmp 76)], ⟨.call .read s_slot_Take_Slot v_slot_Take_Slot, rCall v_slot_Take_Slot⟩⟩,
  ⟨none, some 75, [(.tmp 77)], ⟨.f fMove, rMove⟩⟩,
  ⟨none, some 78, [(.tmp 75)], ⟨.f (fExt 0), rAny xl_law06_SlotEmpty (.f (fExt 0))⟩⟩,
  ⟨none, some 79, [(.tmp 75)], ⟨.f (fExt 1), rAny xl_law06_SlotEmpty (.f (fExt 1))⟩⟩,
  ⟨none, some 16, [(.tmp 78)], ⟨.f fMove, rMove⟩⟩,
  ⟨none, some 17, [(.tmp 79)], ⟨.f fMove, rMove⟩⟩])
 (.seq none
 (.reg [⟨none, some 80, [(.tmp 17)], ⟨.f fMove, rMove⟩⟩])
 (.cond (.tmp 80)
 (.seq none
 (.reg [⟨none, some 4, [(.const (.bool false))], ⟨.f fMove, rMove⟩⟩])
 .ret)
 .skip))))))
 (.reg [⟨none, some 67, [(.tmp 14)], ⟨.f fMove, rMove⟩⟩,
  ⟨none, some 68, [(.tmp 67), (.const (.int .i64 1))], ⟨.f (fBin .add .no), rAdd⟩⟩,
  ⟨none, some 14, [(.tmp 68)], ⟨.f fMove, rMove⟩⟩]))))))
 (.seq (some ([], []))
 (.seq none
 (.reg [⟨none, some 18, [(.const (.int .i64 0))], ⟨.f fMove, rMove⟩⟩])
 (.block 6
 (.loop ([12, 18], [6])
 (.seq none
 (.seq none
 (.reg [⟨none, some 81, [(.tmp 18)], ⟨.f fMove, rMove⟩⟩,
  ⟨none, some 82, [(.tmp 12)], ⟨.f fMove, rMove⟩⟩,
  ⟨none, some 83, [(.tmp 82)], ⟨.f fLen, rAny xl_law06_SlotEmpty (.f fLen)⟩⟩,
  ⟨none, some 84, [(.tmp 81), (.tmp 83)], ⟨.f (fBin .lss .no), rLss⟩⟩])
 (.cond (.tmp 84)
 .skip
 (.exit 6)))
 (.seq none
 (.block 7
 (.seq none
 (.reg [⟨none, some 87, [(.tmp 6)], ⟨.f (fFld 7), rFld 7⟩⟩,
  ⟨none, some 88, [(.tmp 87)], ⟨.lr 6 1 false, rLr1 6⟩⟩,
  ⟨none, some 89, [(.tmp 18)], ⟨.f fMove, rMove⟩⟩,
  ⟨none, some 90, [(.tmp 88), (.tmp 89)], ⟨.call .read s_mem_Mem_Peek v_mem_Mem_Peek, rCall v_mem_Mem_Peek⟩⟩,
  ⟨none, some 91, [(.tmp 12)], ⟨.f fMove, rMove⟩⟩,
  ⟨none, some 92, [(.tmp 18)], ⟨.f fMove, rMove⟩⟩,
  ⟨none, some 93, [(.tmp 91), (.tmp 92)], ⟨.f (fIxS 1), rIxS 1⟩⟩,
  ⟨none, some 94, [(.tmp 93)], ⟨.load 1 false, rLoad1⟩⟩,
  ⟨none, some 95, [(.tmp 90), (.tmp 94)], ⟨.f (fBin .neq .no), rNeq⟩⟩])
 (.cond (.tmp 95)
 (.seq none
 (.reg [⟨none, some 4, [(.const (.bool false))], ⟨.f fMove, rMove⟩⟩])
 .ret)
 .skip)))
 (.reg [⟨none, some 85, [(.tmp 18)], ⟨.f fMove, rMove⟩⟩,
  ⟨none, some 86, [(.tmp 85), (.const (.int .i64 1))], ⟨.f (fBin .add .no), rAdd⟩⟩,
  ⟨none, some 18, [(.tmp 86)], ⟨.f fMove, rMove⟩⟩]))))))
 (.seq none
 (.reg [⟨none, some 4, [(.const (.bool true))], ⟨.f fMove, rMove⟩⟩])
 .ret))))))))))
noncomputable def v_law06_SlotEmpty : EvF := evFn 2 xc_law06_SlotEmpty [.t 4]
theorem xt_law06_SlotEmpty : toC cx_law06_SlotEmpty (bodyOf Try.f8) = some (xc_law06_SlotEmpty.map XN.sm) := by kernel_rfl
theorem xr_law06_SlotEmpty : toR cx_law06_SlotEmpty Try.f8.results.toList = some [.t 4] := by kernel_rfl
theorem xo_law06_SlotEmpty : xc_law06_SlotEmpty.ok xl_law06_SlotEmpty := ⟨⟨rMove_ok, trivial⟩, ⟨⟨rMove_ok, rAny_ok (trivial), rAdd_ok, rMove_ok, trivial⟩, ⟨⟨rMove_ok, rCall_ok ve_law04_Arena, rMove_ok, rAny_ok (eqv_ext _), rAny_ok (eqv_ext _), rAny_ok (trivial), rAny_ok (trivial), rMove_ok, trivial⟩, ⟨⟨⟨rCall_ok ve_law06_awake, rNot_ok, rMove_ok, rMove_ok, rNot_ok, rPick_ok, trivial⟩, ⟨⟨⟨rMove_ok, trivial⟩, trivial⟩, trivial⟩⟩, ⟨⟨⟨rMove_ok, trivial⟩, ⟨⟨⟨rMove_ok, rMove_ok, rLss_ok, trivial⟩, ⟨trivial, trivial⟩⟩, ⟨⟨⟨rAny_ok (trivial), rCall_ok ve_law06_take, rMove_ok, rAny_ok (eqv_ext _), rAny_ok (eqv_ext _), rAny_ok (eqv_ext _), rMove_ok, rMove_ok, rMove_ok, trivial⟩, ⟨⟨rMove_ok, rNot_ok, trivial⟩, ⟨⟨⟨rMove_ok, trivial⟩, trivial⟩, trivial⟩⟩⟩, ⟨rMove_ok, rAdd_ok, rMove_ok, trivial⟩⟩⟩⟩, ⟨⟨rFld_ok _, rLr1_ok _, rCall_ok ve_mem_Mem_Len, rAny_ok (trivial), rMove_ok, trivial⟩, ⟨⟨⟨rMove_ok, trivial⟩, ⟨⟨⟨rMove_ok, rMove_ok, rAny_ok (eqv_len), rLss_ok, trivial⟩, ⟨trivial, trivial⟩⟩, ⟨⟨rMove_ok, rMove_ok, rFld_ok _, rLr1_ok _, rMove_ok, rCall_ok ve_mem_Mem_Peek, rIxS_ok _, rStore1_ok, trivial⟩, ⟨rMove_ok, rAdd_ok, rMove_ok, trivial⟩⟩⟩⟩, ⟨⟨⟨rMove_ok, trivial⟩, ⟨⟨⟨rMove_ok, rMove_ok, rAny_ok (trivial), rLss_ok, trivial⟩, ⟨trivial, trivial⟩⟩, ⟨⟨⟨rAny_ok (eqv_build _ rfl _), rAny_ok (trivial), rMove_ok, trivial⟩, ⟨⟨⟨rMove_ok, rAny_ok (trivial), rCall_ok ve_slot_Take_Step, rNot_ok, trivial⟩, ⟨⟨⟨rMove_ok, trivial⟩, trivial⟩, trivial⟩⟩, ⟨⟨rMove_ok, rCall_ok ve_slot_Take_Slot, rMove_ok, rAny_ok (eqv_ext _), rAny_ok (eqv_ext _), rMove_ok, rMove_ok, trivial⟩, ⟨⟨rMove_ok, trivial⟩, ⟨⟨⟨rMove_ok, trivial⟩, trivial⟩, trivial⟩⟩⟩⟩⟩, ⟨rMove_ok, rAdd_ok, rMove_ok, trivial⟩⟩⟩⟩, ⟨⟨⟨rMove_ok, trivial⟩, ⟨⟨⟨rMove_ok, rMove_ok, rAny_ok (eqv_len), rLss_ok, trivial⟩, ⟨trivial, trivial⟩⟩, ⟨⟨⟨rFld_ok _, rLr1_ok _, rMove_ok, rCall_ok ve_mem_Mem_Peek, rMove_ok, rMove_ok, rIxS_ok _, rLoad1_ok, rNeq_ok, trivial⟩, ⟨⟨⟨rMove_ok, trivial⟩, trivial⟩, trivial⟩⟩, ⟨rMove_ok, rAdd_ok, rMove_ok, trivial⟩⟩⟩⟩, ⟨⟨rMove_ok, trivial⟩, trivial⟩⟩⟩⟩⟩⟩⟩⟩⟩⟩
theorem ve_law06_SlotEmpty : EvOk s_law06_SlotEmpty v_law06_SlotEmpty := EvOk.of (evFn_sound (C := cx_law06_SlotEmpty) xt_law06_SlotEmpty xr_law06_SlotEmpty xo_law06_SlotEmpty) q_law06_SlotEmpty

attribute [irreducible] w_law06_SlotEmpty_j5b w_law06_SlotEmpty_j5 w_law06_SlotEmpty_l27b w_law06_SlotEmpty_l27 w_law06_SlotEmpty_j4b w_law06_SlotEmpty_j4 w_law06_SlotEmpty_l18b w_law06_SlotEmpty_l18 w_law06_SlotEmpty_j3b w_law06_SlotEmpty_j3 w_law06_SlotEmpty_l14b w_law06_SlotEmpty_l14 w_law06_SlotEmpty_j2b w_law06_SlotEmpty_j2 w_law06_SlotEmpty_l7b w_law06_SlotEmpty_l7 w_law06_SlotEmpty_j1b w_law06_SlotEmpty_j1 w_law06_SlotEmpty s_law06_SlotEmpty

/-! ### /slot.NewGive -/
def w_slot_NewGive (a0 : Value) (K : Value → Mem → Prop) (σ : Mem) : Prop :=
xF fMove [(.pointer none)] fun v2 =>
xF fMove [a0] fun v3 =>
xF (fBuild [(0, 1), (1, 1), (2, 1)] [(.int .i64 0), (.int .i64 0), (.int .u64 0)] [1]) [v3] fun v4 =>
hBox 3 [v4] (fun v5 σ =>
xF fMove [v5] fun v2 =>
K v2 σ) σ

def s_slot_NewGive : Spec := fun args K σ => match args with
  | [a0] => w_slot_NewGive a0 K σ
  | _ => False

noncomputable def cx_slot_NewGive : Cx := { P := Try.prog, T := [], loc := [], eqt := [], n := 6, keep := [] }
theorem q_slot_NewGive : FnS cx_slot_NewGive Try.f55 (bodyOf Try.f55) 1 = s_slot_NewGive := by
  funext args K σ
  rcases args with _ | ⟨a0, _ | ⟨b, r⟩⟩ <;> kernel_rfl
theorem e_slot_NewGive : Entry Try.prog 55 .write s_slot_NewGive :=
  entry (C := cx_slot_NewGive) TOk.nil mixedOk Try.func55 (by kernel_rfl) (by kernel_rfl) (by kernel_rfl) q_slot_NewGive

def xl_slot_NewGive : List (Nat × Nat) := []
noncomputable def xc_slot_NewGive : XC XN :=
(.seq none
 (.reg [⟨none, some 2, [(.const (.pointer none))], ⟨.f fMove, rMove⟩⟩])
 (.seq none
 (.reg [⟨none, some 3, [(.tmp 0)], ⟨.f fMove, rMove⟩⟩,
  ⟨none, some 4, [(.tmp 3)], ⟨.f (fBuild [(0, 1), (1, 1), (2, 1)] [(.int .i64 0), (.int .i64 0), (.int .u64 0)] [1]), rAny xl_slot_NewGive (.f (fBuild [(0, 1), (1, 1), (2, 1)] [(.int .i64 0), (.int .i64 0), (.int .u64 0)] [1]))⟩⟩,
  ⟨none, some 5, [(.tmp 4)], ⟨.box 3, rAny xl_slot_NewGive (.box 3)⟩⟩,
  ⟨none, some 2, [(.tmp 5)], ⟨.f fMove, rMove⟩⟩])
 .ret))
noncomputable def v_slot_NewGive : EvF := evFn 1 xc_slot_NewGive [.t 2]
theorem xt_slot_NewGive : toC cx_slot_NewGive (bodyOf Try.f55) = some (xc_slot_NewGive.map XN.sm) := by kernel_rfl
theorem xr_slot_NewGive : toR cx_slot_NewGive Try.f55.results.toList = some [.t 2] := by kernel_rfl
theorem xo_slot_NewGive : xc_slot_NewGive.ok xl_slot_NewGive := ⟨⟨rMove_ok, trivial⟩, ⟨⟨rMove_ok, rAny_ok (eqv_build _ rfl _), rAny_ok (trivial), rMove_ok, trivial⟩, trivial⟩⟩
theorem ve_slot_NewGive : EvOk s_slot_NewGive v_slot_NewGive := EvOk.of (evFn_sound (C := cx_slot_NewGive) xt_slot_NewGive xr_slot_NewGive xo_slot_NewGive) q_slot_NewGive

attribute [irreducible] w_slot_NewGive s_slot_NewGive

/-! ### (*/slot.Give).Step -/
def w_slot_Give_Step_j1b (K : Value → Mem → Prop) (σ : Mem) : Prop :=
xF fMove [(.bool false)] fun v4 =>
K v4 σ

def w_slot_Give_Step_j1 (K : Value → Mem → Prop) (ts : List Value) (ls : List (List Value)) (σ : Mem) : Prop := w_slot_Give_Step_j1b K σ

def w_slot_Give_Step (a0 a1 : Value) (K : Value → Mem → Prop) (σ : Mem) : Prop :=
xC (gBox 9 [a1] []) fun c3 =>
xF fMove [(.bool false)] fun v4 =>
xF fMove [a0] fun v8 =>
xF fNil [v8] fun v9 =>
xF (fFld 2) [v9] fun v10 =>
hLoad 1 false [v10] (fun v11 σ =>
s_word_Top [v11] (fun v12 σ =>
xF fMove [v12] fun v7 =>
xF (fExt 0) [v7] fun v13 =>
xF (fExt 1) [v7] fun v14 =>
xF fMove [v13] fun v5 =>
xF fMove [v14] fun v6 =>
xJoin (w_slot_Give_Step_j1 K) fun J1 =>
xF fMove [a0] fun v15 =>
xF fNil [v15] fun v16 =>
xF (fFld 0) [v16] fun v17 =>
hLoad 1 false [v17] (fun v18 σ =>
xF (fBin .eql .no) [v18, (.int .i64 0)] fun v37 =>
xF fMove [v37] fun v36 =>
xIf v36
 (xF fMove [a0] fun v38 =>
xF fMove [a0] fun v39 =>
xO (gLoad 9 true [(locP 3)] c3) fun v40 =>
s_layout_Top [] (fun v41 σ =>
s_layout_Env_Load [v40, v41] (fun v42 σ =>
xF fNil [v38] fun v43 =>
xF (fFld 2) [v43] fun v44 =>
hStore 1 [v44, v42] (fun _v σ =>
xF fNil [v39] fun v45 =>
xF (fFld 0) [v45] fun v46 =>
hStore 1 [v46, (.int .i64 1)] (fun _v σ =>
J1 [] [] σ) σ) σ) σ) σ)
 (xF (fBin .eql .no) [v18, (.int .i64 1)] fun v48 =>
xF fMove [v48] fun v47 =>
xIf v47
 (xO (gLoad 9 true [(locP 3)] c3) fun v49 =>
xF (fFld 0) [(locP 3)] fun v50 =>
xO (gLoad 7 true [v50] c3) fun v51 =>
xF fMove [a0] fun v52 =>
xF fNil [v52] fun v53 =>
xF (fFld 1) [v53] fun v54 =>
hLoad 1 false [v54] (fun v55 σ =>
s_layout_Slot [v51, v55] (fun v56 σ =>
xF (fBin .add .no) [v56, (.int .i64 1)] fun v57 =>
xF fMove [v5] fun v58 =>
s_word_PutTop [v58, (.int .i64 0)] (fun v59 σ =>
s_layout_Env_Store [v49, v57, v59] (fun v60 σ =>
xF fMove [a0] fun v61 =>
xF fNil [v61] fun v62 =>
xF (fFld 0) [v62] fun v63 =>
hStore 1 [v63, (.int .i64 2)] (fun _v σ =>
J1 [] [] σ) σ) σ) σ) σ) σ)
 (xF fMove [a0] fun v19 =>
xF fNil [v19] fun v20 =>
xF (fFld 0) [v20] fun v21 =>
hStore 1 [v21, (.int .i64 0)] (fun _v σ =>
xO (gLoad 9 true [(locP 3)] c3) fun v22 =>
s_layout_Top [] (fun v23 σ =>
xF fMove [a0] fun v24 =>
xF fNil [v24] fun v25 =>
xF (fFld 2) [v25] fun v26 =>
hLoad 1 false [v26] (fun v27 σ =>
xF fMove [a0] fun v28 =>
xF fNil [v28] fun v29 =>
xF (fFld 1) [v29] fun v30 =>
hLoad 1 false [v30] (fun v31 σ =>
xF fMove [v6] fun v32 =>
xF (fBin .add .no) [v32, (.int .i64 1)] fun v33 =>
s_word_PutTop [v31, v33] (fun v34 σ =>
s_layout_Env_Cas [v22, v23, v27, v34] (fun v35 σ =>
xF fMove [v35] fun v4 =>
K v4 σ) σ) σ) σ) σ) σ) σ))) σ) σ) σ

def s_slot_Give_Step : Spec := fun args K σ => match args with
  | [a0, a1] => w_slot_Give_Step a0 a1 K σ
  | _ => False

noncomputable def cx_slot_Give_Step : Cx := { P := Try.prog, T := [(57, .none, s_word_Top), (29, .none, s_layout_Top), (43, .write, s_layout_Env_Load), (32, .none, s_layout_Slot), (60, .none, s_word_PutTop), (44, .write, s_layout_Env_Store), (47, .write, s_layout_Env_Cas)], loc := [(3, 3), (50, 3)], eqt := [], n := 64, keep := [(1000011, [], [])] }
theorem q_slot_Give_Step : FnS cx_slot_Give_Step Try.f54 (bodyOf Try.f54) 2 = s_slot_Give_Step := by
  funext args K σ
  rcases args with _ | ⟨a0, _ | ⟨a1, _ | ⟨b, r⟩⟩⟩ <;> kernel_rfl
theorem e_slot_Give_Step : Entry Try.prog 54 .write s_slot_Give_Step :=
  entry (C := cx_slot_Give_Step) (TOk.cons e_word_Top (TOk.cons e_layout_Top (TOk.cons e_layout_Env_Load (TOk.cons e_layout_Slot (TOk.cons e_word_PutTop (TOk.cons e_layout_Env_Store (TOk.cons e_layout_Env_Cas TOk.nil))))))) mixedOk Try.func54 (by kernel_rfl) (by kernel_rfl) (by kernel_rfl) q_slot_Give_Step

def xl_slot_Give_Step : List (Nat × Nat) := [(3, 3), (50, 3)]
noncomputable def xc_slot_Give_Step : XC XN :=
(.seq none
 (.reg [⟨none, some 3, [(.tmp 1)], ⟨.lb 3 9, rAny xl_slot_Give_Step (.lb 3 9)⟩⟩,
  ⟨none, some 4, [(.const (.bool false))], ⟨.f fMove, rMove⟩⟩])
 (.seq none
 (.reg [⟨none, some 8, [(.tmp 0)], ⟨.f fMove, rMove⟩⟩,
  ⟨none, some 9, [(.tmp 8)], ⟨.f fNil, rNil⟩⟩,
  ⟨none, some 10, [(.tmp 9)], ⟨.f (fFld 2), rFld 2⟩⟩,
  ⟨none, some 11, [(.tmp 10)], ⟨.load 1 false, rLoad1⟩⟩,
  ⟨none, some 12, [(.tmp 11)], ⟨.call .none s_word_Top v_word_Top, rCall v_word_Top⟩⟩,
  ⟨none, some 7, [(.tmp 12)], ⟨.f fMove, rMove⟩⟩,
  ⟨none, some 13, [(.tmp 7)], ⟨.f (fExt 0), rAny xl_slot_Give_Step (.f (fExt 0))⟩⟩,
  ⟨none, some 14, [(.tmp 7)], ⟨.f (fExt 1), rAny xl_slot_Give_Step (.f (fExt 1))⟩⟩,
  ⟨none, some 5, [(.tmp 13)], ⟨.f fMove, rMove⟩⟩,
  ⟨none, some 6, [(.tmp 14)], ⟨.f fMove, rMove⟩⟩])
 (.seq (some ([], []))
 (.seq none
 (.reg [⟨none, some 15, [(.tmp 0)], ⟨.f fMove, rMove⟩⟩,
  ⟨none, some 16, [(.tmp 15)], ⟨.f fNil, rNil⟩⟩,
  ⟨none, some 17, [(.tmp 16)], ⟨.f (fFld 0), rFld 0⟩⟩,
  ⟨none, some 18, [(.tmp 17)], ⟨.load 1 false, rLoad1⟩⟩])
 (.block 0
 (.seq none
 (.reg [⟨none, some 37, [(.tmp 18), (.const (.int .i64 0))], ⟨.f (fBin .eql .no), rEql⟩⟩,
  ⟨none, some 36, [(.tmp 37)], ⟨.f fMove, rMove⟩⟩])
 (.cond (.tmp 36)
 (.reg [⟨none, some 38, [(.tmp 0)], ⟨.f fMove, rMove⟩⟩,
  ⟨none, some 39, [(.tmp 0)], ⟨.f fMove, rMove⟩⟩,
  ⟨none, some 40, [(.tmp 3)], ⟨.lr 3 9 true, rAny xl_slot_Give_Step (.lr 3 9 true)⟩⟩,
  ⟨none, some 41, [], ⟨.call .none s_layout_Top v_layout_Top, rCall v_layout_Top⟩⟩,
  ⟨none, some 42, [(.tmp 40), (.tmp 41)], ⟨.call .write s_layout_Env_Load v_layout_Env_Load, rCall v_layout_Env_Load⟩⟩,
  ⟨none, some 43, [(.tmp 38)], ⟨.f fNil, rNil⟩⟩,
  ⟨none, some 44, [(.tmp 43)], ⟨.f (fFld 2), rFld 2⟩⟩,
  ⟨none, none, [(.tmp 44), (.tmp 42)], ⟨.store 1, rStore1⟩⟩,
  ⟨none, some 45, [(.tmp 39)], ⟨.f fNil, rNil⟩⟩,
  ⟨none, some 46, [(.tmp 45)], ⟨.f (fFld 0), rFld 0⟩⟩,
  ⟨none, none, [(.tmp 46), (.const (.int .i64 1))], ⟨.store 1, rStore1⟩⟩])
 (.seq none
 (.reg [⟨none, some 48, [(.tmp 18), (.const (.int .i64 1))], ⟨.f (fBin .eql .no), rEql⟩⟩,
  ⟨none, some 47, [(.tmp 48)], ⟨.f fMove, rMove⟩⟩])
 (.cond (.tmp 47)
 (.seq none
 (.reg [⟨none, some 49, [(.tmp 3)], ⟨.lr 3 9 true, rAny xl_slot_Give_Step (.lr 3 9 true)⟩⟩,
  ⟨none, some 50, [(.tmp 3)], ⟨.f (fFld 0), rFld 0⟩⟩,
  ⟨none, some 51, [(.tmp 50)], ⟨.lr 3 7 true, rAny xl_slot_Give_Step (.lr 3 7 true)⟩⟩,
  ⟨none, some 52, [(.tmp 0)], ⟨.f fMove, rMove⟩⟩,
  ⟨none, some 53, [(.tmp 52)], ⟨.f fNil, rNil⟩⟩,
  ⟨none, some 54, [(.tmp 53)], ⟨.f (fFld 1), rFld 1⟩⟩,
  ⟨none, some 55, [(.tmp 54)], ⟨.load 1 false, rLoad1⟩⟩,
  ⟨none, some 56, [(.tmp 51), (.tmp 55)], ⟨.call .none s_layout_Slot v_layout_Slot, rCall v_layout_Slot⟩⟩,
  ⟨none, some 57, [(.tmp 56), (.const (.int .i64 1))], ⟨.f (fBin .add .no), rAdd⟩⟩,
  ⟨none, some 58, [(.tmp 5)], ⟨.f fMove, rMove⟩⟩,
  ⟨none, some 59, [(.tmp 58), (.const (.int .i64 0))], ⟨.call .none s_word_PutTop v_word_PutTop, rCall v_word_PutTop⟩⟩,
  ⟨none, some 60, [(.tmp 49), (.tmp 57), (.tmp 59)], ⟨.call .write s_layout_Env_Store v_layout_Env_Store, rCall v_layout_Env_Store⟩⟩])
 (.reg [⟨none, some 61, [(.tmp 0)], ⟨.f fMove, rMove⟩⟩,
  ⟨none, some 62, [(.tmp 61)], ⟨.f fNil, rNil⟩⟩,
  ⟨none, some 63, [(.tmp 62)], ⟨.f (fFld 0), rFld 0⟩⟩,
  ⟨none, none, [(.tmp 63), (.const (.int .i64 2))], ⟨.store 1, rStore1⟩⟩]))
 (.seq none
 (.reg [⟨none, some 19, [(.tmp 0)], ⟨.f fMove, rMove⟩⟩,
  ⟨none, some 20, [(.tmp 19)], ⟨.f fNil, rNil⟩⟩,
  ⟨none, some 21, [(.tmp 20)], ⟨.f (fFld 0), rFld 0⟩⟩,
  ⟨none, none, [(.tmp 21), (.const (.int .i64 0))], ⟨.store 1, rStore1⟩⟩])
 (.seq none
 (.reg [⟨none, some 22, [(.tmp 3)], ⟨.lr 3 9 true, rAny xl_slot_Give_Step (.lr 3 9 true)⟩⟩,
  ⟨none, some 23, [], ⟨.call .none s_layout_Top v_layout_Top, rCall v_layout_Top⟩⟩,
  ⟨none, some 24, [(.tmp 0)], ⟨.f fMove, rMove⟩⟩,
  ⟨none, some 25, [(.tmp 24)], ⟨.f fNil, rNil⟩⟩,
  ⟨none, some 26, [(.tmp 25)], ⟨.f (fFld 2), rFld 2⟩⟩,
  ⟨none, some 27, [(.tmp 26)], ⟨.load 1 false, rLoad1⟩⟩,
  ⟨none, some 28, [(.tmp 0)], ⟨.f fMove, rMove⟩⟩,
  ⟨none, some 29, [(.tmp 28)], ⟨.f fNil, rNil⟩⟩,
  ⟨none, some 30, [(.tmp 29)], ⟨.f (fFld 1), rFld 1⟩⟩,
  ⟨none, some 31, [(.tmp 30)], ⟨.load 1 false, rLoad1⟩⟩,
  ⟨none, some 32, [(.tmp 6)], ⟨.f fMove, rMove⟩⟩,
  ⟨none, some 33, [(.tmp 32), (.const (.int .i64 1))], ⟨.f (fBin .add .no), rAdd⟩⟩,
  ⟨none, some 34, [(.tmp 31), (.tmp 33)], ⟨.call .none s_word_PutTop v_word_PutTop, rCall v_word_PutTop⟩⟩,
  ⟨none, some 35, [(.tmp 22), (.tmp 23), (.tmp 27), (.tmp 34)], ⟨.call .write s_layout_Env_Cas v_layout_Env_Cas, rCall v_layout_Env_Cas⟩⟩,
  ⟨none, some 4, [(.tmp 35)], ⟨.f fMove, rMove⟩⟩])
 .ret))))))))
 (.seq none
 (.reg [⟨none, some 4, [(.const (.bool false))], ⟨.f fMove, rMove⟩⟩])
 .ret))))
noncomputable def v_slot_Give_Step : EvF := evFn 2 xc_slot_Give_Step [.t 4]
theorem xt_slot_Give_Step : toC cx_slot_Give_Step (bodyOf Try.f54) = some (xc_slot_Give_Step.map XN.sm) := by kernel_rfl
theorem xr_slot_Give_Step : toR cx_slot_Give_Step Try.f54.results.toList = some [.t 4] := by kernel_rfl
theorem xo_slot_Give_Step : xc_slot_Give_Step.ok xl_slot_Give_Step := ⟨⟨rAny_ok (trivial), rMove_ok, trivial⟩, ⟨⟨rMove_ok, rNil_ok, rFld_ok _, rLoad1_ok, rCall_ok ve_word_Top, rMove_ok, rAny_ok (eqv_ext _), rAny_ok (eqv_ext _), rMove_ok, rMove_ok, trivial⟩, ⟨⟨⟨rMove_ok, rNil_ok, rFld_ok _, rLoad1_ok, trivial⟩, ⟨⟨rEql_ok, rMove_ok, trivial⟩, ⟨⟨rMove_ok, rMove_ok, rAny_ok (trivial), rCall_ok ve_layout_Top, rCall_ok ve_layout_Env_Load, rNil_ok, rFld_ok _, rStore1_ok, rNil_ok, rFld_ok _, rStore1_ok, trivial⟩, ⟨⟨rEql_ok, rMove_ok, trivial⟩, ⟨⟨⟨rAny_ok (trivial), rFld_ok _, rAny_ok (trivial), rMove_ok, rNil_ok, rFld_ok _, rLoad1_ok, rCall_ok ve_layout_Slot, rAdd_ok, rMove_ok, rCall_ok ve_word_PutTop, rCall_ok ve_layout_Env_Store, trivial⟩, ⟨rMove_ok, rNil_ok, rFld_ok _, rStore1_ok, trivial⟩⟩, ⟨⟨rMove_ok, rNil_ok, rFld_ok _, rStore1_ok, trivial⟩, ⟨⟨rAny_ok (trivial), rCall_ok ve_layout_Top, rMove_ok, rNil_ok, rFld_ok _, rLoad1_ok, rMove_ok, rNil_ok, rFld_ok _, rLoad1_ok, rMove_ok, rAdd_ok, rCall_ok ve_word_PutTop, rCall_ok ve_layout_Env_Cas, rMove_ok, trivial⟩, trivial⟩⟩⟩⟩⟩⟩⟩, ⟨⟨rMove_ok, trivial⟩, trivial⟩⟩⟩⟩
theorem ve_slot_Give_Step : EvOk s_slot_Give_Step v_slot_Give_Step := EvOk.of (evFn_sound (C := cx_slot_Give_Step) xt_slot_Give_Step xr_slot_Give_Step xo_slot_Give_Step) q_slot_Give_Step

attribute [irreducible] w_slot_Give_Step_j1b w_slot_Give_Step_j1 w_slot_Give_Step s_slot_Give_Step

/-! ### /law06.give -/
def w_law06_give_j1b (K : Value → Mem → Prop) (v6 : Value) (c2 : List Value) (σ : Mem) : Prop :=
xO (gLoad 9 true [(locP 2)] c2) fun v19 =>
s_layout_Env_Now [v19] (fun v20 σ =>
xF fMove [v6] fun v21 =>
xF (fBin .sub .no) [v20, v21] fun v22 =>
xF fMove [v22] fun v4 =>
K v4 σ) σ

def w_law06_give_j1 (K : Value → Mem → Prop) (ts : List Value) (ls : List (List Value)) (σ : Mem) : Prop := w_law06_give_j1b K (ts.getD 0 poison) (ls.getD 0 []) σ

def w_law06_give_l4b (K : Value → Mem → Prop) (J1 : List Value → List (List Value) → Mem → Prop) (R1 : List Value → List (List Value) → Mem → Prop) (v5 v6 v7 : Value) (c2 : List Value) (σ : Mem) : Prop :=
xF fMove [v7] fun v12 =>
xF (fBin .lss .no) [v12, (.int .i64 10)] fun v13 =>
xIf v13
 (xF fMove [v5] fun v16 =>
xO (gLoad 9 true [(locP 2)] c2) fun v17 =>
s_slot_Give_Step [v16, v17] (fun v18 σ =>
xIf v18
 (J1 [v6] [c2] σ)
 (xF fMove [v7] fun v14 =>
xF (fBin .add .no) [v14, (.int .i64 1)] fun v15 =>
xF fMove [v15] fun v7 =>
R1 [v5, v6, v7] [c2] σ)) σ)
 (J1 [v6] [c2] σ)

def w_law06_give_l4 (K : Value → Mem → Prop) (J1 : List Value → List (List Value) → Mem → Prop) (R1 : List Value → List (List Value) → Mem → Prop) (ts : List Value) (ls : List (List Value)) (σ : Mem) : Prop := w_law06_give_l4b K J1 R1 (ts.getD 0 poison) (ts.getD 1 poison) (ts.getD 2 poison) (ls.getD 0 []) σ

def w_law06_give (a0 a1 : Value) (K : Value → Mem → Prop) (σ : Mem) : Prop :=
xC (gBox 9 [a0] []) fun c2 =>
xF fMove [(.int .i64 0)] fun v4 =>
xF fMove [a1] fun v8 =>
s_slot_NewGive [v8] (fun v9 σ =>
xO (gLoad 9 true [(locP 2)] c2) fun v10 =>
s_layout_Env_Now [v10] (fun v11 σ =>
xF fMove [v9] fun v5 =>
xF fMove [v11] fun v6 =>
xJoin (w_law06_give_j1 K) fun J1 =>
xF fMove [(.int .i64 0)] fun v7 =>
xLoop (w_law06_give_l4 K J1) [v5, v6, v7] [c2] σ) σ) σ

def s_law06_give : Spec := fun args K σ => match args with
  | [a0, a1] => w_law06_give a0 a1 K σ
  | _ => False

noncomputable def cx_law06_give : Cx := { P := Try.prog, T := [(55, .write, s_slot_NewGive), (51, .read, s_layout_Env_Now), (54, .write, s_slot_Give_Step)], loc := [(2, 2)], eqt := [], n := 23, keep := [(4, [5, 6, 7], [2]), (1000007, [6], [2])] }
theorem q_law06_give : FnS cx_law06_give Try.f53 (bodyOf Try.f53) 2 = s_law06_give := by
  funext args K σ
  rcases args with _ | ⟨a0, _ | ⟨a1, _ | ⟨b, r⟩⟩⟩ <;> kernel_rfl
theorem e_law06_give : Entry Try.prog 53 .write s_law06_give :=
  entry (C := cx_law06_give) (TOk.cons e_slot_NewGive (TOk.cons e_layout_Env_Now (TOk.cons e_slot_Give_Step TOk.nil))) mixedOk Try.func53 (by kernel_rfl) (by kernel_rfl) (by kernel_rfl) q_law06_give

def xl_law06_give : List (Nat × Nat) := [(2, 2)]
noncomputable def xc_law06_give : XC XN :=
(.seq none
 (.reg [⟨none, some 2, [(.tmp 0)], ⟨.lb 2 9, rAny xl_law06_give (.lb 2 9)⟩⟩,
  ⟨none, some 4, [(.const (.int .i64 0))], ⟨.f fMove, rMove⟩⟩])
 (.seq none
 (.reg [⟨none, some 8, [(.tmp 1)], ⟨.f fMove, rMove⟩⟩,
  ⟨none, some 9, [(.tmp 8)], ⟨.call .write s_slot_NewGive v_slot_NewGive, rCall v_slot_NewGive⟩⟩,
  ⟨none, some 10, [(.tmp 2)], ⟨.lr 2 9 true, rAny xl_law06_give (.lr 2 9 true)⟩⟩,
  ⟨none, some 11, [(.tmp 10)], ⟨.call .read s_layout_Env_Now v_layout_Env_Now, rCall v_layout_Env_Now⟩⟩,
  ⟨none, some 5, [(.tmp 9)], ⟨.f fMove, rMove⟩⟩,
  ⟨none, some 6, [(.tmp 11)], ⟨.f fMove, rMove⟩⟩])
 (.seq (some ([6], [2]))
 (.seq none
 (.reg [⟨none, some 7, [(.const (.int .i64 0))], ⟨.f fMove, rMove⟩⟩])
 (.block 0
 (.loop ([5, 6, 7], [2])
 (.seq none
 (.seq none
 (.reg [⟨none, some 12, [(.tmp 7)], ⟨.f fMove, rMove⟩⟩,
  ⟨none, some 13, [(.tmp 12), (.const (.int .i64 10))], ⟨.f (fBin .lss .no), rLss⟩⟩])
 (.cond (.tmp 13)
 .skip
 (.exit 0)))
 (.seq none
 (.block 1
 (.seq none
 (.reg [⟨none, some 16, [(.tmp 5)], ⟨.f fMove, rMove⟩⟩,
  ⟨none, some 17, [(.tmp 2)], ⟨.lr 2 9 true, rAny xl_law06_give (.lr 2 9 true)⟩⟩,
  ⟨none, some 18, [(.tmp 16), (.tmp 17)], ⟨.call .write s_slot_Give_Step v_slot_Give_Step, rCall v_slot_Give_Step⟩⟩])
 (.cond (.tmp 18)
 (.exit 0)
 .skip)))
 (.reg [⟨none, some 14, [(.tmp 7)], ⟨.f fMove, rMove⟩⟩,
  ⟨none, some 15, [(.tmp 14), (.const (.int .i64 1))], ⟨.f (fBin .add .no), rAdd⟩⟩,
  ⟨none, some 7, [(.tmp 15)], ⟨.f fMove, rMove⟩⟩]))))))
 (.seq none
 (.reg [⟨none, some 19, [(.tmp 2)], ⟨.lr 2 9 true, rAny xl_law06_give (.lr 2 9 true)⟩⟩,
  ⟨none, some 20, [(.tmp 19)], ⟨.call .read s_layout_Env_Now v_layout_Env_Now, rCall v_layout_Env_Now⟩⟩,
  ⟨none, some 21, [(.tmp 6)], ⟨.f fMove, rMove⟩⟩,
  ⟨none, some 22, [(.tmp 20), (.tmp 21)], ⟨.f (fBin .sub .no), rSub⟩⟩,
  ⟨none, some 4, [(.tmp 22)], ⟨.f fMove, rMove⟩⟩])
 .ret))))
noncomputable def v_law06_give : EvF := evFn 2 xc_law06_give [.t 4]
theorem xt_law06_give : toC cx_law06_give (bodyOf Try.f53) = some (xc_law06_give.map XN.sm) := by kernel_rfl
theorem xr_law06_give : toR cx_law06_give Try.f53.results.toList = some [.t 4] := by kernel_rfl
theorem xo_law06_give : xc_law06_give.ok xl_law06_give := ⟨⟨rAny_ok (trivial), rMove_ok, trivial⟩, ⟨⟨rMove_ok, rCall_ok ve_slot_NewGive, rAny_ok (trivial), rCall_ok ve_layout_Env_Now, rMove_ok, rMove_ok, trivial⟩, ⟨⟨⟨rMove_ok, trivial⟩, ⟨⟨⟨rMove_ok, rLss_ok, trivial⟩, ⟨trivial, trivial⟩⟩, ⟨⟨⟨rMove_ok, rAny_ok (trivial), rCall_ok ve_slot_Give_Step, trivial⟩, ⟨trivial, trivial⟩⟩, ⟨rMove_ok, rAdd_ok, rMove_ok, trivial⟩⟩⟩⟩, ⟨⟨rAny_ok (trivial), rCall_ok ve_layout_Env_Now, rMove_ok, rSub_ok, rMove_ok, trivial⟩, trivial⟩⟩⟩⟩
theorem ve_law06_give : EvOk s_law06_give v_law06_give := EvOk.of (evFn_sound (C := cx_law06_give) xt_law06_give xr_law06_give xo_law06_give) q_law06_give

attribute [irreducible] w_law06_give_j1b w_law06_give_j1 w_law06_give_l4b w_law06_give_l4 w_law06_give s_law06_give

/-! ### /law06.SlotAlone -/
def w_law06_SlotAlone_j3b (K : Value → Mem → Prop) (σ : Mem) : Prop :=
xF fMove [(.bool true)] fun v4 =>
K v4 σ

def w_law06_SlotAlone_j3 (K : Value → Mem → Prop) (ts : List Value) (ls : List (List Value)) (σ : Mem) : Prop := w_law06_SlotAlone_j3b K σ

def w_law06_SlotAlone_j5b (K : Value → Mem → Prop) (J3 : List Value → List (List Value) → Mem → Prop) (R1 : List Value → List (List Value) → Mem → Prop) (v1 v8 v9 v11 : Value) (c6 : List Value) (σ : Mem) : Prop :=
xF fMove [v11] fun v50 =>
xF (fBin .add .no) [v50, (.int .i64 1)] fun v51 =>
xF fMove [v51] fun v11 =>
R1 [v1, v8, v9, v11] [c6] σ

def w_law06_SlotAlone_j5 (K : Value → Mem → Prop) (J3 : List Value → List (List Value) → Mem → Prop) (R1 : List Value → List (List Value) → Mem → Prop) (ts : List Value) (ls : List (List Value)) (σ : Mem) : Prop := w_law06_SlotAlone_j5b K J3 R1 (ts.getD 0 poison) (ts.getD 1 poison) (ts.getD 2 poison) (ts.getD 3 poison) (ls.getD 0 []) σ

def w_law06_SlotAlone_j6b (K : Value → Mem → Prop) (J3 : List Value → List (List Value) → Mem → Prop) (R1 : List Value → List (List Value) → Mem → Prop) (J5 : List Value → List (List Value) → Mem → Prop) (v1 v8 v9 v11 v12 v13 v91 : Value) (c6 : List Value) (σ : Mem) : Prop :=
xIf v91
 (xF fMove [(.bool false)] fun v4 =>
K v4 σ)
 (xF fMove [v13] fun v92 =>
xIf v92
 (xF fMove [v8] fun v93 =>
xF fMove [v8] fun v94 =>
xF fLen [v94] fun v95 =>
xF (fBin .sub .no) [v95, (.int .i64 1)] fun v96 =>
xF (fSl 1 false true) [v93, v96] fun v97 =>
xF fMove [v9] fun v98 =>
xF fMove [v12] fun v99 =>
xC (gBuildS 1 1 [(.int .i64 0)] [0] [v99] []) fun c100 =>
hAppendL 1 8 c100 [v98, (locS 100 1 1)] (fun v101 σ =>
xF fMove [v97] fun v8 =>
xF fMove [v101] fun v9 =>
J5 [v1, v8, v9, v11] [c6] σ) σ)
 (J5 [v1, v8, v9, v11] [c6] σ))

def w_law06_SlotAlone_j6 (K : Value → Mem → Prop) (J3 : List Value → List (List Value) → Mem → Prop) (R1 : List Value → List (List Value) → Mem → Prop) (J5 : List Value → List (List Value) → Mem → Prop) (ts : List Value) (ls : List (List Value)) (σ : Mem) : Prop := w_law06_SlotAlone_j6b K J3 R1 J5 (ts.getD 0 poison) (ts.getD 1 poison) (ts.getD 2 poison) (ts.getD 3 poison) (ts.getD 4 poison) (ts.getD 5 poison) (ts.getD 6 poison) (ls.getD 0 []) σ

def w_law06_SlotAlone_j4b (K : Value → Mem → Prop) (J3 : List Value → List (List Value) → Mem → Prop) (R1 : List Value → List (List Value) → Mem → Prop) (v1 v8 v9 v11 : Value) (c6 : List Value) (σ : Mem) : Prop :=
xJoin (w_law06_SlotAlone_j5 K J3 R1) fun J5 =>
xF fMove [v1] fun v52 =>
xF fMove [v11] fun v53 =>
xF (fIxS 1) [v52, v53] fun v54 =>
hLoad 1 false [v54] (fun v55 σ =>
xIf v55
 (xO (gLoad 9 true [(locP 6)] c6) fun v57 =>
s_law06_take [v57] (fun v58 σ =>
xF fMove [v58] fun v56 =>
xF (fExt 0) [v56] fun v59 =>
xF (fExt 1) [v56] fun v60 =>
xF (fExt 2) [v56] fun v61 =>
xF fMove [v59] fun v12 =>
xF fMove [v60] fun v13 =>
xF fMove [v61] fun v14 =>
xJoin (w_law06_SlotAlone_j6 K J3 R1 J5) fun J6 =>
xF fMove [v13] fun v62 =>
xF fMove [v8] fun v63 =>
xF fLen [v63] fun v64 =>
xF (fBin .gtr .no) [v64, (.int .i64 0)] fun v65 =>
xF (fBin .neq .bool) [v62, v65] fun v66 =>
xF fMove [v66] fun v67 =>
xIf v67
 (xF fPick [(.bool true), (.bool true), undef] fun v83 =>
xF fMove [v83] fun v84 =>
xIf v84
 (xF fPick [(.bool true), (.bool true), undef] fun v91 =>
J6 [v1, v8, v9, v11, v12, v13, v91] [c6] σ)
 (xF fMove [v13] fun v85 =>
xF (fUn .not) [v85] fun v86 =>
xF fMove [v86] fun v87 =>
xIf v87
 (xF fMove [v14] fun v88 =>
xF (fBin .neq .no) [v88, (.int .i64 1)] fun v89 =>
xF fPick [(.bool true), v89, (.bool false)] fun v90 =>
xF fPick [(.bool false), (.bool true), v90] fun v91 =>
J6 [v1, v8, v9, v11, v12, v13, v91] [c6] σ)
 (xF fPick [(.bool false), undef, (.bool false)] fun v90 =>
xF fPick [(.bool false), (.bool true), v90] fun v91 =>
J6 [v1, v8, v9, v11, v12, v13, v91] [c6] σ)))
 (xF fMove [v13] fun v68 =>
xF fMove [v68] fun v69 =>
xIf v69
 (xF fMove [v12] fun v70 =>
xF fMove [v8] fun v71 =>
xF fMove [v8] fun v72 =>
xF fLen [v72] fun v73 =>
xF (fBin .sub .no) [v73, (.int .i64 1)] fun v74 =>
xF (fIxS 1) [v71, v74] fun v75 =>
hLoad 1 false [v75] (fun v76 σ =>
xF (fBin .neq .no) [v70, v76] fun v77 =>
xF fMove [v77] fun v78 =>
xIf v78
 (xF fPick [(.bool true), (.bool true), undef] fun v81 =>
xF fPick [(.bool true), v81, (.bool false)] fun v82 =>
xF fPick [(.bool false), (.bool true), v82] fun v83 =>
xF fMove [v83] fun v84 =>
xIf v84
 (xF fPick [(.bool true), (.bool true), undef] fun v91 =>
J6 [v1, v8, v9, v11, v12, v13, v91] [c6] σ)
 (xF fMove [v13] fun v85 =>
xF (fUn .not) [v85] fun v86 =>
xF fMove [v86] fun v87 =>
xIf v87
 (xF fMove [v14] fun v88 =>
xF (fBin .neq .no) [v88, (.int .i64 1)] fun v89 =>
xF fPick [(.bool true), v89, (.bool false)] fun v90 =>
xF fPick [(.bool false), (.bool true), v90] fun v91 =>
J6 [v1, v8, v9, v11, v12, v13, v91] [c6] σ)
 (xF fPick [(.bool false), undef, (.bool false)] fun v90 =>
xF fPick [(.bool false), (.bool true), v90] fun v91 =>
J6 [v1, v8, v9, v11, v12, v13, v91] [c6] σ)))
 (xF fMove [v14] fun v79 =>
xF (fBin .neq .no) [v79, (.int .i64 3)] fun v80 =>
xF fPick [(.bool false), (.bool true), v80] fun v81 =>
xF fPick [(.bool true), v81, (.bool false)] fun v82 =>
xF fPick [(.bool false), (.bool true), v82] fun v83 =>
xF fMove [v83] fun v84 =>
xIf v84
 (xF fPick [(.bool true), (.bool true), undef] fun v91 =>
J6 [v1, v8, v9, v11, v12, v13, v91] [c6] σ)
 (xF fMove [v13] fun v85 =>
xF (fUn .not) [v85] fun v86 =>
xF fMove [v86] fun v87 =>
xIf v87
 (xF fMove [v14] fun v88 =>
xF (fBin .neq .no) [v88, (.int .i64 1)] fun v89 =>
xF fPick [(.bool true), v89, (.bool false)] fun v90 =>
xF fPick [(.bool false), (.bool true), v90] fun v91 =>
J6 [v1, v8, v9, v11, v12, v13, v91] [c6] σ)
 (xF fPick [(.bool false), undef, (.bool false)] fun v90 =>
xF fPick [(.bool false), (.bool true), v90] fun v91 =>
J6 [v1, v8, v9, v11, v12, v13, v91] [c6] σ)))) σ)
 (xF fPick [(.bool false), undef, (.bool false)] fun v82 =>
xF fPick [(.bool false), (.bool true), v82] fun v83 =>
xF fMove [v83] fun v84 =>
xIf v84
 (xF fPick [(.bool true), (.bool true), undef] fun v91 =>
J6 [v1, v8, v9, v11, v12, v13, v91] [c6] σ)
 (xF fMove [v13] fun v85 =>
xF (fUn .not) [v85] fun v86 =>
xF fMove [v86] fun v87 =>
xIf v87
 (xF fMove [v14] fun v88 =>
xF (fBin .neq .no) [v88, (.int .i64 1)] fun v89 =>
xF fPick [(.bool true), v89, (.bool false)] fun v90 =>
xF fPick [(.bool false), (.bool true), v90] fun v91 =>
J6 [v1, v8, v9, v11, v12, v13, v91] [c6] σ)
 (xF fPick [(.bool false), undef, (.bool false)] fun v90 =>
xF fPick [(.bool false), (.bool true), v90] fun v91 =>
J6 [v1, v8, v9, v11, v12, v13, v91] [c6] σ))))) σ)
 (xF fMove [v9] fun v102 =>
xF fLen [v102] fun v103 =>
xF (fBin .gtr .no) [v103, (.int .i64 0)] fun v104 =>
xIf v104
 (xF fMove [v9] fun v105 =>
xF (fIxS 1) [v105, (.int .i64 0)] fun v106 =>
hLoad 1 false [v106] (fun v107 σ =>
xF fMove [v107] fun v15 =>
xF fMove [v9] fun v108 =>
xF (fSl 1 true false) [v108, (.int .i64 1)] fun v109 =>
xF fMove [v109] fun v9 =>
xO (gLoad 9 true [(locP 6)] c6) fun v110 =>
xF fMove [v15] fun v111 =>
s_law06_give [v110, v111] (fun v112 σ =>
xF (fBin .neq .no) [v112, (.int .i64 3)] fun v113 =>
xIf v113
 (xF fMove [(.bool false)] fun v4 =>
K v4 σ)
 (hBuildS 1 0 [(.int .i64 0)] [] [] (fun v114 σ =>
xF fMove [v8] fun v115 =>
hAppend 1 8 [v114, v115] (fun v116 σ =>
xF fMove [v15] fun v117 =>
xC (gBuildS 1 1 [(.int .i64 0)] [0] [v117] []) fun c118 =>
hAppendL 1 8 c118 [v116, (locS 118 1 1)] (fun v119 σ =>
xF fMove [v119] fun v8 =>
J5 [v1, v8, v9, v11] [c6] σ) σ) σ) σ)) σ) σ)
 (J5 [v1, v8, v9, v11] [c6] σ))) σ

def w_law06_SlotAlone_j4 (K : Value → Mem → Prop) (J3 : List Value → List (List Value) → Mem → Prop) (R1 : List Value → List (List Value) → Mem → Prop) (ts : List Value) (ls : List (List Value)) (σ : Mem) : Prop := w_law06_SlotAlone_j4b K J3 R1 (ts.getD 0 poison) (ts.getD 1 poison) (ts.getD 2 poison) (ts.getD 3 poison) (ls.getD 0 []) σ

def w_law06_SlotAlone_l12b (K : Value → Mem → Prop) (J3 : List Value → List (List Value) → Mem → Prop) (R1 : List Value → List (List Value) → Mem → Prop) (v1 v8 v9 v11 : Value) (c6 : List Value) (σ : Mem) : Prop :=
xJoin (w_law06_SlotAlone_j4 K J3 R1) fun J4 =>
xF fMove [v11] fun v42 =>
xF fMove [v1] fun v43 =>
xF fLen [v43] fun v44 =>
xF (fBin .lss .no) [v42, v44] fun v45 =>
xF fMove [v45] fun v46 =>
xIf v46
 (xF fMove [v11] fun v47 =>
xF (fBin .lss .no) [v47, (.int .i64 60)] fun v48 =>
xF fPick [(.bool true), v48, (.bool false)] fun v49 =>
xIf v49
 (J4 [v1, v8, v9, v11] [c6] σ)
 (J3 [] [] σ))
 (xF fPick [(.bool false), undef, (.bool false)] fun v49 =>
xIf v49
 (J4 [v1, v8, v9, v11] [c6] σ)
 (J3 [] [] σ))

def w_law06_SlotAlone_l12 (K : Value → Mem → Prop) (J3 : List Value → List (List Value) → Mem → Prop) (R1 : List Value → List (List Value) → Mem → Prop) (ts : List Value) (ls : List (List Value)) (σ : Mem) : Prop := w_law06_SlotAlone_l12b K J3 R1 (ts.getD 0 poison) (ts.getD 1 poison) (ts.getD 2 poison) (ts.getD 3 poison) (ls.getD 0 []) σ

def w_law06_SlotAlone_j2b (K : Value → Mem → Prop) (v1 v8 v9 : Value) (c6 : List Value) (σ : Mem) : Prop :=
xJoin (w_law06_SlotAlone_j3 K) fun J3 =>
xF fMove [(.int .i64 0)] fun v11 =>
xLoop (w_law06_SlotAlone_l12 K J3) [v1, v8, v9, v11] [c6] σ

def w_law06_SlotAlone_j2 (K : Value → Mem → Prop) (ts : List Value) (ls : List (List Value)) (σ : Mem) : Prop := w_law06_SlotAlone_j2b K (ts.getD 0 poison) (ts.getD 1 poison) (ts.getD 2 poison) (ls.getD 0 []) σ

def w_law06_SlotAlone_l8b (K : Value → Mem → Prop) (J2 : List Value → List (List Value) → Mem → Prop) (R1 : List Value → List (List Value) → Mem → Prop) (v1 v8 v9 v10 : Value) (c6 : List Value) (σ : Mem) : Prop :=
xF fMove [v10] fun v34 =>
xF (fBin .geq .no) [v34, (.int .i64 0)] fun v35 =>
xIf v35
 (xF fMove [v8] fun v38 =>
xF fMove [v10] fun v39 =>
xC (gBuildS 1 1 [(.int .i64 0)] [0] [v39] []) fun c40 =>
hAppendL 1 8 c40 [v38, (locS 40 1 1)] (fun v41 σ =>
xF fMove [v41] fun v8 =>
xF fMove [v10] fun v36 =>
xF (fBin .sub .no) [v36, (.int .i64 1)] fun v37 =>
xF fMove [v37] fun v10 =>
R1 [v1, v8, v9, v10] [c6] σ) σ)
 (J2 [v1, v8, v9] [c6] σ)

def w_law06_SlotAlone_l8 (K : Value → Mem → Prop) (J2 : List Value → List (List Value) → Mem → Prop) (R1 : List Value → List (List Value) → Mem → Prop) (ts : List Value) (ls : List (List Value)) (σ : Mem) : Prop := w_law06_SlotAlone_l8b K J2 R1 (ts.getD 0 poison) (ts.getD 1 poison) (ts.getD 2 poison) (ts.getD 3 poison) (ls.getD 0 []) σ

def w_law06_SlotAlone_j1b (K : Value → Mem → Prop) (v1 v5 v29 : Value) (c6 : List Value) (σ : Mem) : Prop :=
xIf v29
 (xF fMove [(.bool false)] fun v4 =>
K v4 σ)
 (hBuildS 1 0 [(.int .i64 0)] [] [] (fun v30 σ =>
hBuildS 1 0 [(.int .i64 0)] [] [] (fun v31 σ =>
xF fMove [v30] fun v8 =>
xF fMove [v31] fun v9 =>
xJoin (w_law06_SlotAlone_j2 K) fun J2 =>
xF fMove [v5] fun v32 =>
xF (fBin .sub .no) [v32, (.int .i64 1)] fun v33 =>
xF fMove [v33] fun v10 =>
xLoop (w_law06_SlotAlone_l8 K J2) [v1, v8, v9, v10] [c6] σ) σ) σ)

def w_law06_SlotAlone_j1 (K : Value → Mem → Prop) (ts : List Value) (ls : List (List Value)) (σ : Mem) : Prop := w_law06_SlotAlone_j1b K (ts.getD 0 poison) (ts.getD 1 poison) (ts.getD 2 poison) (ls.getD 0 []) σ

def w_law06_SlotAlone (a0 a1 : Value) (K : Value → Mem → Prop) (σ : Mem) : Prop :=
xF fMove [(.bool false)] fun v4 =>
xF fMove [a0] fun v16 =>
xF (fBin .and .no) [v16, (.int .i64 15)] fun v17 =>
xF (fBin .add .no) [(.int .i64 1), v17] fun v18 =>
xF fMove [v18] fun v5 =>
xF fMove [v5] fun v20 =>
s_law04_Arena [(.int .i64 1), v20, (.int .i64 1), (.int .i64 20)] (fun v21 σ =>
xF fMove [v21] fun v19 =>
xF (fExt 0) [v19] fun v22 =>
xF (fExt 1) [v19] fun v23 =>
xC (gStore 9 [(locP 6), v22] [(.int .i64 0), (.int .i64 0), (.int .i64 0), (.int .i64 0), (.int .i64 0), (.int .i64 0), (.int .i64 0), (.pointer none), (.int .i64 0)]) fun c6 =>
xF fMove [v23] fun v7 =>
xJoin (w_law06_SlotAlone_j1 K) fun J1 =>
s_law06_awake [] (fun v24 σ =>
xF (fUn .not) [v24] fun v25 =>
xF fMove [v25] fun v26 =>
xIf v26
 (xF fPick [(.bool true), (.bool true), undef] fun v29 =>
J1 [a1, v5, v29] [c6] σ)
 (xF fMove [v7] fun v27 =>
xF (fUn .not) [v27] fun v28 =>
xF fPick [(.bool false), (.bool true), v28] fun v29 =>
J1 [a1, v5, v29] [c6] σ)) σ) σ

def s_law06_SlotAlone : Spec := fun args K σ => match args with
  | [a0, a1] => w_law06_SlotAlone a0 a1 K σ
  | _ => False

noncomputable def cx_law06_SlotAlone : Cx := { P := Try.prog, T := [(36, .write, s_law04_Arena), (37, .none, s_law06_awake), (38, .write, s_law06_take), (53, .write, s_law06_give)], loc := [(6, 6), (40, 40), (100, 100), (118, 118)], eqt := [(4, .bool)], n := 120, keep := [(8, [1, 8, 9, 10], [6]), (12, [1, 8, 9, 11], [6]), (1000005, [1, 5, 29], [6]), (1000011, [1, 8, 9], [6]), (1000013, [1, 8, 9, 11], [6]), (1000014, [1, 8, 9, 11], [6]), (1000017, [1, 8, 9, 11, 12, 13, 91], [6]), (1000026, [], [])] }
theorem q_law06_SlotAlone : FnS cx_law06_SlotAlone Try.f10 (bodyOf Try.f10) 2 = s_law06_SlotAlone := by
  funext args K σ
  rcases args with _ | ⟨a0, _ | ⟨a1, _ | ⟨b, r⟩⟩⟩ <;> kernel_rfl
theorem e_law06_SlotAlone : Entry Try.prog 10 .write s_law06_SlotAlone :=
  entry (C := cx_law06_SlotAlone) (TOk.cons e_law04_Arena (TOk.cons e_law06_awake (TOk.cons e_law06_take (TOk.cons e_law06_give TOk.nil)))) mixedOk Try.func10 (by kernel_rfl) (by kernel_rfl) (by kernel_rfl) q_law06_SlotAlone

def xl_law06_SlotAlone : List (Nat × Nat) := [(6, 6), (40, 40), (100, 100), (118, 118)]
noncomputable def xc_law06_SlotAlone : XC XN :=
(.seq none
 (.reg [⟨none, some 4, [(.const (.bool false))], ⟨.f fMove, rMove⟩⟩])
 (.seq none
 (.reg [⟨none, some 16, [(.tmp 0)], ⟨.f fMove, rMove⟩⟩,
  ⟨none, some 17, [(.tmp 16), (.const (.int .i64 15))], ⟨.band .no, rAny xl_law06_SlotAlone (.band .no)⟩⟩,
  ⟨none, some 18, [(.const (.int .i64 1)), (.tmp 17)], ⟨.f (fBin .add .no), rAdd⟩⟩,
  ⟨none, some 5, [(.tmp 18)], ⟨.f fMove, rMove⟩⟩])
 (.seq none
 (.reg [⟨none, some 20, [(.tmp 5)], ⟨.f fMove, rMove⟩⟩,
  ⟨none, some 21, [(.const (.int .i64 1)), (.tmp 20), (.const (.int .i64 1)), (.const (.int .i64 20))], ⟨.call .write s_law04_Arena v_law04_Arena, rCall v_law04_Arena⟩⟩,
  ⟨none, some 19, [(.tmp 21)], ⟨.f fMove, rMove⟩⟩,
  ⟨none, some 22, [(.tmp 19)], ⟨.f (fExt 0), rAny xl_law06_SlotAlone (.f (fExt 0))⟩⟩,
  ⟨none, some 23, [(.tmp 19)], ⟨.f (fExt 1), rAny xl_law06_SlotAlone (.f (fExt 1))⟩⟩,
  ⟨none, some 6, [], ⟨.la 6 [(.int .i64 0), (.int .i64 0), (.int .i64 0), (.int .i64 0), (.int .i64 0), (.int .i64 0), (.int .i64 0), (.pointer none), (.int .i64 0)], rAny xl_law06_SlotAlone (.la 6 [(.int .i64 0), (.int .i64 0), (.int .i64 0), (.int .i64 0), (.int .i64 0), (.int .i64 0), (.int .i64 0), (.pointer none), (.int .i64 0)])⟩⟩,
  ⟨none, none, [(.tmp 6), (.tmp 22)], ⟨.ls 6 9, rAny xl_law06_SlotAlone (.ls 6 9)⟩⟩,
  ⟨none, some 7, [(.tmp 23)], ⟨.f fMove, rMove⟩⟩])
 (.seq none
 (.seq (some ([1, 5, 29], [6]))
 (.reg [⟨none, some 24, [], ⟨.call .none s_law06_awake v_law06_awake, rCall v_law06_awake⟩⟩,
  ⟨none, some 25, [(.tmp 24)], ⟨.f (fUn .not), rNot⟩⟩,
  ⟨none, some 26, [(.tmp 25)], ⟨.f fMove, rMove⟩⟩,
  ⟨(some (3, 2, false, some 26)), some 27, [(.tmp 7)], ⟨.f fMove, rMove⟩⟩,
  ⟨(some (4, 2, false, some 26)), some 28, [(.tmp 27)], ⟨.f (fUn .not), rNot⟩⟩,
  ⟨none, some 29, [(.tmp 26), (.const (.bool true)), (.tmp 28)], ⟨.f fPick, rPick⟩⟩])
 (.cond (.tmp 29)
 (.seq none
 (.reg [⟨none, some 4, [(.const (.bool false))], ⟨.f fMove, rMove⟩⟩])
 .ret)
 .skip))
 (.seq none
 (.reg [⟨none, some 30, [], ⟨.bs 1 0 [(.int .i64 0)] [], rAny xl_law06_SlotAlone (.bs 1 0 [(.int .i64 0)] [])⟩⟩,
  ⟨none, some 31, [], ⟨.bs 1 0 [(.int .i64 0)] [], rAny xl_law06_SlotAlone (.bs 1 0 [(.int .i64 0)] [])⟩⟩,
  ⟨none, some 8, [(.tmp 30)], ⟨.f fMove, rMove⟩⟩,
  ⟨none, some 9, [(.tmp 31)], ⟨.f fMove, rMove⟩⟩])
 (.seq (some ([1, 8, 9], [6]))
 (.seq none
 (.reg [⟨none, some 32, [(.tmp 5)], ⟨.f fMove, rMove⟩⟩,
  ⟨none, some 33, [(.tmp 32), (.const (.int .i64 1))], ⟨.f (fBin .sub .no), rSub⟩⟩,
  ⟨none, some 10, [(.tmp 33)], ⟨.f fMove, rMove⟩⟩])
 (.block 0
 (.loop ([1, 8, 9, 10], [6])
 (.seq none
 (.seq none
 (.reg [⟨none, some 34, [(.tmp 10)], ⟨.f fMove, rMove⟩⟩,
  ⟨none, some 35, [(.tmp 34), (.const (.int .i64 0))], ⟨.f (fBin .geq .no), rGeq⟩⟩])
 (.cond (.tmp 35)
 .skip
 (.exit 0)))
 (.seq none
 (.block 1
 (.reg [⟨none, some 38, [(.tmp 8)], ⟨.f fMove, rMove⟩⟩,
  ⟨none, some 39, [(.tmp 10)], ⟨.f fMove, rMove⟩⟩,
  ⟨none, some 40, [(.tmp 39)], ⟨.lB 40 1 1 [(.int .i64 0)] [0], rAny xl_law06_SlotAlone (.lB 40 1 1 [(.int .i64 0)] [0])⟩⟩,
  ⟨none, some 41, [(.tmp 38), (.tmp 40)], ⟨.appL 40 1 8, rAny xl_law06_SlotAlone (.appL 40 1 8)⟩⟩,
  ⟨none, some 8, [(.tmp 41)], ⟨.f fMove, rMove⟩⟩]))
 (.reg [⟨none, some 36, [(.tmp 10)], ⟨.f fMove, rMove⟩⟩,
  ⟨none, some 37, [(.tmp 36), (.const (.int .i64 1))], ⟨.f (fBin .sub .no), rSub⟩⟩,
  ⟨none, some 10, [(.tmp 37)], ⟨.f fMove, rMove⟩⟩]))))))
 (.seq (some ([], []))
 (.seq none
 (.reg [⟨none, some 11, [(.const (.int .i64 0))], ⟨.f fMove, rMove⟩⟩])
 (.block 2
 (.loop ([1, 8, 9, 11], [6])
 (.seq (some ([1, 8, 9, 11], [6]))
 (.seq none
 (.reg [⟨none, some 42, [(.tmp 11)], ⟨.f fMove, rMove⟩⟩,
  ⟨none, some 43, [(.tmp 1)], ⟨.f fMove, rMove⟩⟩,
  ⟨none, some 44, [(.tmp 43)], ⟨.f fLen, rAny xl_law06_SlotAlone (.f fLen)⟩⟩,
  ⟨none, some 45, [(.tmp 42), (.tmp 44)], ⟨.f (fBin .lss .no), rLss⟩⟩,
  ⟨none, some 46, [(.tmp 45)], ⟨.f fMove, rMove⟩⟩,
  ⟨(some (5, 4, true, some 46)), some 47, [(.tmp 11)], ⟨.f fMove, rMove⟩⟩,
  ⟨(some (6, 4, true, some 46)), some 48, [(.tmp 47), (.const (.int .i64 60))], ⟨.f (fBin .lss .no), rLss⟩⟩,
  ⟨none, some 49, [(.tmp 46), (.tmp 48), (.const (.bool false))], ⟨.f fPick, rPick⟩⟩])
 (.cond (.tmp 49)
 .skip
 (.exit 2)))
 (.seq (some ([1, 8, 9, 11], [6]))
 (.block 3
 (.seq none
 (.reg [⟨none, some 52, [(.tmp 1)], ⟨.f fMove, rMove⟩⟩,
  ⟨none, some 53, [(.tmp 11)], ⟨.f fMove, rMove⟩⟩,
  ⟨none, some 54, [(.tmp 52), (.tmp 53)], ⟨.f (fIxS 1), rIxS 1⟩⟩,
  ⟨none, some 55, [(.tmp 54)], ⟨.load 1 false, rLoad1⟩⟩])
 (.cond (.tmp 55)
 (.seq none
 (.reg [⟨none, some 57, [(.tmp 6)], ⟨.lr 6 9 true, rAny xl_law06_SlotAlone (.lr 6 9 true)⟩⟩,
  ⟨none, some 58, [(.tmp 57)], ⟨.call .write s_law06_take v_law06_take, rCall v_law06_take⟩⟩,
  ⟨none, some 56, [(.tmp 58)], ⟨.f fMove, rMove⟩⟩,
  ⟨none, some 59, [(.tmp 56)], ⟨.f (fExt 0), rAny xl_law06_SlotAlone (.f (fExt 0))⟩⟩,
  ⟨none, some 60, [(.tmp 56)], ⟨.f (fExt 1), rAny xl_law06_SlotAlone (.f (fExt 1))⟩⟩,
  ⟨none, some 61, [(.tmp 56)], ⟨.f (fExt 2), rAny xl_law06_SlotAlone (.f (fExt 2))⟩⟩,
  ⟨none, some 12, [(.tmp 59)], ⟨.f fMove, rMove⟩⟩,
  ⟨none, some 13, [(.tmp 60)], ⟨.f fMove, rMove⟩⟩,
  ⟨none, some 14, [(.tmp 61)], ⟨.f fMove, rMove⟩⟩])
 (.seq none
 (.seq (some ([1, 8, 9, 11, 12, 13, 91], [6]))
 (.reg [⟨none, some 62, [(.tmp 13)], ⟨.f fMove, rMove⟩⟩,
  ⟨none, some 63, [(.tmp 8)], ⟨.f fMove, rMove⟩⟩,
  ⟨none, some 64, [(.tmp 63)], ⟨.f fLen, rAny xl_law06_SlotAlone (.f fLen)⟩⟩,
  ⟨none, some 65, [(.tmp 64), (.const (.int .i64 0))], ⟨.f (fBin .gtr .no), rGtr⟩⟩,
  ⟨none, some 66, [(.tmp 62), (.tmp 65)], ⟨.f (fBin .neq .bool), rAny xl_law06_SlotAlone (.f (fBin .neq .bool))⟩⟩,
  ⟨none, some 67, [(.tmp 66)], ⟨.f fMove, rMove⟩⟩,
  ⟨(some (6, 5, false, some 67)), some 68, [(.tmp 13)], ⟨.f fMove, rMove⟩⟩,
  ⟨(some (7, 5, false, some 67)), some 69, [(.tmp 68)], ⟨.f fMove, rMove⟩⟩,
  ⟨(some (8, 7, true, some 69)), some 70, [(.tmp 12)], ⟨.f fMove, rMove⟩⟩,
  ⟨(some (9, 7, true, some 69)), some 71, [(.tmp 8)], ⟨.f fMove, rMove⟩⟩,
  ⟨(some (10, 7, true, some 69)), some 72, [(.tmp 8)], ⟨.f fMove, rMove⟩⟩,
  ⟨(some (11, 7, true, some 69)), some 73, [(.tmp 72)], ⟨.f fLen, rAny xl_law06_SlotAlone (.f fLen)⟩⟩,
  ⟨(some (12, 7, true, some 69)), some 74, [(.tmp 73), (.const (.int .i64 1))], ⟨.f (fBin .sub .no), rSub⟩⟩,
  ⟨(some (13, 7, true, some 69)), some 75, [(.tmp 71), (.tmp 74)], ⟨.f (fIxS 1), rIxS 1⟩⟩,
  ⟨(some (14, 7, true, some 69)), some 76, [(.tmp 75)], ⟨.load 1 false, rLoad1⟩⟩,
  ⟨(some (15, 7, true, some 69)), some 77, [(.tmp 70), (.tmp 76)], ⟨.f (fBin .neq .no), rNeq⟩⟩,
  ⟨(some (16, 7, true, some 69)), some 78, [(.tmp 77)], ⟨.f fMove, rMove⟩⟩,
  ⟨(some (17, 16, false, some 78)), some 79, [(.tmp 14)], ⟨.f fMove, rMove⟩⟩,
  ⟨(some (18, 16, false, some 78)), some 80, [(.tmp 79), (.const (.int .i64 3))], ⟨.f (fBin .neq .no), rNeq⟩⟩,
  ⟨(some (19, 7, true, some 69)), some 81, [(.tmp 78), (.const (.bool true)), (.tmp 80)], ⟨.f fPick, rPick⟩⟩,
  ⟨(some (20, 5, false, some 67)), some 82, [(.tmp 69), (.tmp 81), (.const (.bool false))], ⟨.f fPick, rPick⟩⟩,
  ⟨none, some 83, [(.tmp 67), (.const (.bool true)), (.tmp 82)], ⟨.f fPick, rPick⟩⟩,
  ⟨none, some 84, [(.tmp 83)], ⟨.f fMove, rMove⟩⟩,
  ⟨(some (23, 22, false, some 84)), some 85, [(.tmp 13)], ⟨.f fMove, rMove⟩⟩,
  ⟨(some (24, 22, false, some 84)), some 86, [(.tmp 85)], ⟨.f (fUn .not), rNot⟩⟩,
  ⟨(some (25, 22, false, some 84)), some 87, [(.tmp 86)], ⟨.f fMove, rMove⟩⟩,
  ⟨(some (26, 25, true, some 87)), some 88, [(.tmp 14)], ⟨.f fMove, rMove⟩⟩,
  ⟨(some (27, 25, true, some 87)), some 89, [(.tmp 88), (.const (.int .i64 1))], ⟨.f (fBin .neq .no), rNeq⟩⟩,
  ⟨(some (28, 22, false, some 84)), some 90, [(.tmp 87), (.tmp 89), (.const (.bool false))], ⟨.f fPick, rPick⟩⟩,
  ⟨none, some 91, [(.tmp 84), (.const (.bool true)), (.tmp 90)], ⟨.f fPick, rPick⟩⟩])
 (.cond (.tmp 91)
 (.seq none
 (.reg [⟨none, some 4, [(.const (.bool false))], ⟨.f fMove, rMove⟩⟩])
 .ret)
 .skip))
 (.seq none
 (.reg [⟨none, some 92, [(.tmp 13)], ⟨.f fMove, rMove⟩⟩])
 (.cond (.tmp 92)
 (.reg [⟨none, some 93, [(.tmp 8)], ⟨.f fMove, rMove⟩⟩,
  ⟨none, some 94, [(.tmp 8)], ⟨.f fMove, rMove⟩⟩,
  ⟨none, some 95, [(.tmp 94)], ⟨.f fLen, rAny xl_law06_SlotAlone (.f fLen)⟩⟩,
  ⟨none, some 96, [(.tmp 95), (.const (.int .i64 1))], ⟨.f (fBin .sub .no), rSub⟩⟩,
  ⟨none, some 97, [(.tmp 93), (.tmp 96)], ⟨.f (fSl 1 false true), rAny xl_law06_SlotAlone (.f (fSl 1 false true))⟩⟩,
  ⟨none, some 98, [(.tmp 9)], ⟨.f fMove, rMove⟩⟩,
  ⟨none, some 99, [(.tmp 12)], ⟨.f fMove, rMove⟩⟩,
  ⟨none, some 100, [(.tmp 99)], ⟨.lB 100 1 1 [(.int .i64 0)] [0], rAny xl_law06_SlotAlone (.lB 100 1 1 [(.int .i64 0)] [0])⟩⟩,
  ⟨none, some 101, [(.tmp 98), (.tmp 100)], ⟨.appL 100 1 8, rAny xl_law06_SlotAlone (.appL 100 1 8)⟩⟩,
  ⟨none, some 8, [(.tmp 97)], ⟨.f fMove, rMove⟩⟩,
  ⟨none, some 9, [(.tmp 101)], ⟨.f fMove, rMove⟩⟩])
 .skip))))
 (.seq none
 (.reg [⟨none, some 102, [(.tmp 9)], ⟨.f fMove, rMove⟩⟩,
  ⟨none, some 103, [(.tmp 102)], ⟨.f fLen, rAny xl_law06_SlotAlone (.f fLen)⟩⟩,
  ⟨none, some 104, [(.tmp 103), (.const (.int .i64 0))], ⟨.f (fBin .gtr .no), rGtr⟩⟩])
 (.cond (.tmp 104)
 (.seq none
 (.reg [⟨none, some 105, [(.tmp 9)], ⟨.f fMove, rMove⟩⟩,
  ⟨none, some 106, [(.tmp 105), (.const (.int .i64 0))], ⟨.f (fIxS 1), rIxS 1⟩⟩,
  ⟨none, some 107, [(.tmp 106)], ⟨.load 1 false, rLoad1⟩⟩,
  ⟨none, some 15, [(.tmp 107)], ⟨.f fMove, rMove⟩⟩])
 (.seq none
 (.reg [⟨none, some 108, [(.tmp 9)], ⟨.f fMove, rMove⟩⟩,
  ⟨none, some 109, [(.tmp 108), (.const (.int .i64 1))], ⟨.f (fSl 1 true false), rAny xl_law06_SlotAlone (.f (fSl 1 true false))⟩⟩,
  ⟨none, some 9, [(.tmp 109)], ⟨.f fMove, rMove⟩⟩])
 (.seq none
 (.seq none
 (.reg [⟨none, some 110, [(.tmp 6)], ⟨.lr 6 9 true, rAny xl_law06_SlotAlone (.lr 6 9 true)⟩⟩,
  ⟨none, some 111, [(.tmp 15)], ⟨.f fMove, rMove⟩⟩,
  ⟨none, some 112, [(.tmp 110), (.tmp 111)], ⟨.call .write s_law06_give v_law06_give, rCall v_law06_give⟩⟩,
  ⟨none, some 113, [(.tmp 112), (.const (.int .i64 3))], ⟨.f (fBin .neq .no), rNeq⟩⟩])
 (.cond (.tmp 113)
 (.seq none
 (.reg [⟨none, some 4, [(.const (.bool false))], ⟨.f fMove, rMove⟩⟩])
 .ret)
 .skip))
 (.reg [⟨none, some 114, [], ⟨.bs 1 0 [(.int .i64 0)] [], rAny xl_law06_SlotAlone (.bs 1 0 [(.int .i64 0)] [])⟩⟩,
  ⟨none, some 115, [(.tmp 8)], ⟨.f fMove, rMove⟩⟩,
  ⟨none, some 116, [(.tmp 114), (.tmp 115)], ⟨.app 1 8, rAny xl_law06_SlotAlone (.app 1 8)⟩⟩,
  ⟨none, some 117, [(.tmp 15)], ⟨.f fMove, rMove⟩⟩,
  ⟨none, some 118, [(.tmp 117)], ⟨.lB 118 1 1 [(.int .i64 0)] [0], rAny xl_law06_SlotAlone (.lB 118 1 1 [(.int .i64 0)] [0])⟩⟩,
  ⟨none, some 119, [(.tmp 116), (.tmp 118)], ⟨.appL 118 1 8, rAny xl_law06_SlotAlone (.appL 118 1 8)⟩⟩,
  ⟨none, some 8, [(.tmp 119)], ⟨.f fMove, rMove⟩⟩]))))
 .skip)))))
 (.reg [⟨none, some 50, [(.tmp 11)], ⟨.f fMove, rMove⟩⟩,
  ⟨none, some 51, [(.tmp 50), (.const (.int .i64 1))], ⟨.f (fBin .add .no), rAdd⟩⟩,
  ⟨none, some 11, [(.tmp 51)], ⟨.f fMove, rMove⟩⟩]))))))
 (.seq none
 (.reg [⟨none, some 4, [(.const (.bool true))], ⟨.f fMove, rMove⟩⟩])
 .ret))))))))
noncomputable def v_law06_SlotAlone : EvF := evFn 2 xc_law06_SlotAlone [.t 4]
theorem xt_law06_SlotAlone : toC cx_law06_SlotAlone (bodyOf Try.f10) = some (xc_law06_SlotAlone.map XN.sm) := by kernel_rfl
theorem xr_law06_SlotAlone : toR cx_law06_SlotAlone Try.f10.results.toList = some [.t 4] := by kernel_rfl
theorem xo_law06_SlotAlone : xc_law06_SlotAlone.ok xl_law06_SlotAlone := ⟨⟨rMove_ok, trivial⟩, ⟨⟨rMove_ok, rAny_ok (trivial), rAdd_ok, rMove_ok, trivial⟩, ⟨⟨rMove_ok, rCall_ok ve_law04_Arena, rMove_ok, rAny_ok (eqv_ext _), rAny_ok (eqv_ext _), rAny_ok (trivial), rAny_ok (trivial), rMove_ok, trivial⟩, ⟨⟨⟨rCall_ok ve_law06_awake, rNot_ok, rMove_ok, rMove_ok, rNot_ok, rPick_ok, trivial⟩, ⟨⟨⟨rMove_ok, trivial⟩, trivial⟩, trivial⟩⟩, ⟨⟨rAny_ok (trivial), rAny_ok (trivial), rMove_ok, rMove_ok, trivial⟩, ⟨⟨⟨rMove_ok, rSub_ok, rMove_ok, trivial⟩, ⟨⟨⟨rMove_ok, rGeq_ok, trivial⟩, ⟨trivial, trivial⟩⟩, ⟨⟨rMove_ok, rMove_ok, rAny_ok (trivial), rAny_ok (trivial), rMove_ok, trivial⟩, ⟨rMove_ok, rSub_ok, rMove_ok, trivial⟩⟩⟩⟩, ⟨⟨⟨rMove_ok, trivial⟩, ⟨⟨⟨rMove_ok, rMove_ok, rAny_ok (eqv_len), rLss_ok, rMove_ok, rMove_ok, rLss_ok, rPick_ok, trivial⟩, ⟨trivial, trivial⟩⟩, ⟨⟨⟨rMove_ok, rMove_ok, rIxS_ok _, rLoad1_ok, trivial⟩, ⟨⟨⟨rAny_ok (trivial), rCall_ok ve_law06_take, rMove_ok, rAny_ok (eqv_ext _), rAny_ok (eqv_ext _), rAny_ok (eqv_ext _), rMove_ok, rMove_ok, rMove_ok, trivial⟩, ⟨⟨⟨rMove_ok, rMove_ok, rAny_ok (eqv_len), rGtr_ok, rAny_ok (eqv_bin _ _), rMove_ok, rMove_ok, rMove_ok, rMove_ok, rMove_ok, rMove_ok, rAny_ok (eqv_len), rSub_ok, rIxS_ok _, rLoad1_ok, rNeq_ok, rMove_ok, rMove_ok, rNeq_ok, rPick_ok, rPick_ok, rPick_ok, rMove_ok, rMove_ok, rNot_ok, rMove_ok, rMove_ok, rNeq_ok, rPick_ok, rPick_ok, trivial⟩, ⟨⟨⟨rMove_ok, trivial⟩, trivial⟩, trivial⟩⟩, ⟨⟨rMove_ok, trivial⟩, ⟨⟨rMove_ok, rMove_ok, rAny_ok (eqv_len), rSub_ok, rAny_ok (eqv_sl _ _ _), rMove_ok, rMove_ok, rAny_ok (trivial), rAny_ok (trivial), rMove_ok, rMove_ok, trivial⟩, trivial⟩⟩⟩⟩, ⟨⟨rMove_ok, rAny_ok (eqv_len), rGtr_ok, trivial⟩, ⟨⟨⟨rMove_ok, rIxS_ok _, rLoad1_ok, rMove_ok, trivial⟩, ⟨⟨rMove_ok, rAny_ok (eqv_sl _ _ _), rMove_ok, trivial⟩, ⟨⟨⟨rAny_ok (trivial), rMove_ok, rCall_ok ve_law06_give, rNeq_ok, trivial⟩, ⟨⟨⟨rMove_ok, trivial⟩, trivial⟩, trivial⟩⟩, ⟨rAny_ok (trivial), rMove_ok, rAny_ok (trivial), rMove_ok, rAny_ok (trivial), rAny_ok (trivial), rMove_ok, trivial⟩⟩⟩⟩, trivial⟩⟩⟩⟩, ⟨rMove_ok, rAdd_ok, rMove_ok, trivial⟩⟩⟩⟩, ⟨⟨rMove_ok, trivial⟩, trivial⟩⟩⟩⟩⟩⟩⟩⟩
theorem ve_law06_SlotAlone : EvOk s_law06_SlotAlone v_law06_SlotAlone := EvOk.of (evFn_sound (C := cx_law06_SlotAlone) xt_law06_SlotAlone xr_law06_SlotAlone xo_law06_SlotAlone) q_law06_SlotAlone

attribute [irreducible] w_law06_SlotAlone_j3b w_law06_SlotAlone_j3 w_law06_SlotAlone_j5b w_law06_SlotAlone_j5 w_law06_SlotAlone_j6b w_law06_SlotAlone_j6 w_law06_SlotAlone_j4b w_law06_SlotAlone_j4 w_law06_SlotAlone_l12b w_law06_SlotAlone_l12 w_law06_SlotAlone_j2b w_law06_SlotAlone_j2 w_law06_SlotAlone_l8b w_law06_SlotAlone_l8 w_law06_SlotAlone_j1b w_law06_SlotAlone_j1 w_law06_SlotAlone s_law06_SlotAlone

/-! ### /law06.free -/
def w_law06_free_j2b (K : Value → Mem → Prop) (c3 : List Value) (σ : Mem) : Prop :=
xO (gLoad 9 true [(locP 3)] c3) fun v75 =>
s_law06_take [v75] (fun v76 σ =>
xF fMove [v76] fun v74 =>
xF (fExt 0) [v74] fun v77 =>
xF (fExt 1) [v74] fun v78 =>
xF (fExt 2) [v74] fun v79 =>
xF fMove [v77] fun v14 =>
xF fMove [v78] fun v15 =>
xF fMove [v79] fun v16 =>
xF fMove [v15] fun v80 =>
xF (fUn .not) [v80] fun v81 =>
xF fMove [v81] fun v6 =>
K v6 σ) σ

def w_law06_free_j2 (K : Value → Mem → Prop) (ts : List Value) (ls : List (List Value)) (σ : Mem) : Prop := w_law06_free_j2b K (ls.getD 0 []) σ

def w_law06_free_j3b (K : Value → Mem → Prop) (J2 : List Value → List (List Value) → Mem → Prop) (R1 : List Value → List (List Value) → Mem → Prop) (v1 v9 v10 v11 v70 : Value) (c3 : List Value) (σ : Mem) : Prop :=
xIf v70
 (xF fMove [(.bool false)] fun v6 =>
K v6 σ)
 (xF fMove [v9] fun v71 =>
xF fMove [v11] fun v72 =>
xF (fIxS 1) [v71, v72] fun v73 =>
hStore 1 [v73, (.bool true)] (fun _v σ =>
xF fMove [v10] fun v46 =>
xF (fBin .add .no) [v46, (.int .i64 1)] fun v47 =>
xF fMove [v47] fun v10 =>
R1 [v1, v9, v10] [c3] σ) σ)

def w_law06_free_j3 (K : Value → Mem → Prop) (J2 : List Value → List (List Value) → Mem → Prop) (R1 : List Value → List (List Value) → Mem → Prop) (ts : List Value) (ls : List (List Value)) (σ : Mem) : Prop := w_law06_free_j3b K J2 R1 (ts.getD 0 poison) (ts.getD 1 poison) (ts.getD 2 poison) (ts.getD 3 poison) (ts.getD 4 poison) (ls.getD 0 []) σ

def w_law06_free_l12b (K : Value → Mem → Prop) (J2 : List Value → List (List Value) → Mem → Prop) (R1 : List Value → List (List Value) → Mem → Prop) (v1 v9 v10 : Value) (c3 : List Value) (σ : Mem) : Prop :=
xF fMove [v10] fun v43 =>
xF fMove [v1] fun v44 =>
xF (fBin .lss .no) [v43, v44] fun v45 =>
xIf v45
 (xO (gLoad 9 true [(locP 3)] c3) fun v49 =>
s_law06_take [v49] (fun v50 σ =>
xF fMove [v50] fun v48 =>
xF (fExt 0) [v48] fun v51 =>
xF (fExt 1) [v48] fun v52 =>
xF (fExt 2) [v48] fun v53 =>
xF fMove [v51] fun v11 =>
xF fMove [v52] fun v12 =>
xF fMove [v53] fun v13 =>
xJoin (w_law06_free_j3 K J2 R1) fun J3 =>
xF fMove [v12] fun v54 =>
xF (fUn .not) [v54] fun v55 =>
xF fMove [v55] fun v56 =>
xIf v56
 (xF fPick [(.bool true), (.bool true), undef] fun v59 =>
xF fMove [v59] fun v60 =>
xIf v60
 (xF fPick [(.bool true), (.bool true), undef] fun v64 =>
xF fMove [v64] fun v65 =>
xIf v65
 (xF fPick [(.bool true), (.bool true), undef] fun v70 =>
J3 [v1, v9, v10, v11, v70] [c3] σ)
 (xF fMove [v9] fun v66 =>
xF fMove [v11] fun v67 =>
xF (fIxS 1) [v66, v67] fun v68 =>
hLoad 1 false [v68] (fun v69 σ =>
xF fPick [(.bool false), (.bool true), v69] fun v70 =>
J3 [v1, v9, v10, v11, v70] [c3] σ) σ))
 (xF fMove [v11] fun v61 =>
xF fMove [v1] fun v62 =>
xF (fBin .geq .no) [v61, v62] fun v63 =>
xF fPick [(.bool false), (.bool true), v63] fun v64 =>
xF fMove [v64] fun v65 =>
xIf v65
 (xF fPick [(.bool true), (.bool true), undef] fun v70 =>
J3 [v1, v9, v10, v11, v70] [c3] σ)
 (xF fMove [v9] fun v66 =>
xF fMove [v11] fun v67 =>
xF (fIxS 1) [v66, v67] fun v68 =>
hLoad 1 false [v68] (fun v69 σ =>
xF fPick [(.bool false), (.bool true), v69] fun v70 =>
J3 [v1, v9, v10, v11, v70] [c3] σ) σ)))
 (xF fMove [v11] fun v57 =>
xF (fBin .lss .no) [v57, (.int .i64 0)] fun v58 =>
xF fPick [(.bool false), (.bool true), v58] fun v59 =>
xF fMove [v59] fun v60 =>
xIf v60
 (xF fPick [(.bool true), (.bool true), undef] fun v64 =>
xF fMove [v64] fun v65 =>
xIf v65
 (xF fPick [(.bool true), (.bool true), undef] fun v70 =>
J3 [v1, v9, v10, v11, v70] [c3] σ)
 (xF fMove [v9] fun v66 =>
xF fMove [v11] fun v67 =>
xF (fIxS 1) [v66, v67] fun v68 =>
hLoad 1 false [v68] (fun v69 σ =>
xF fPick [(.bool false), (.bool true), v69] fun v70 =>
J3 [v1, v9, v10, v11, v70] [c3] σ) σ))
 (xF fMove [v11] fun v61 =>
xF fMove [v1] fun v62 =>
xF (fBin .geq .no) [v61, v62] fun v63 =>
xF fPick [(.bool false), (.bool true), v63] fun v64 =>
xF fMove [v64] fun v65 =>
xIf v65
 (xF fPick [(.bool true), (.bool true), undef] fun v70 =>
J3 [v1, v9, v10, v11, v70] [c3] σ)
 (xF fMove [v9] fun v66 =>
xF fMove [v11] fun v67 =>
xF (fIxS 1) [v66, v67] fun v68 =>
hLoad 1 false [v68] (fun v69 σ =>
xF fPick [(.bool false), (.bool true), v69] fun v70 =>
J3 [v1, v9, v10, v11, v70] [c3] σ) σ)))) σ)
 (J2 [] [c3] σ)

def w_law06_free_l12 (K : Value → Mem → Prop) (J2 : List Value → List (List Value) → Mem → Prop) (R1 : List Value → List (List Value) → Mem → Prop) (ts : List Value) (ls : List (List Value)) (σ : Mem) : Prop := w_law06_free_l12b K J2 R1 (ts.getD 0 poison) (ts.getD 1 poison) (ts.getD 2 poison) (ls.getD 0 []) σ

def w_law06_free_j1b (K : Value → Mem → Prop) (v1 : Value) (c3 : List Value) (σ : Mem) : Prop :=
xF fMove [v1] fun v41 =>
hMakeS 1 1 [(.bool false)] [v41, v41] (fun v42 σ =>
xF fMove [v42] fun v9 =>
xJoin (w_law06_free_j2 K) fun J2 =>
xF fMove [(.int .i64 0)] fun v10 =>
xLoop (w_law06_free_l12 K J2) [v1, v9, v10] [c3] σ) σ

def w_law06_free_j1 (K : Value → Mem → Prop) (ts : List Value) (ls : List (List Value)) (σ : Mem) : Prop := w_law06_free_j1b K (ts.getD 0 poison) (ls.getD 0 []) σ

def w_law06_free_j4b (K : Value → Mem → Prop) (J1 : List Value → List (List Value) → Mem → Prop) (R1 : List Value → List (List Value) → Mem → Prop) (v1 v7 : Value) (c3 c5 : List Value) (σ : Mem) : Prop :=
xF fMove [v7] fun v19 =>
xF (fBin .add .no) [v19, (.int .i64 1)] fun v20 =>
xF fMove [v20] fun v7 =>
R1 [v1, v7] [c3, c5] σ

def w_law06_free_j4 (K : Value → Mem → Prop) (J1 : List Value → List (List Value) → Mem → Prop) (R1 : List Value → List (List Value) → Mem → Prop) (ts : List Value) (ls : List (List Value)) (σ : Mem) : Prop := w_law06_free_j4b K J1 R1 (ts.getD 0 poison) (ts.getD 1 poison) (ls.getD 0 []) (ls.getD 1 []) σ

def w_law06_free_j6b (K : Value → Mem → Prop) (J1 : List Value → List (List Value) → Mem → Prop) (R1 : List Value → List (List Value) → Mem → Prop) (J4 : List Value → List (List Value) → Mem → Prop) (R3 : List Value → List (List Value) → Mem → Prop) (v1 v7 v8 : Value) (c3 c5 : List Value) (σ : Mem) : Prop :=
xF fMove [v8] fun v30 =>
xF (fBin .add .no) [v30, (.int .i64 1)] fun v31 =>
xF fMove [v31] fun v8 =>
R3 [v1, v7, v8] [c3, c5] σ

def w_law06_free_j6 (K : Value → Mem → Prop) (J1 : List Value → List (List Value) → Mem → Prop) (R1 : List Value → List (List Value) → Mem → Prop) (J4 : List Value → List (List Value) → Mem → Prop) (R3 : List Value → List (List Value) → Mem → Prop) (ts : List Value) (ls : List (List Value)) (σ : Mem) : Prop := w_law06_free_j6b K J1 R1 J4 R3 (ts.getD 0 poison) (ts.getD 1 poison) (ts.getD 2 poison) (ls.getD 0 []) (ls.getD 1 []) σ

def w_law06_free_j5b (K : Value → Mem → Prop) (J1 : List Value → List (List Value) → Mem → Prop) (R1 : List Value → List (List Value) → Mem → Prop) (J4 : List Value → List (List Value) → Mem → Prop) (R3 : List Value → List (List Value) → Mem → Prop) (v1 v7 v8 : Value) (c3 c5 : List Value) (σ : Mem) : Prop :=
xJoin (w_law06_free_j6 K J1 R1 J4 R3) fun J6 =>
xF fMove [v7] fun v32 =>
xF (fIxA 3 3) [(locP 5), v32] fun v33 =>
xF (fFld 1) [v33] fun v34 =>
xO (gLoad 1 false [v34] c5) fun v35 =>
xO (gLoad 9 true [(locP 3)] c3) fun v36 =>
s_slot_Give_Step [v35, v36] (fun v37 σ =>
xIf v37
 (xF fMove [v7] fun v38 =>
xF (fIxA 3 3) [(locP 5), v38] fun v39 =>
xF (fFld 1) [v39] fun v40 =>
xC (gStore 1 [v40, (.pointer none)] c5) fun c5 =>
J6 [v1, v7, v8] [c3, c5] σ)
 (J6 [v1, v7, v8] [c3, c5] σ)) σ

def w_law06_free_j5 (K : Value → Mem → Prop) (J1 : List Value → List (List Value) → Mem → Prop) (R1 : List Value → List (List Value) → Mem → Prop) (J4 : List Value → List (List Value) → Mem → Prop) (R3 : List Value → List (List Value) → Mem → Prop) (ts : List Value) (ls : List (List Value)) (σ : Mem) : Prop := w_law06_free_j5b K J1 R1 J4 R3 (ts.getD 0 poison) (ts.getD 1 poison) (ts.getD 2 poison) (ls.getD 0 []) (ls.getD 1 []) σ

def w_law06_free_l6b (K : Value → Mem → Prop) (J1 : List Value → List (List Value) → Mem → Prop) (R1 : List Value → List (List Value) → Mem → Prop) (J4 : List Value → List (List Value) → Mem → Prop) (R3 : List Value → List (List Value) → Mem → Prop) (v1 v7 v8 : Value) (c3 c5 : List Value) (σ : Mem) : Prop :=
xJoin (w_law06_free_j5 K J1 R1 J4 R3) fun J5 =>
xF fMove [v8] fun v21 =>
xF (fBin .lss .no) [v21, (.int .i64 40)] fun v22 =>
xF fMove [v22] fun v23 =>
xIf v23
 (xF fMove [v7] fun v24 =>
xF (fIxA 3 3) [(locP 5), v24] fun v25 =>
xF (fFld 1) [v25] fun v26 =>
xO (gLoad 1 false [v26] c5) fun v27 =>
xF (fBin .neq .ptr) [v27, (.pointer none)] fun v28 =>
xF fPick [(.bool true), v28, (.bool false)] fun v29 =>
xIf v29
 (J5 [v1, v7, v8] [c3, c5] σ)
 (J4 [v1, v7] [c3, c5] σ))
 (xF fPick [(.bool false), undef, (.bool false)] fun v29 =>
xIf v29
 (J5 [v1, v7, v8] [c3, c5] σ)
 (J4 [v1, v7] [c3, c5] σ))

def w_law06_free_l6 (K : Value → Mem → Prop) (J1 : List Value → List (List Value) → Mem → Prop) (R1 : List Value → List (List Value) → Mem → Prop) (J4 : List Value → List (List Value) → Mem → Prop) (R3 : List Value → List (List Value) → Mem → Prop) (ts : List Value) (ls : List (List Value)) (σ : Mem) : Prop := w_law06_free_l6b K J1 R1 J4 R3 (ts.getD 0 poison) (ts.getD 1 poison) (ts.getD 2 poison) (ls.getD 0 []) (ls.getD 1 []) σ

def w_law06_free_l3b (K : Value → Mem → Prop) (J1 : List Value → List (List Value) → Mem → Prop) (R1 : List Value → List (List Value) → Mem → Prop) (v1 v7 : Value) (c3 c5 : List Value) (σ : Mem) : Prop :=
xF fMove [v7] fun v17 =>
xF (fBin .lss .no) [v17, (.int .i64 3)] fun v18 =>
xIf v18
 (xJoin (w_law06_free_j4 K J1 R1) fun J4 =>
xF fMove [(.int .i64 0)] fun v8 =>
xLoop (w_law06_free_l6 K J1 R1 J4) [v1, v7, v8] [c3, c5] σ)
 (J1 [v1] [c3] σ)

def w_law06_free_l3 (K : Value → Mem → Prop) (J1 : List Value → List (List Value) → Mem → Prop) (R1 : List Value → List (List Value) → Mem → Prop) (ts : List Value) (ls : List (List Value)) (σ : Mem) : Prop := w_law06_free_l3b K J1 R1 (ts.getD 0 poison) (ts.getD 1 poison) (ls.getD 0 []) (ls.getD 1 []) σ

def w_law06_free (a0 a1 a2 : Value) (K : Value → Mem → Prop) (σ : Mem) : Prop :=
xC (gBox 9 [a0] []) fun c3 =>
xC (gBox 9 [a2] []) fun c5 =>
xF fMove [(.bool false)] fun v6 =>
xJoin (w_law06_free_j1 K) fun J1 =>
xF fMove [(.int .i64 0)] fun v7 =>
xLoop (w_law06_free_l3 K J1) [a1, v7] [c3, c5] σ

def s_law06_free : Spec := fun args K σ => match args with
  | [a0, a1, a2] => w_law06_free a0 a1 a2 K σ
  | _ => False

noncomputable def cx_law06_free : Cx := { P := Try.prog, T := [(54, .write, s_slot_Give_Step), (38, .write, s_law06_take)], loc := [(3, 3), (5, 5), (25, 5), (26, 5), (33, 5), (34, 5), (39, 5), (40, 5)], eqt := [(80, .ptr)], n := 82, keep := [(3, [1, 7], [3, 5]), (6, [1, 7, 8], [3, 5]), (12, [1, 9, 10], [3]), (1000004, [1, 7], [3, 5]), (1000007, [1, 7, 8], [3, 5]), (1000008, [1, 7, 8], [3, 5]), (1000010, [1], [3]), (1000016, [1, 9, 10, 11, 70], [3]), (1000018, [], [3])] }
theorem q_law06_free : FnS cx_law06_free Try.f56 (bodyOf Try.f56) 3 = s_law06_free := by
  funext args K σ
  rcases args with _ | ⟨a0, _ | ⟨a1, _ | ⟨a2, _ | ⟨b, r⟩⟩⟩⟩ <;> kernel_rfl
theorem e_law06_free : Entry Try.prog 56 .write s_law06_free :=
  entry (C := cx_law06_free) (TOk.cons e_slot_Give_Step (TOk.cons e_law06_take TOk.nil)) mixedOk Try.func56 (by kernel_rfl) (by kernel_rfl) (by kernel_rfl) q_law06_free

def xl_law06_free : List (Nat × Nat) := [(3, 3), (5, 5), (25, 5), (26, 5), (33, 5), (34, 5), (39, 5), (40, 5)]
noncomputable def xc_law06_free : XC XN :=
(.seq none
 (.reg [⟨none, some 3, [(.tmp 0)], ⟨.lb 3 9, rAny xl_law06_free (.lb 3 9)⟩⟩,
  ⟨none, some 5, [(.tmp 2)], ⟨.lb 5 9, rAny xl_law06_free (.lb 5 9)⟩⟩,
  ⟨none, some 6, [(.const (.bool false))], ⟨.f fMove, rMove⟩⟩])
 (.seq (some ([1], [3]))
 (.seq none
 (.reg [⟨none, some 7, [(.const (.int .i64 0))], ⟨.f fMove, rMove⟩⟩])
 (.block 0
 (.loop ([1, 7], [3, 5])
 (.seq none
 (.seq none
 (.reg [⟨none, some 17, [(.tmp 7)], ⟨.f fMove, rMove⟩⟩,
  ⟨none, some 18, [(.tmp 17), (.const (.int .i64 3))], ⟨.f (fBin .lss .no), rLss⟩⟩])
 (.cond (.tmp 18)
 .skip
 (.exit 0)))
 (.seq (some ([1, 7], [3, 5]))
 (.block 1
 (.seq none
 (.reg [⟨none, some 8, [(.const (.int .i64 0))], ⟨.f fMove, rMove⟩⟩])
 (.block 2
 (.loop ([1, 7, 8], [3, 5])
 (.seq (some ([1, 7, 8], [3, 5]))
 (.seq none
 (.reg [⟨none, some 21, [(.tmp 8)], ⟨.f fMove, rMove⟩⟩,
  ⟨none, some 22, [(.tmp 21), (.const (.int .i64 40))], ⟨.f (fBin .lss .no), rLss⟩⟩,
  ⟨none, some 23, [(.tmp 22)], ⟨.f fMove, rMove⟩⟩,
  ⟨(some (3, 2, true, some 23)), some 24, [(.tmp 7)], ⟨.f fMove, rMove⟩⟩,
  ⟨(some (4, 2, true, some 23)), some 25, [(.tmp 5), (.tmp 24)], ⟨.f (fIxA 3 3), rIxA 3 3⟩⟩,
  ⟨(some (5, 2, true, some 23)), some 26, [(.tmp 25)], ⟨.f (fFld 1), rFld 1⟩⟩,
  ⟨(some (6, 2, true, some 23)), some 27, [(.tmp 26)], ⟨.lr 5 1 false, rLr1 5⟩⟩,
  ⟨(some (7, 2, true, some 23)), some 28, [(.tmp 27), (.const (.pointer none))], ⟨.f (fBin .neq .ptr), rAny xl_law06_free (.f (fBin .neq .ptr))⟩⟩,
  ⟨none, some 29, [(.tmp 23), (.tmp 28), (.const (.bool false))], ⟨.f fPick, rPick⟩⟩])
 (.cond (.tmp 29)
 .skip
 (.exit 2)))
 (.seq (some ([1, 7, 8], [3, 5]))
 (.block 3
 (.seq none
 (.reg [⟨none, some 32, [(.tmp 7)], ⟨.f fMove, rMove⟩⟩,
  ⟨none, some 33, [(.tmp 5), (.tmp 32)], ⟨.f (fIxA 3 3), rIxA 3 3⟩⟩,
  ⟨none, some 34, [(.tmp 33)], ⟨.f (fFld 1), rFld 1⟩⟩,
  ⟨none, some 35, [(.tmp 34)], ⟨.lr 5 1 false, rLr1 5⟩⟩,
  ⟨none, some 36, [(.tmp 3)], ⟨.lr 3 9 true, rAny xl_law06_free (.lr 3 9 true)⟩⟩,
  ⟨none, some 37, [(.tmp 35), (.tmp 36)], ⟨.call .write s_slot_Give_Step v_slot_Give_Step, rCall v_slot_Give_Step⟩⟩])
 (.cond (.tmp 37)
 (.reg [⟨none, some 38, [(.tmp 7)], ⟨.f fMove, rMove⟩⟩,
  ⟨none, some 39, [(.tmp 5), (.tmp 38)], ⟨.f (fIxA 3 3), rIxA 3 3⟩⟩,
  ⟨none, some 40, [(.tmp 39)], ⟨.f (fFld 1), rFld 1⟩⟩,
  ⟨none, none, [(.tmp 40), (.const (.pointer none))], ⟨.ls 5 1, rLs1 5⟩⟩])
 .skip)))
 (.reg [⟨none, some 30, [(.tmp 8)], ⟨.f fMove, rMove⟩⟩,
  ⟨none, some 31, [(.tmp 30), (.const (.int .i64 1))], ⟨.f (fBin .add .no), rAdd⟩⟩,
  ⟨none, some 8, [(.tmp 31)], ⟨.f fMove, rMove⟩⟩])))))))
 (.reg [⟨none, some 19, [(.tmp 7)], ⟨.f fMove, rMove⟩⟩,
  ⟨none, some 20, [(.tmp 19), (.const (.int .i64 1))], ⟨.f (fBin .add .no), rAdd⟩⟩,
  ⟨none, some 7, [(.tmp 20)], ⟨.f fMove, rMove⟩⟩]))))))
 (.seq none
 (.reg [⟨none, some 41, [(.tmp 1)], ⟨.f fMove, rMove⟩⟩,
  ⟨none, some 42, [(.tmp 41), (.tmp 41)], ⟨.ms 1 1 [(.bool false)], rAny xl_law06_free (.ms 1 1 [(.bool false)])⟩⟩,
  ⟨none, some 9, [(.tmp 42)], ⟨.f fMove, rMove⟩⟩])
 (.seq (some ([], [3]))
 (.seq none
 (.reg [⟨none, some 10, [(.const (.int .i64 0))], ⟨.f fMove, rMove⟩⟩])
 (.block 4
 (.loop ([1, 9, 10], [3])
 (.seq none
 (.seq none
 (.reg [⟨none, some 43, [(.tmp 10)], ⟨.f fMove, rMove⟩⟩,
  ⟨none, some 44, [(.tmp 1)], ⟨.f fMove, rMove⟩⟩,
  ⟨none, some 45, [(.tmp 43), (.tmp 44)], ⟨.f (fBin .lss .no), rLss⟩⟩])
 (.cond (.tmp 45)
 .skip
 (.exit 4)))
 (.seq none
 (.block 5
 (.seq none
 (.reg [⟨none, some 49, [(.tmp 3)], ⟨.lr 3 9 true, rAny xl_law06_free (.lr 3 9 true)⟩⟩,
  ⟨none, some 50, [(.tmp 49)], ⟨.call .write s_law06_take v_law06_take, rCall v_law06_take⟩⟩,
  ⟨none, some 48, [(.tmp 50)], ⟨.f fMove, rMove⟩⟩,
  ⟨none, some 51, [(.tmp 48)], ⟨.f (fExt 0), rAny xl_law06_free (.f (fExt 0))⟩⟩,
  ⟨none, some 52, [(.tmp 48)], ⟨.f (fExt 1), rAny xl_law06_free (.f (fExt 1))⟩⟩,
  ⟨none, some 53, [(.tmp 48)], ⟨.f (fExt 2), rAny xl_law06_free (.f (fExt 2))⟩⟩,
  ⟨none, some 11, [(.tmp 51)], ⟨.f fMove, rMove⟩⟩,
  ⟨none, some 12, [(.tmp 52)], ⟨.f fMove, rMove⟩⟩,
  ⟨none, some 13, [(.tmp 53)], ⟨.f fMove, rMove⟩⟩])
 (.seq none
 (.seq (some ([1, 9, 10, 11, 70], [3]))
 (.reg [⟨none, some 54, [(.tmp 12)], ⟨.f fMove, rMove⟩⟩,
  ⟨none, some 55, [(.tmp 54)], ⟨.f (fUn .not), rNot⟩⟩,
  ⟨none, some 56, [(.tmp 55)], ⟨.f fMove, rMove⟩⟩,
  ⟨(some (3, 2, false, some 56)), some 57, [(.tmp 11)], ⟨.f fMove, rMove⟩⟩,
  ⟨(some (4, 2, false, some 56)), some 58, [(.tmp 57), (.const (.int .i64 0))], ⟨.f (fBin .lss .no), rLss⟩⟩,
  ⟨none, some 59, [(.tmp 56), (.const (.bool true)), (.tmp 58)], ⟨.f fPick, rPick⟩⟩,
  ⟨none, some 60, [(.tmp 59)], ⟨.f fMove, rMove⟩⟩,
  ⟨(some (7, 6, false, some 60)), some 61, [(.tmp 11)], ⟨.f fMove, rMove⟩⟩,
  ⟨(some (8, 6, false, some 60)), some 62, [(.tmp 1)], ⟨.f fMove, rMove⟩⟩,
  ⟨(some (9, 6, false, some 60)), some 63, [(.tmp 61), (.tmp 62)], ⟨.f (fBin .geq .no), rGeq⟩⟩,
  ⟨none, some 64, [(.tmp 60), (.const (.bool true)), (.tmp 63)], ⟨.f fPick, rPick⟩⟩,
  ⟨none, some 65, [(.tmp 64)], ⟨.f fMove, rMove⟩⟩,
  ⟨(some (12, 11, false, some 65)), some 66, [(.tmp 9)], ⟨.f fMove, rMove⟩⟩,
  ⟨(some (13, 11, false, some 65)), some 67, [(.tmp 11)], ⟨.f fMove, rMove⟩⟩,
  ⟨(some (14, 11, false, some 65)), some 68, [(.tmp 66), (.tmp 67)], ⟨.f (fIxS 1), rIxS 1⟩⟩,
  ⟨(some (15, 11, false, some 65)), some 69, [(.tmp 68)], ⟨.load 1 false, rLoad1⟩⟩,
  ⟨none, some 70, [(.tmp 65), (.const (.bool true)), (.tmp 69)], ⟨.f fPick, rPick⟩⟩])
 (.cond (.tmp 70)
 (.seq none
 (.reg [⟨none, some 6, [(.const (.bool false))], ⟨.f fMove, rMove⟩⟩])
 .ret)
 .skip))
 (.reg [⟨none, some 71, [(.tmp 9)], ⟨.f fMove, rMove⟩⟩,
  ⟨none, some 72, [(.tmp 11)], ⟨.f fMove, rMove⟩⟩,
  ⟨none, some 73, [(.tmp 71), (.tmp 72)], ⟨.f (fIxS 1), rIxS 1⟩⟩,
  ⟨none, none, [(.tmp 73), (.const (.bool true))], ⟨.store 1, rStore1⟩⟩]))))
 (.reg [⟨none, some 46, [(.tmp 10)], ⟨.f fMove, rMove⟩⟩,
  ⟨none, some 47, [(.tmp 46), (.const (.int .i64 1))], ⟨.f (fBin .add .no), rAdd⟩⟩,
  ⟨none, some 10, [(.tmp 47)], ⟨.f fMove, rMove⟩⟩]))))))
 (.seq none
 (.reg [⟨none, some 75, [(.tmp 3)], ⟨.lr 3 9 true, rAny xl_law06_free (.lr 3 9 true)⟩⟩,
  ⟨none, some 76, [(.tmp 75)], ⟨.call .write s_law06_take v_law06_take, rCall v_law06_take⟩⟩,
  ⟨none, some 74, [(.tmp 76)], ⟨.f fMove, rMove⟩⟩,
  ⟨none, some 77, [(.tmp 74)], ⟨.f (fExt 0), rAny xl_law06_free (.f (fExt 0))⟩⟩,
  ⟨none, some 78, [(.tmp 74)], ⟨.f (fExt 1), rAny xl_law06_free (.f (fExt 1))⟩⟩,
  ⟨none, some 79, [(.tmp 74)], ⟨.f (fExt 2), rAny xl_law06_free (.f (fExt 2))⟩⟩,
  ⟨none, some 14, [(.tmp 77)], ⟨.f fMove, rMove⟩⟩,
  ⟨none, some 15, [(.tmp 78)], ⟨.f fMove, rMove⟩⟩,
  ⟨none, some 16, [(.tmp 79)], ⟨.f fMove, rMove⟩⟩])
 (.seq none
 (.reg [⟨none, some 80, [(.tmp 15)], ⟨.f fMove, rMove⟩⟩,
  ⟨none, some 81, [(.tmp 80)], ⟨.f (fUn .not), rNot⟩⟩,
  ⟨none, some 6, [(.tmp 81)], ⟨.f fMove, rMove⟩⟩])
 .ret))))))
noncomputable def v_law06_free : EvF := evFn 3 xc_law06_free [.t 6]
theorem xt_law06_free : toC cx_law06_free (bodyOf Try.f56) = some (xc_law06_free.map XN.sm) := by kernel_rfl
theorem xr_law06_free : toR cx_law06_free Try.f56.results.toList = some [.t 6] := by kernel_rfl
theorem xo_law06_free : xc_law06_free.ok xl_law06_free := ⟨⟨rAny_ok (trivial), rAny_ok (trivial), rMove_ok, trivial⟩, ⟨⟨⟨rMove_ok, trivial⟩, ⟨⟨⟨rMove_ok, rLss_ok, trivial⟩, ⟨trivial, trivial⟩⟩, ⟨⟨⟨rMove_ok, trivial⟩, ⟨⟨⟨rMove_ok, rLss_ok, rMove_ok, rMove_ok, rIxA_ok _ _, rFld_ok _, rLr1_ok _, rAny_ok (eqv_bin _ _), rPick_ok, trivial⟩, ⟨trivial, trivial⟩⟩, ⟨⟨⟨rMove_ok, rIxA_ok _ _, rFld_ok _, rLr1_ok _, rAny_ok (trivial), rCall_ok ve_slot_Give_Step, trivial⟩, ⟨⟨rMove_ok, rIxA_ok _ _, rFld_ok _, rLs1_ok _, trivial⟩, trivial⟩⟩, ⟨rMove_ok, rAdd_ok, rMove_ok, trivial⟩⟩⟩⟩, ⟨rMove_ok, rAdd_ok, rMove_ok, trivial⟩⟩⟩⟩, ⟨⟨rMove_ok, rAny_ok (trivial), rMove_ok, trivial⟩, ⟨⟨⟨rMove_ok, trivial⟩, ⟨⟨⟨rMove_ok, rMove_ok, rLss_ok, trivial⟩, ⟨trivial, trivial⟩⟩, ⟨⟨⟨rAny_ok (trivial), rCall_ok ve_law06_take, rMove_ok, rAny_ok (eqv_ext _), rAny_ok (eqv_ext _), rAny_ok (eqv_ext _), rMove_ok, rMove_ok, rMove_ok, trivial⟩, ⟨⟨⟨rMove_ok, rNot_ok, rMove_ok, rMove_ok, rLss_ok, rPick_ok, rMove_ok, rMove_ok, rMove_ok, rGeq_ok, rPick_ok, rMove_ok, rMove_ok, rMove_ok, rIxS_ok _, rLoad1_ok, rPick_ok, trivial⟩, ⟨⟨⟨rMove_ok, trivial⟩, trivial⟩, trivial⟩⟩, ⟨rMove_ok, rMove_ok, rIxS_ok _, rStore1_ok, trivial⟩⟩⟩, ⟨rMove_ok, rAdd_ok, rMove_ok, trivial⟩⟩⟩⟩, ⟨⟨rAny_ok (trivial), rCall_ok ve_law06_take, rMove_ok, rAny_ok (eqv_ext _), rAny_ok (eqv_ext _), rAny_ok (eqv_ext _), rMove_ok, rMove_ok, rMove_ok, trivial⟩, ⟨⟨rMove_ok, rNot_ok, rMove_ok, trivial⟩, trivial⟩⟩⟩⟩⟩⟩
theorem ve_law06_free : EvOk s_law06_free v_law06_free := EvOk.of (evFn_sound (C := cx_law06_free) xt_law06_free xr_law06_free xo_law06_free) q_law06_free

attribute [irreducible] w_law06_free_j2b w_law06_free_j2 w_law06_free_j3b w_law06_free_j3 w_law06_free_l12b w_law06_free_l12 w_law06_free_j1b w_law06_free_j1 w_law06_free_j4b w_law06_free_j4 w_law06_free_j6b w_law06_free_j6 w_law06_free_j5b w_law06_free_j5 w_law06_free_l6b w_law06_free_l6 w_law06_free_l3b w_law06_free_l3 w_law06_free s_law06_free

/-! ### /law06.SlotShares -/
def w_law06_SlotShares_j3b (K : Value → Mem → Prop) (v5 : Value) (c6 c8 : List Value) (σ : Mem) : Prop :=
xO (gLoad 9 true [(locP 6)] c6) fun v120 =>
xF fMove [v5] fun v121 =>
xO (gLoad 9 true [(locP 8)] c8) fun v122 =>
s_law06_free [v120, v121, v122] (fun v123 σ =>
xF fMove [v123] fun v4 =>
K v4 σ) σ

def w_law06_SlotShares_j3 (K : Value → Mem → Prop) (ts : List Value) (ls : List (List Value)) (σ : Mem) : Prop := w_law06_SlotShares_j3b K (ts.getD 0 poison) (ls.getD 0 []) (ls.getD 1 []) σ

def w_law06_SlotShares_j4b (K : Value → Mem → Prop) (J3 : List Value → List (List Value) → Mem → Prop) (R1 : List Value → List (List Value) → Mem → Prop) (v1 v5 v10 : Value) (c6 c8 : List Value) (σ : Mem) : Prop :=
xF fMove [v10] fun v45 =>
xF (fBin .add .no) [v45, (.int .i64 1)] fun v46 =>
xF fMove [v46] fun v10 =>
R1 [v1, v5, v10] [c6, c8] σ

def w_law06_SlotShares_j4 (K : Value → Mem → Prop) (J3 : List Value → List (List Value) → Mem → Prop) (R1 : List Value → List (List Value) → Mem → Prop) (ts : List Value) (ls : List (List Value)) (σ : Mem) : Prop := w_law06_SlotShares_j4b K J3 R1 (ts.getD 0 poison) (ts.getD 1 poison) (ts.getD 2 poison) (ls.getD 0 []) (ls.getD 1 []) σ

def w_law06_SlotShares_j6b (K : Value → Mem → Prop) (J3 : List Value → List (List Value) → Mem → Prop) (R1 : List Value → List (List Value) → Mem → Prop) (J4 : List Value → List (List Value) → Mem → Prop) (v1 v5 v10 v11 : Value) (c6 c8 c12 : List Value) (σ : Mem) : Prop :=
xF fMove [v11] fun v117 =>
xO (gLoad 3 true [(locP 12)] c12) fun v118 =>
xF (fIxA 3 3) [(locP 8), v117] fun v119 =>
xC (gStore 3 [v119, v118] c8) fun c8 =>
J4 [v1, v5, v10] [c6, c8] σ

def w_law06_SlotShares_j6 (K : Value → Mem → Prop) (J3 : List Value → List (List Value) → Mem → Prop) (R1 : List Value → List (List Value) → Mem → Prop) (J4 : List Value → List (List Value) → Mem → Prop) (ts : List Value) (ls : List (List Value)) (σ : Mem) : Prop := w_law06_SlotShares_j6b K J3 R1 J4 (ts.getD 0 poison) (ts.getD 1 poison) (ts.getD 2 poison) (ts.getD 3 poison) (ls.getD 0 []) (ls.getD 1 []) (ls.getD 2 []) σ

def w_law06_SlotShares_j7b (K : Value → Mem → Prop) (J3 : List Value → List (List Value) → Mem → Prop) (R1 : List Value → List (List Value) → Mem → Prop) (J4 : List Value → List (List Value) → Mem → Prop) (J6 : List Value → List (List Value) → Mem → Prop) (v1 v5 v10 v11 v13 : Value) (c6 c8 c12 : List Value) (σ : Mem) : Prop :=
xF fMove [v13] fun v113 =>
s_slot_NewGive [v113] (fun v114 σ =>
xF fMove [v13] fun v115 =>
xF (fBuild [(0, 1), (1, 1), (2, 1)] [(.pointer none), (.pointer none), (.int .i64 0)] [1, 2]) [v114, v115] fun v116 =>
xC (gStore 3 [(locP 12), v116] c12) fun c12 =>
J6 [v1, v5, v10, v11] [c6, c8, c12] σ) σ

def w_law06_SlotShares_j7 (K : Value → Mem → Prop) (J3 : List Value → List (List Value) → Mem → Prop) (R1 : List Value → List (List Value) → Mem → Prop) (J4 : List Value → List (List Value) → Mem → Prop) (J6 : List Value → List (List Value) → Mem → Prop) (ts : List Value) (ls : List (List Value)) (σ : Mem) : Prop := w_law06_SlotShares_j7b K J3 R1 J4 J6 (ts.getD 0 poison) (ts.getD 1 poison) (ts.getD 2 poison) (ts.getD 3 poison) (ts.getD 4 poison) (ls.getD 0 []) (ls.getD 1 []) (ls.getD 2 []) σ

def w_law06_SlotShares_j8b (K : Value → Mem → Prop) (J3 : List Value → List (List Value) → Mem → Prop) (R1 : List Value → List (List Value) → Mem → Prop) (J4 : List Value → List (List Value) → Mem → Prop) (J6 : List Value → List (List Value) → Mem → Prop) (J7 : List Value → List (List Value) → Mem → Prop) (R5 : List Value → List (List Value) → Mem → Prop) (v1 v5 v10 v11 v13 v15 v112 : Value) (c6 c8 c12 : List Value) (σ : Mem) : Prop :=
xIf v112
 (xF fMove [(.bool false)] fun v4 =>
K v4 σ)
 (xF fMove [v15] fun v98 =>
xF (fBin .add .no) [v98, (.int .i64 1)] fun v99 =>
xF fMove [v99] fun v15 =>
R5 [v1, v5, v10, v11, v13, v15] [c6, c8, c12] σ)

def w_law06_SlotShares_j8 (K : Value → Mem → Prop) (J3 : List Value → List (List Value) → Mem → Prop) (R1 : List Value → List (List Value) → Mem → Prop) (J4 : List Value → List (List Value) → Mem → Prop) (J6 : List Value → List (List Value) → Mem → Prop) (J7 : List Value → List (List Value) → Mem → Prop) (R5 : List Value → List (List Value) → Mem → Prop) (ts : List Value) (ls : List (List Value)) (σ : Mem) : Prop := w_law06_SlotShares_j8b K J3 R1 J4 J6 J7 R5 (ts.getD 0 poison) (ts.getD 1 poison) (ts.getD 2 poison) (ts.getD 3 poison) (ts.getD 4 poison) (ts.getD 5 poison) (ts.getD 6 poison) (ls.getD 0 []) (ls.getD 1 []) (ls.getD 2 []) σ

def w_law06_SlotShares_l27b (K : Value → Mem → Prop) (J3 : List Value → List (List Value) → Mem → Prop) (R1 : List Value → List (List Value) → Mem → Prop) (J4 : List Value → List (List Value) → Mem → Prop) (J6 : List Value → List (List Value) → Mem → Prop) (J7 : List Value → List (List Value) → Mem → Prop) (R5 : List Value → List (List Value) → Mem → Prop) (v1 v5 v10 v11 v13 v15 : Value) (c6 c8 c12 : List Value) (σ : Mem) : Prop :=
xF fMove [v15] fun v96 =>
xF (fBin .lss .no) [v96, (.int .i64 3)] fun v97 =>
xIf v97
 (xJoin (w_law06_SlotShares_j8 K J3 R1 J4 J6 J7 R5) fun J8 =>
xF fMove [v15] fun v100 =>
xF (fIxA 3 3) [(locP 8), v100] fun v101 =>
xF (fFld 2) [v101] fun v102 =>
xO (gLoad 1 false [v102] c8) fun v103 =>
xF fMove [v13] fun v104 =>
xF (fBin .eql .no) [v103, v104] fun v105 =>
xF fMove [v105] fun v106 =>
xIf v106
 (xF fMove [v15] fun v107 =>
xF (fIxA 3 3) [(locP 8), v107] fun v108 =>
xF (fFld 1) [v108] fun v109 =>
xO (gLoad 1 false [v109] c8) fun v110 =>
xF (fBin .eql .ptr) [v110, (.pointer none)] fun v111 =>
xF fPick [(.bool true), v111, (.bool false)] fun v112 =>
J8 [v1, v5, v10, v11, v13, v15, v112] [c6, c8, c12] σ)
 (xF fPick [(.bool false), undef, (.bool false)] fun v112 =>
J8 [v1, v5, v10, v11, v13, v15, v112] [c6, c8, c12] σ))
 (J7 [v1, v5, v10, v11, v13] [c6, c8, c12] σ)

def w_law06_SlotShares_l27 (K : Value → Mem → Prop) (J3 : List Value → List (List Value) → Mem → Prop) (R1 : List Value → List (List Value) → Mem → Prop) (J4 : List Value → List (List Value) → Mem → Prop) (J6 : List Value → List (List Value) → Mem → Prop) (J7 : List Value → List (List Value) → Mem → Prop) (R5 : List Value → List (List Value) → Mem → Prop) (ts : List Value) (ls : List (List Value)) (σ : Mem) : Prop := w_law06_SlotShares_l27b K J3 R1 J4 J6 J7 R5 (ts.getD 0 poison) (ts.getD 1 poison) (ts.getD 2 poison) (ts.getD 3 poison) (ts.getD 4 poison) (ts.getD 5 poison) (ls.getD 0 []) (ls.getD 1 []) (ls.getD 2 []) σ

def w_law06_SlotShares_j5b (K : Value → Mem → Prop) (J3 : List Value → List (List Value) → Mem → Prop) (R1 : List Value → List (List Value) → Mem → Prop) (J4 : List Value → List (List Value) → Mem → Prop) (v1 v5 v10 v11 : Value) (c6 c8 : List Value) (σ : Mem) : Prop :=
xF fMove [v11] fun v66 =>
xF (fIxA 3 3) [(locP 8), v66] fun v67 =>
xO (gLoad 3 true [v67] c8) fun v68 =>
xC (gStore 3 [(locP 12), v68] [(.pointer none), (.pointer none), (.int .i64 0)]) fun c12 =>
xJoin (w_law06_SlotShares_j6 K J3 R1 J4) fun J6 =>
xF (fFld 1) [(locP 12)] fun v70 =>
xO (gLoad 1 false [v70] c12) fun v71 =>
xF (fBin .neq .ptr) [v71, (.pointer none)] fun v72 =>
xF fMove [v72] fun v69 =>
xIf v69
 (xF (fFld 1) [(locP 12)] fun v73 =>
xO (gLoad 1 false [v73] c12) fun v74 =>
xO (gLoad 9 true [(locP 6)] c6) fun v75 =>
s_slot_Give_Step [v74, v75] (fun v76 σ =>
xIf v76
 (xF (fBuild [(0, 1), (1, 1), (2, 1), (3, 1), (4, 1)] [(.int .i64 0), (.int .u64 0), (.int .i64 0), (.int .i64 0), (.bool false)] []) [] fun v77 =>
hBox 5 [v77] (fun v78 σ =>
xF (fBuild [(0, 1), (1, 1), (2, 1)] [(.pointer none), (.pointer none), (.int .i64 0)] [0, 2]) [v78, (.int .i64 (-1))] fun v79 =>
xC (gStore 3 [(locP 12), v79] c12) fun c12 =>
J6 [v1, v5, v10, v11] [c6, c8, c12] σ) σ)
 (J6 [v1, v5, v10, v11] [c6, c8, c12] σ)) σ)
 (xF (fFld 0) [(locP 12)] fun v81 =>
xO (gLoad 1 false [v81] c12) fun v82 =>
xO (gLoad 9 true [(locP 6)] c6) fun v83 =>
s_slot_Take_Step [v82, v83] (fun v84 σ =>
xF fMove [v84] fun v80 =>
xIf v80
 (xF (fFld 0) [(locP 12)] fun v86 =>
xO (gLoad 1 false [v86] c12) fun v87 =>
s_slot_Take_Slot [v87] (fun v88 σ =>
xF fMove [v88] fun v85 =>
xF (fExt 0) [v85] fun v89 =>
xF (fExt 1) [v85] fun v90 =>
xF fMove [v89] fun v13 =>
xF fMove [v90] fun v14 =>
xF fMove [v14] fun v91 =>
xF (fUn .not) [v91] fun v92 =>
xIf v92
 (xF (fBuild [(0, 1), (1, 1), (2, 1), (3, 1), (4, 1)] [(.int .i64 0), (.int .u64 0), (.int .i64 0), (.int .i64 0), (.bool false)] []) [] fun v93 =>
hBox 5 [v93] (fun v94 σ =>
xF (fFld 0) [(locP 12)] fun v95 =>
xC (gStore 1 [v95, v94] c12) fun c12 =>
J6 [v1, v5, v10, v11] [c6, c8, c12] σ) σ)
 (xJoin (w_law06_SlotShares_j7 K J3 R1 J4 J6) fun J7 =>
xF fMove [(.int .i64 0)] fun v15 =>
xLoop (w_law06_SlotShares_l27 K J3 R1 J4 J6 J7) [v1, v5, v10, v11, v13, v15] [c6, c8, c12] σ)) σ)
 (J6 [v1, v5, v10, v11] [c6, c8, c12] σ)) σ)

def w_law06_SlotShares_j5 (K : Value → Mem → Prop) (J3 : List Value → List (List Value) → Mem → Prop) (R1 : List Value → List (List Value) → Mem → Prop) (J4 : List Value → List (List Value) → Mem → Prop) (ts : List Value) (ls : List (List Value)) (σ : Mem) : Prop := w_law06_SlotShares_j5b K J3 R1 J4 (ts.getD 0 poison) (ts.getD 1 poison) (ts.getD 2 poison) (ts.getD 3 poison) (ls.getD 0 []) (ls.getD 1 []) σ

def w_law06_SlotShares_j9b (K : Value → Mem → Prop) (J3 : List Value → List (List Value) → Mem → Prop) (R1 : List Value → List (List Value) → Mem → Prop) (J4 : List Value → List (List Value) → Mem → Prop) (J5 : List Value → List (List Value) → Mem → Prop) (v1 v5 v10 v11 v56 : Value) (c6 c8 : List Value) (σ : Mem) : Prop :=
xIf v56
 (xF fMove [v1] fun v57 =>
xF fMove [v10] fun v58 =>
xF (fIxS 1) [v57, v58] fun v59 =>
hLoad 1 false [v59] (fun v60 σ =>
xF (fBin .rem .no) [v60, (.int .i64 3)] fun v61 =>
xF (fBin .add .no) [v61, (.int .i64 3)] fun v62 =>
xF (fBin .rem .no) [v62, (.int .i64 3)] fun v63 =>
xF fMove [v63] fun v11 =>
J5 [v1, v5, v10, v11] [c6, c8] σ) σ)
 (xF fMove [v10] fun v64 =>
xF (fBin .gtr .no) [v64, (.int .i64 360)] fun v65 =>
xIf v65
 (J3 [v5] [c6, c8] σ)
 (J5 [v1, v5, v10, v11] [c6, c8] σ))

def w_law06_SlotShares_j9 (K : Value → Mem → Prop) (J3 : List Value → List (List Value) → Mem → Prop) (R1 : List Value → List (List Value) → Mem → Prop) (J4 : List Value → List (List Value) → Mem → Prop) (J5 : List Value → List (List Value) → Mem → Prop) (ts : List Value) (ls : List (List Value)) (σ : Mem) : Prop := w_law06_SlotShares_j9b K J3 R1 J4 J5 (ts.getD 0 poison) (ts.getD 1 poison) (ts.getD 2 poison) (ts.getD 3 poison) (ts.getD 4 poison) (ls.getD 0 []) (ls.getD 1 []) σ

def w_law06_SlotShares_l12b (K : Value → Mem → Prop) (J3 : List Value → List (List Value) → Mem → Prop) (R1 : List Value → List (List Value) → Mem → Prop) (v1 v5 v10 : Value) (c6 c8 : List Value) (σ : Mem) : Prop :=
xF fMove [v10] fun v40 =>
xF fMove [v1] fun v41 =>
xF fLen [v41] fun v42 =>
xF (fBin .add .no) [v42, (.int .i64 60)] fun v43 =>
xF (fBin .lss .no) [v40, v43] fun v44 =>
xIf v44
 (xJoin (w_law06_SlotShares_j4 K J3 R1) fun J4 =>
xF fMove [v10] fun v47 =>
xF (fBin .rem .no) [v47, (.int .i64 3)] fun v48 =>
xF fMove [v48] fun v11 =>
xJoin (w_law06_SlotShares_j5 K J3 R1 J4) fun J5 =>
xJoin (w_law06_SlotShares_j9 K J3 R1 J4 J5) fun J9 =>
xF fMove [v10] fun v49 =>
xF fMove [v1] fun v50 =>
xF fLen [v50] fun v51 =>
xF (fBin .lss .no) [v49, v51] fun v52 =>
xF fMove [v52] fun v53 =>
xIf v53
 (xF fMove [v10] fun v54 =>
xF (fBin .lss .no) [v54, (.int .i64 300)] fun v55 =>
xF fPick [(.bool true), v55, (.bool false)] fun v56 =>
J9 [v1, v5, v10, v11, v56] [c6, c8] σ)
 (xF fPick [(.bool false), undef, (.bool false)] fun v56 =>
J9 [v1, v5, v10, v11, v56] [c6, c8] σ))
 (J3 [v5] [c6, c8] σ)

def w_law06_SlotShares_l12 (K : Value → Mem → Prop) (J3 : List Value → List (List Value) → Mem → Prop) (R1 : List Value → List (List Value) → Mem → Prop) (ts : List Value) (ls : List (List Value)) (σ : Mem) : Prop := w_law06_SlotShares_l12b K J3 R1 (ts.getD 0 poison) (ts.getD 1 poison) (ts.getD 2 poison) (ls.getD 0 []) (ls.getD 1 []) σ

def w_law06_SlotShares_j2b (K : Value → Mem → Prop) (v1 v5 : Value) (c6 c8 : List Value) (σ : Mem) : Prop :=
xJoin (w_law06_SlotShares_j3 K) fun J3 =>
xF fMove [(.int .i64 0)] fun v10 =>
xLoop (w_law06_SlotShares_l12 K J3) [v1, v5, v10] [c6, c8] σ

def w_law06_SlotShares_j2 (K : Value → Mem → Prop) (ts : List Value) (ls : List (List Value)) (σ : Mem) : Prop := w_law06_SlotShares_j2b K (ts.getD 0 poison) (ts.getD 1 poison) (ls.getD 0 []) (ls.getD 1 []) σ

def w_law06_SlotShares_l8b (K : Value → Mem → Prop) (J2 : List Value → List (List Value) → Mem → Prop) (R1 : List Value → List (List Value) → Mem → Prop) (v1 v5 v9 : Value) (c6 c8 : List Value) (σ : Mem) : Prop :=
xF fMove [v9] fun v31 =>
xF (fBin .lss .no) [v31, (.int .i64 3)] fun v32 =>
xIf v32
 (xF fMove [v9] fun v35 =>
xF (fBuild [(0, 1), (1, 1), (2, 1), (3, 1), (4, 1)] [(.int .i64 0), (.int .u64 0), (.int .i64 0), (.int .i64 0), (.bool false)] []) [] fun v36 =>
hBox 5 [v36] (fun v37 σ =>
xF (fBuild [(0, 1), (1, 1), (2, 1)] [(.pointer none), (.pointer none), (.int .i64 0)] [0, 2]) [v37, (.int .i64 (-1))] fun v38 =>
xF (fIxA 3 3) [(locP 8), v35] fun v39 =>
xC (gStore 3 [v39, v38] c8) fun c8 =>
xF fMove [v9] fun v33 =>
xF (fBin .add .no) [v33, (.int .i64 1)] fun v34 =>
xF fMove [v34] fun v9 =>
R1 [v1, v5, v9] [c6, c8] σ) σ)
 (J2 [v1, v5] [c6, c8] σ)

def w_law06_SlotShares_l8 (K : Value → Mem → Prop) (J2 : List Value → List (List Value) → Mem → Prop) (R1 : List Value → List (List Value) → Mem → Prop) (ts : List Value) (ls : List (List Value)) (σ : Mem) : Prop := w_law06_SlotShares_l8b K J2 R1 (ts.getD 0 poison) (ts.getD 1 poison) (ts.getD 2 poison) (ls.getD 0 []) (ls.getD 1 []) σ

def w_law06_SlotShares_j1b (K : Value → Mem → Prop) (v1 v5 v29 : Value) (c6 : List Value) (σ : Mem) : Prop :=
xIf v29
 (xF fMove [(.bool false)] fun v4 =>
K v4 σ)
 (xF (fBuild [(0, 3), (3, 3), (6, 3)] [(.pointer none), (.pointer none), (.int .i64 0), (.pointer none), (.pointer none), (.int .i64 0), (.pointer none), (.pointer none), (.int .i64 0)] []) [] fun v30 =>
xC (gStore 9 [(locP 8), v30] [(.pointer none), (.pointer none), (.int .i64 0), (.pointer none), (.pointer none), (.int .i64 0), (.pointer none), (.pointer none), (.int .i64 0)]) fun c8 =>
xJoin (w_law06_SlotShares_j2 K) fun J2 =>
xF fMove [(.int .i64 0)] fun v9 =>
xLoop (w_law06_SlotShares_l8 K J2) [v1, v5, v9] [c6, c8] σ)

def w_law06_SlotShares_j1 (K : Value → Mem → Prop) (ts : List Value) (ls : List (List Value)) (σ : Mem) : Prop := w_law06_SlotShares_j1b K (ts.getD 0 poison) (ts.getD 1 poison) (ts.getD 2 poison) (ls.getD 0 []) σ

def w_law06_SlotShares (a0 a1 : Value) (K : Value → Mem → Prop) (σ : Mem) : Prop :=
xF fMove [(.bool false)] fun v4 =>
xF fMove [a0] fun v16 =>
xF (fBin .and .no) [v16, (.int .i64 3)] fun v17 =>
xF (fBin .add .no) [(.int .i64 1), v17] fun v18 =>
xF fMove [v18] fun v5 =>
xF fMove [v5] fun v20 =>
s_law04_Arena [(.int .i64 4), v20, (.int .i64 1), (.int .i64 20)] (fun v21 σ =>
xF fMove [v21] fun v19 =>
xF (fExt 0) [v19] fun v22 =>
xF (fExt 1) [v19] fun v23 =>
xC (gStore 9 [(locP 6), v22] [(.int .i64 0), (.int .i64 0), (.int .i64 0), (.int .i64 0), (.int .i64 0), (.int .i64 0), (.int .i64 0), (.pointer none), (.int .i64 0)]) fun c6 =>
xF fMove [v23] fun v7 =>
xJoin (w_law06_SlotShares_j1 K) fun J1 =>
s_law06_awake [] (fun v24 σ =>
xF (fUn .not) [v24] fun v25 =>
xF fMove [v25] fun v26 =>
xIf v26
 (xF fPick [(.bool true), (.bool true), undef] fun v29 =>
J1 [a1, v5, v29] [c6] σ)
 (xF fMove [v7] fun v27 =>
xF (fUn .not) [v27] fun v28 =>
xF fPick [(.bool false), (.bool true), v28] fun v29 =>
J1 [a1, v5, v29] [c6] σ)) σ) σ

def s_law06_SlotShares : Spec := fun args K σ => match args with
  | [a0, a1] => w_law06_SlotShares a0 a1 K σ
  | _ => False

noncomputable def cx_law06_SlotShares : Cx := { P := Try.prog, T := [(36, .write, s_law04_Arena), (37, .none, s_law06_awake), (54, .write, s_slot_Give_Step), (39, .write, s_slot_Take_Step), (40, .read, s_slot_Take_Slot), (55, .write, s_slot_NewGive), (56, .write, s_law06_free)], loc := [(6, 6), (8, 8), (12, 12), (39, 8), (67, 8), (70, 12), (73, 12), (81, 12), (86, 12), (95, 12), (101, 8), (102, 8), (108, 8), (109, 8), (119, 8)], eqt := [(80, .ptr)], n := 124, keep := [(8, [1, 5, 9], [6, 8]), (12, [1, 5, 10], [6, 8]), (27, [1, 5, 10, 11, 13, 15], [6, 8, 12]), (1000005, [1, 5, 29], [6]), (1000011, [1, 5], [6, 8]), (1000013, [1, 5, 10], [6, 8]), (1000016, [1, 5, 10, 11, 56], [6, 8]), (1000018, [1, 5, 10, 11], [6, 8]), (1000030, [1, 5, 10, 11, 13, 15, 112], [6, 8, 12]), (1000031, [1, 5, 10, 11, 13], [6, 8, 12]), (1000032, [1, 5, 10, 11], [6, 8, 12]), (1000033, [5], [6, 8])] }
theorem q_law06_SlotShares : FnS cx_law06_SlotShares Try.f11 (bodyOf Try.f11) 2 = s_law06_SlotShares := by
  funext args K σ
  rcases args with _ | ⟨a0, _ | ⟨a1, _ | ⟨b, r⟩⟩⟩ <;> kernel_rfl
theorem e_law06_SlotShares : Entry Try.prog 11 .write s_law06_SlotShares :=
  entry (C := cx_law06_SlotShares) (TOk.cons e_law04_Arena (TOk.cons e_law06_awake (TOk.cons e_slot_Give_Step (TOk.cons e_slot_Take_Step (TOk.cons e_slot_Take_Slot (TOk.cons e_slot_NewGive (TOk.cons e_law06_free TOk.nil))))))) mixedOk Try.func11 (by kernel_rfl) (by kernel_rfl) (by kernel_rfl) q_law06_SlotShares

def xl_law06_SlotShares : List (Nat × Nat) := [(6, 6), (8, 8), (12, 12), (39, 8), (67, 8), (70, 12), (73, 12), (81, 12), (86, 12), (95, 12), (101, 8), (102, 8), (108, 8), (109, 8), (119, 8)]
noncomputable def xc_law06_SlotShares : XC XN :=
(.seq none
 (.reg [⟨none, some 4, [(.const (.bool false))], ⟨.f fMove, rMove⟩⟩])
 (.seq none
 (.reg [⟨none, some 16, [(.tmp 0)], ⟨.f fMove, rMove⟩⟩,
  ⟨none, some 17, [(.tmp 16), (.const (.int .i64 3))], ⟨.band .no, rAny xl_law06_SlotShares (.band .no)⟩⟩,
  ⟨none, some 18, [(.const (.int .i64 1)), (.tmp 17)], ⟨.f (fBin .add .no), rAdd⟩⟩,
  ⟨none, some 5, [(.tmp 18)], ⟨.f fMove, rMove⟩⟩])
 (.seq none
 (.reg [⟨none, some 20, [(.tmp 5)], ⟨.f fMove, rMove⟩⟩,
  ⟨none, some 21, [(.const (.int .i64 4)), (.tmp 20), (.const (.int .i64 1)), (.const (.int .i64 20))], ⟨.call .write s_law04_Arena v_law04_Arena, rCall v_law04_Arena⟩⟩,
  ⟨none, some 19, [(.tmp 21)], ⟨.f fMove, rMove⟩⟩,
  ⟨none, some 22, [(.tmp 19)], ⟨.f (fExt 0), rAny xl_law06_SlotShares (.f (fExt 0))⟩⟩,
  ⟨none, some 23, [(.tmp 19)], ⟨.f (fExt 1), rAny xl_law06_SlotShares (.f (fExt 1))⟩⟩,
  ⟨none, some 6, [], ⟨.la 6 [(.int .i64 0), (.int .i64 0), (.int .i64 0), (.int .i64 0), (.int .i64 0), (.int .i64 0), (.int .i64 0), (.pointer none), (.int .i64 0)], rAny xl_law06_SlotShares (.la 6 [(.int .i64 0), (.int .i64 0), (.int .i64 0), (.int .i64 0), (.int .i64 0), (.int .i64 0), (.int .i64 0), (.pointer none), (.int .i64 0)])⟩⟩,
  ⟨none, none, [(.tmp 6), (.tmp 22)], ⟨.ls 6 9, rAny xl_law06_SlotShares (.ls 6 9)⟩⟩,
  ⟨none, some 7, [(.tmp 23)], ⟨.f fMove, rMove⟩⟩])
 (.seq none
 (.seq (some ([1, 5, 29], [6]))
 (.reg [⟨none, some 24, [], ⟨.call .none s_law06_awake v_law06_awake, rCall v_law06_awake⟩⟩,
  ⟨none, some 25, [(.tmp 24)], ⟨.f (fUn .not), rNot⟩⟩,
  ⟨none, some 26, [(.tmp 25)], ⟨.f fMove, rMove⟩⟩,
  ⟨(some (3, 2, false, some 26)), some 27, [(.tmp 7)], ⟨.f fMove, rMove⟩⟩,
  ⟨(some (4, 2, false, some 26)), some 28, [(.tmp 27)], ⟨.f (fUn .not), rNot⟩⟩,
  ⟨none, some 29, [(.tmp 26), (.const (.bool true)), (.tmp 28)], ⟨.f fPick, rPick⟩⟩])
 (.cond (.tmp 29)
 (.seq none
 (.reg [⟨none, some 4, [(.const (.bool false))], ⟨.f fMove, rMove⟩⟩])
 .ret)
 .skip))
 (.seq none
 (.reg [⟨none, some 30, [], ⟨.f (fBuild [(0, 3), (3, 3), (6, 3)] [(.pointer none), (.pointer none), (.int .i64 0), (.pointer none), (.pointer none), (.int .i64 0), (.pointer none), (.pointer none), (.int .i64 0)] []), rAny xl_law06_SlotShares (.f (fBuild [(0, 3), (3, 3), (6, 3)] [(.pointer none), (.pointer none), (.int .i64 0), (.pointer none), (.pointer none), (.int .i64 0), (.pointer none), (.pointer none), (.int .i64 0)] []))⟩⟩,
  ⟨none, some 8, [], ⟨.la 8 [(.pointer none), (.pointer none), (.int .i64 0), (.pointer none), (.pointer none), (.int .i64 0), (.pointer none), (.pointer none), (.int .i64 0)], rAny xl_law06_SlotShares (.la 8 [(.pointer none), (.pointer none), (.int .i64 0), (.pointer none), (.pointer none), (.int .i64 0), (.pointer none), (.pointer none), (.int .i64 0)])⟩⟩,
  ⟨none, none, [(.tmp 8), (.tmp 30)], ⟨.ls 8 9, rAny xl_law06_SlotShares (.ls 8 9)⟩⟩])
 (.seq (some ([1, 5], [6, 8]))
 (.seq none
 (.reg [⟨none, some 9, [(.const (.int .i64 0))], ⟨.f fMove, rMove⟩⟩])
 (.block 0
 (.loop ([1, 5, 9], [6, 8])
 (.seq none
 (.seq none
 (.reg [⟨none, some 31, [(.tmp 9)], ⟨.f fMove, rMove⟩⟩,
  ⟨none, some 32, [(.tmp 31), (.const (.int .i64 3))], ⟨.f (fBin .lss .no), rLss⟩⟩])
 (.cond (.tmp 32)
 .skip
 (.exit 0)))
 (.seq none
 (.block 1
 (.reg [⟨none, some 35, [(.tmp 9)], ⟨.f fMove, rMove⟩⟩,
  ⟨none, some 36, [], ⟨.f (fBuild [(0, 1), (1, 1), (2, 1), (3, 1), (4, 1)] [(.int .i64 0), (.int .u64 0), (.int .i64 0), (.int .i64 0), (.bool false)] []), rAny xl_law06_SlotShares (.f (fBuild [(0, 1), (1, 1), (2, 1), (3, 1), (4, 1)] [(.int .i64 0), (.int .u64 0), (.int .i64 0), (.int .i64 0), (.bool false)] []))⟩⟩,
  ⟨none, some 37, [(.tmp 36)], ⟨.box 5, rAny xl_law06_SlotShares (.box 5)⟩⟩,
  ⟨none, some 38, [(.tmp 37), (.const (.int .i64 (-1)))], ⟨.f (fBuild [(0, 1), (1, 1), (2, 1)] [(.pointer none), (.pointer none), (.int .i64 0)] [0, 2]), rAny xl_law06_SlotShares (.f (fBuild [(0, 1), (1, 1), (2, 1)] [(.pointer none), (.pointer none), (.int .i64 0)] [0, 2]))⟩⟩,
  ⟨none, some 39, [(.tmp 8), (.tmp 35)], ⟨.f (fIxA 3 3), rIxA 3 3⟩⟩,
  ⟨none, none, [(.tmp 39), (.tmp 38)], ⟨.ls 8 3, rAny xl_law06_SlotShares (.ls 8 3)⟩⟩]))
 (.reg [⟨none, some 33, [(.tmp 9)], ⟨.f fMove, rMove⟩⟩,
  ⟨none, some 34, [(.tmp 33), (.const (.int .i64 1))], ⟨.f (fBin .add .no), rAdd⟩⟩,
  ⟨none, some 9, [(.tmp 34)], ⟨.f fMove, rMove⟩⟩]))))))
 (.seq (some ([5], [6, 8]))
 (.seq none
 (.reg [⟨none, some 10, [(.const (.int .i64 0))], ⟨.f fMove, rMove⟩⟩])
 (.block 2
 (.loop ([1, 5, 10], [6, 8])
 (.seq none
 (.seq none
 (.reg [⟨none, some 40, [(.tmp 10)], ⟨.f fMove, rMove⟩⟩,
  ⟨none, some 41, [(.tmp 1)], ⟨.f fMove, rMove⟩⟩,
  ⟨none, some 42, [(.tmp 41)], ⟨.f fLen, rAny xl_law06_SlotShares (.f fLen)⟩⟩,
  ⟨none, some 43, [(.tmp 42), (.const (.int .i64 60))], ⟨.f (fBin .add .no), rAdd⟩⟩,
  ⟨none, some 44, [(.tmp 40), (.tmp 43)], ⟨.f (fBin .lss .no), rLss⟩⟩])
 (.cond (.tmp 44)
 .skip
 (.exit 2)))
 (.seq (some ([1, 5, 10], [6, 8]))
 (.block 3
 (.seq none
 (.reg [⟨none, some 47, [(.tmp 10)], ⟨.f fMove, rMove⟩⟩,
  ⟨none, some 48, [(.tmp 47), (.const (.int .i64 3))], ⟨.f (fBin .rem .no), rAny xl_law06_SlotShares (.f (fBin .rem .no))⟩⟩,
  ⟨none, some 11, [(.tmp 48)], ⟨.f fMove, rMove⟩⟩])
 (.seq (some ([1, 5, 10, 11], [6, 8]))
 (.seq (some ([1, 5, 10, 11, 56], [6, 8]))
 (.reg [⟨none, some 49, [(.tmp 10)], ⟨.f fMove, rMove⟩⟩,
  ⟨none, some 50, [(.tmp 1)], ⟨.f fMove, rMove⟩⟩,
  ⟨none, some 51, [(.tmp 50)], ⟨.f fLen, rAny xl_law06_SlotShares (.f fLen)⟩⟩,
  ⟨none, some 52, [(.tmp 49), (.tmp 51)], ⟨.f (fBin .lss .no), rLss⟩⟩,
  ⟨none, some 53, [(.tmp 52)], ⟨.f fMove, rMove⟩⟩,
  ⟨(some (5, 4, true, some 53)), some 54, [(.tmp 10)], ⟨.f fMove, rMove⟩⟩,
  ⟨(some (6, 4, true, some 53)), some 55, [(.tmp 54), (.const (.int .i64 300))], ⟨.f (fBin .lss .no), rLss⟩⟩,
  ⟨none, some 56, [(.tmp 53), (.tmp 55), (.const (.bool false))], ⟨.f fPick, rPick⟩⟩])
 (.cond (.tmp 56)
 (.reg [⟨none, some 57, [(.tmp 1)], ⟨.f fMove, rMove⟩⟩,
  ⟨none, some 58, [(.tmp 10)], ⟨.f fMove, rMove⟩⟩,
  ⟨none, some 59, [(.tmp 57), (.tmp 58)], ⟨.f (fIxS 1), rIxS 1⟩⟩,
  ⟨none, some 60, [(.tmp 59)], ⟨.load 1 false, rLoad1⟩⟩,
  ⟨none, some 61, [(.tmp 60), (.const (.int .i64 3))], ⟨.f (fBin .rem .no), rAny xl_law06_SlotShares (.f (fBin .rem .no))⟩⟩,
  ⟨none, some 62, [(.tmp 61), (.const (.int .i64 3))], ⟨.f (fBin .add .no), rAdd⟩⟩,
  ⟨none, some 63, [(.tmp 62), (.const (.int .i64 3))], ⟨.f (fBin .rem .no), rAny xl_law06_SlotShares (.f (fBin .rem .no))⟩⟩,
  ⟨none, some 11, [(.tmp 63)], ⟨.f fMove, rMove⟩⟩])
 (.seq none
 (.reg [⟨none, some 64, [(.tmp 10)], ⟨.f fMove, rMove⟩⟩,
  ⟨none, some 65, [(.tmp 64), (.const (.int .i64 360))], ⟨.f (fBin .gtr .no), rGtr⟩⟩])
 (.cond (.tmp 65)
 (.exit 2)
 .skip))))
 (.seq none
 (.reg [⟨none, some 66, [(.tmp 11)], ⟨.f fMove, rMove⟩⟩,
  ⟨none, some 67, [(.tmp 8), (.tmp 66)], ⟨.f (fIxA 3 3), rIxA 3 3⟩⟩,
  ⟨none, some 68, [(.tmp 67)], ⟨.lr 8 3 true, rAny xl_law06_SlotShares (.lr 8 3 true)⟩⟩,
  ⟨none, some 12, [], ⟨.la 12 [(.pointer none), (.pointer none), (.int .i64 0)], rAny xl_law06_SlotShares (.la 12 [(.pointer none), (.pointer none), (.int .i64 0)])⟩⟩,
  ⟨none, none, [(.tmp 12), (.tmp 68)], ⟨.ls 12 3, rAny xl_law06_SlotShares (.ls 12 3)⟩⟩])
 (.seq (some ([1, 5, 10, 11], [6, 8, 12]))
 (.block 4
 (.seq none
 (.reg [⟨none, some 70, [(.tmp 12)], ⟨.f (fFld 1), rFld 1⟩⟩,
  ⟨none, some 71, [(.tmp 70)], ⟨.lr 12 1 false, rLr1 12⟩⟩,
  ⟨none, some 72, [(.tmp 71), (.const (.pointer none))], ⟨.f (fBin .neq .ptr), rAny xl_law06_SlotShares (.f (fBin .neq .ptr))⟩⟩,
  ⟨none, some 69, [(.tmp 72)], ⟨.f fMove, rMove⟩⟩])
 (.cond (.tmp 69)
 (.seq none
 (.reg [⟨none, some 73, [(.tmp 12)], ⟨.f (fFld 1), rFld 1⟩⟩,
  ⟨none, some 74, [(.tmp 73)], ⟨.lr 12 1 false, rLr1 12⟩⟩,
  ⟨none, some 75, [(.tmp 6)], ⟨.lr 6 9 true, rAny xl_law06_SlotShares (.lr 6 9 true)⟩⟩,
  ⟨none, some 76, [(.tmp 74), (.tmp 75)], ⟨.call .write s_slot_Give_Step v_slot_Give_Step, rCall v_slot_Give_Step⟩⟩])
 (.cond (.tmp 76)
 (.reg [⟨none, some 77, [], ⟨.f (fBuild [(0, 1), (1, 1), (2, 1), (3, 1), (4, 1)] [(.int .i64 0), (.int .u64 0), (.int .i64 0), (.int .i64 0), (.bool false)] []), rAny xl_law06_SlotShares (.f (fBuild [(0, 1), (1, 1), (2, 1), (3, 1), (4, 1)] [(.int .i64 0), (.int .u64 0), (.int .i64 0), (.int .i64 0), (.bool false)] []))⟩⟩,
  ⟨none, some 78, [(.tmp 77)], ⟨.box 5, rAny xl_law06_SlotShares (.box 5)⟩⟩,
  ⟨none, some 79, [(.tmp 78), (.const (.int .i64 (-1)))], ⟨.f (fBuild [(0, 1), (1, 1), (2, 1)] [(.pointer none), (.pointer none), (.int .i64 0)] [0, 2]), rAny xl_law06_SlotShares (.f (fBuild [(0, 1), (1, 1), (2, 1)] [(.pointer none), (.pointer none), (.int .i64 0)] [0, 2]))⟩⟩,
  ⟨none, none, [(.tmp 12), (.tmp 79)], ⟨.ls 12 3, rAny xl_law06_SlotShares (.ls 12 3)⟩⟩])
 .skip))
 (.seq none
 (.reg [⟨none, some 81, [(.tmp 12)], ⟨.f (fFld 0), rFld 0⟩⟩,
  ⟨none, some 82, [(.tmp 81)], ⟨.lr 12 1 false, rLr1 12⟩⟩,
  ⟨none, some 83, [(.tmp 6)], ⟨.lr 6 9 true, rAny xl_law06_SlotShares (.lr 6 9 true)⟩⟩,
  ⟨none, some 84, [(.tmp 82), (.tmp 83)], ⟨.call .write s_slot_Take_Step v_slot_Take_Step, rCall v_slot_Take_Step⟩⟩,
  ⟨none, some 80, [(.tmp 84)], ⟨.f fMove, rMove⟩⟩])
 (.cond (.tmp 80)
 (.seq none
 (.reg [⟨none, some 86, [(.tmp 12)], ⟨.f (fFld 0), rFld 0⟩⟩,
  ⟨none, some 87, [(.tmp 86)], ⟨.lr 12 1 false, rLr1 12⟩⟩,
  ⟨none, some 88, [(.tmp 87)], ⟨.call .read s_slot_Take_Slot v_slot_Take_Slot, rCall v_slot_Take_Slot⟩⟩,
  ⟨none, some 85, [(.tmp 88)], ⟨.f fMove, rMove⟩⟩,
  ⟨none, some 89, [(.tmp 85)], ⟨.f (fExt 0), rAny xl_law06_SlotShares (.f (fExt 0))⟩⟩,
  ⟨none, some 90, [(.tmp 85)], ⟨.f (fExt 1), rAny xl_law06_SlotShares (.f (fExt 1))⟩⟩,
  ⟨none, some 13, [(.tmp 89)], ⟨.f fMove, rMove⟩⟩,
  ⟨none, some 14, [(.tmp 90)], ⟨.f fMove, rMove⟩⟩])
 (.seq none
 (.seq none
 (.reg [⟨none, some 91, [(.tmp 14)], ⟨.f fMove, rMove⟩⟩,
  ⟨none, some 92, [(.tmp 91)], ⟨.f (fUn .not), rNot⟩⟩])
 (.cond (.tmp 92)
 (.seq none
 (.reg [⟨none, some 93, [], ⟨.f (fBuild [(0, 1), (1, 1), (2, 1), (3, 1), (4, 1)] [(.int .i64 0), (.int .u64 0), (.int .i64 0), (.int .i64 0), (.bool false)] []), rAny xl_law06_SlotShares (.f (fBuild [(0, 1), (1, 1), (2, 1), (3, 1), (4, 1)] [(.int .i64 0), (.int .u64 0), (.int .i64 0), (.int .i64 0), (.bool false)] []))⟩⟩,
  ⟨none, some 94, [(.tmp 93)], ⟨.box 5, rAny xl_law06_SlotShares (.box 5)⟩⟩,
  ⟨none, some 95, [(.tmp 12)], ⟨.f (fFld 0), rFld 0⟩⟩,
  ⟨none, none, [(.tmp 95), (.tmp 94)], ⟨.ls 12 1, rLs1 12⟩⟩])
 (.exit 4))
 .skip))
 (.seq (some ([1, 5, 10, 11, 13], [6, 8, 12]))
 (.seq none
 (.reg [⟨none, some 15, [(.const (.int .i64 0))], ⟨.f fMove, rMove⟩⟩])
 (.block 5
 (.loop ([1, 5, 10, 11, 13, 15], [6, 8, 12])
 (.seq none
 (.seq none
 (.reg [⟨none, some 96, [(.tmp 15)], ⟨.f fMove, rMove⟩⟩,
  ⟨none, some 97, [(.tmp 96), (.const (.int .i64 3))], ⟨.f (fBin .lss .no), rLss⟩⟩])
 (.cond (.tmp 97)
 .skip
 (.exit 5)))
 (.seq none
 (.block 6
 (.seq (some ([1, 5, 10, 11, 13, 15, 112], [6, 8, 12]))
 (.reg [⟨none, some 100, [(.tmp 15)], ⟨.f fMove, rMove⟩⟩,
  ⟨none, some 101, [(.tmp 8), (.tmp 100)], ⟨.f (fIxA 3 3), rIxA 3 3⟩⟩,
  ⟨none, some 102, [(.tmp 101)], ⟨.f (fFld 2), rFld 2⟩⟩,
  ⟨none, some 103, [(.tmp 102)], ⟨.lr 8 1 false, rLr1 8⟩⟩,
  ⟨none, some 104, [(.tmp 13)], ⟨.f fMove, rMove⟩⟩,
  ⟨none, some 105, [(.tmp 103), (.tmp 104)], ⟨.f (fBin .eql .no), rEql⟩⟩,
  ⟨none, some 106, [(.tmp 105)], ⟨.f fMove, rMove⟩⟩,
  ⟨(some (7, 6, true, some 106)), some 107, [(.tmp 15)], ⟨.f fMove, rMove⟩⟩,
  ⟨(some (8, 6, true, some 106)), some 108, [(.tmp 8), (.tmp 107)], ⟨.f (fIxA 3 3), rIxA 3 3⟩⟩,
  ⟨(some (9, 6, true, some 106)), some 109, [(.tmp 108)], ⟨.f (fFld 1), rFld 1⟩⟩,
  ⟨(some (10, 6, true, some 106)), some 110, [(.tmp 109)], ⟨.lr 8 1 false, rLr1 8⟩⟩,
  ⟨(some (11, 6, true, some 106)), some 111, [(.tmp 110), (.const (.pointer none))], ⟨.f (fBin .eql .ptr), rAny xl_law06_SlotShares (.f (fBin .eql .ptr))⟩⟩,
  ⟨none, some 112, [(.tmp 106), (.tmp 111), (.const (.bool false))], ⟨.f fPick, rPick⟩⟩])
 (.cond (.tmp 112)
 (.seq none
 (.reg [⟨none, some 4, [(.const (.bool false))], ⟨.f fMove, rMove⟩⟩])
 .ret)
 .skip)))
 (.reg [⟨none, some 98, [(.tmp 15)], ⟨.f fMove, rMove⟩⟩,
  ⟨none, some 99, [(.tmp 98), (.const (.int .i64 1))], ⟨.f (fBin .add .no), rAdd⟩⟩,
  ⟨none, some 15, [(.tmp 99)], ⟨.f fMove, rMove⟩⟩]))))))
 (.reg [⟨none, some 113, [(.tmp 13)], ⟨.f fMove, rMove⟩⟩,
  ⟨none, some 114, [(.tmp 113)], ⟨.call .write s_slot_NewGive v_slot_NewGive, rCall v_slot_NewGive⟩⟩,
  ⟨none, some 115, [(.tmp 13)], ⟨.f fMove, rMove⟩⟩,
  ⟨none, some 116, [(.tmp 114), (.tmp 115)], ⟨.f (fBuild [(0, 1), (1, 1), (2, 1)] [(.pointer none), (.pointer none), (.int .i64 0)] [1, 2]), rAny xl_law06_SlotShares (.f (fBuild [(0, 1), (1, 1), (2, 1)] [(.pointer none), (.pointer none), (.int .i64 0)] [1, 2]))⟩⟩,
  ⟨none, none, [(.tmp 12), (.tmp 116)], ⟨.ls 12 3, rAny xl_law06_SlotShares (.ls 12 3)⟩⟩]))))
 .skip)))))
 (.reg [⟨none, some 117, [(.tmp 11)], ⟨.f fMove, rMove⟩⟩,
  ⟨none, some 118, [(.tmp 12)], ⟨.lr 12 3 true, rAny xl_law06_SlotShares (.lr 12 3 true)⟩⟩,
  ⟨none, some 119, [(.tmp 8), (.tmp 117)], ⟨.f (fIxA 3 3), rIxA 3 3⟩⟩,
  ⟨none, none, [(.tmp 119), (.tmp 118)], ⟨.ls 8 3, rAny xl_law06_SlotShares (.ls 8 3)⟩⟩]))))))
 (.reg [⟨none, some 45, [(.tmp 10)], ⟨.f fMove, rMove⟩⟩,
  ⟨none, some 46, [(.tmp 45), (.const (.int .i64 1))], ⟨.f (fBin .add .no), rAdd⟩⟩,
  ⟨none, some 10, [(.tmp 46)], ⟨.f fMove, rMove⟩⟩]))))))
 (.seq none
 (.reg [⟨none, some 120, [(.tmp 6)], ⟨.lr 6 9 true, rAny xl_law06_SlotShares (.lr 6 9 true)⟩⟩,
  ⟨none, some 121, [(.tmp 5)], ⟨.f fMove, rMove⟩⟩,
  ⟨none, some 122, [(.tmp 8)], ⟨.lr 8 9 true, rAny xl_law06_SlotShares (.lr 8 9 true)⟩⟩,
  ⟨none, some 123, [(.tmp 120), (.tmp 121), (.tmp 122)], ⟨.call .write s_law06_free v_law06_free, rCall v_law06_free⟩⟩,
  ⟨none, some 4, [(.tmp 123)], ⟨.f fMove, rMove⟩⟩])
 .ret))))))))
noncomputable def v_law06_SlotShares : EvF := evFn 2 xc_law06_SlotShares [.t 4]
theorem xt_law06_SlotShares : toC cx_law06_SlotShares (bodyOf Try.f11) = some (xc_law06_SlotShares.map XN.sm) := by kernel_rfl
theorem xr_law06_SlotShares : toR cx_law06_SlotShares Try.f11.results.toList = some [.t 4] := by kernel_rfl
theorem xo_law06_SlotShares : xc_law06_SlotShares.ok xl_law06_SlotShares := ⟨⟨rMove_ok, trivial⟩, ⟨⟨rMove_ok, rAny_ok (trivial), rAdd_ok, rMove_ok, trivial⟩, ⟨⟨rMove_ok, rCall_ok ve_law04_Arena, rMove_ok, rAny_ok (eqv_ext _), rAny_ok (eqv_ext _), rAny_ok (trivial), rAny_ok (trivial), rMove_ok, trivial⟩, ⟨⟨⟨rCall_ok ve_law06_awake, rNot_ok, rMove_ok, rMove_ok, rNot_ok, rPick_ok, trivial⟩, ⟨⟨⟨rMove_ok, trivial⟩, trivial⟩, trivial⟩⟩, ⟨⟨rAny_ok (eqv_build _ rfl _), rAny_ok (trivial), rAny_ok (trivial), trivial⟩, ⟨⟨⟨rMove_ok, trivial⟩, ⟨⟨⟨rMove_ok, rLss_ok, trivial⟩, ⟨trivial, trivial⟩⟩, ⟨⟨rMove_ok, rAny_ok (eqv_build _ rfl _), rAny_ok (trivial), rAny_ok (eqv_build _ rfl _), rIxA_ok _ _, rAny_ok (trivial), trivial⟩, ⟨rMove_ok, rAdd_ok, rMove_ok, trivial⟩⟩⟩⟩, ⟨⟨⟨rMove_ok, trivial⟩, ⟨⟨⟨rMove_ok, rMove_ok, rAny_ok (eqv_len), rAdd_ok, rLss_ok, trivial⟩, ⟨trivial, trivial⟩⟩, ⟨⟨⟨rMove_ok, rAny_ok (eqv_bin _ _), rMove_ok, trivial⟩, ⟨⟨⟨rMove_ok, rMove_ok, rAny_ok (eqv_len), rLss_ok, rMove_ok, rMove_ok, rLss_ok, rPick_ok, trivial⟩, ⟨⟨rMove_ok, rMove_ok, rIxS_ok _, rLoad1_ok, rAny_ok (eqv_bin _ _), rAdd_ok, rAny_ok (eqv_bin _ _), rMove_ok, trivial⟩, ⟨⟨rMove_ok, rGtr_ok, trivial⟩, ⟨trivial, trivial⟩⟩⟩⟩, ⟨⟨rMove_ok, rIxA_ok _ _, rAny_ok (trivial), rAny_ok (trivial), rAny_ok (trivial), trivial⟩, ⟨⟨⟨rFld_ok _, rLr1_ok _, rAny_ok (eqv_bin _ _), rMove_ok, trivial⟩, ⟨⟨⟨rFld_ok _, rLr1_ok _, rAny_ok (trivial), rCall_ok ve_slot_Give_Step, trivial⟩, ⟨⟨rAny_ok (eqv_build _ rfl _), rAny_ok (trivial), rAny_ok (eqv_build _ rfl _), rAny_ok (trivial), trivial⟩, trivial⟩⟩, ⟨⟨rFld_ok _, rLr1_ok _, rAny_ok (trivial), rCall_ok ve_slot_Take_Step, rMove_ok, trivial⟩, ⟨⟨⟨rFld_ok _, rLr1_ok _, rCall_ok ve_slot_Take_Slot, rMove_ok, rAny_ok (eqv_ext _), rAny_ok (eqv_ext _), rMove_ok, rMove_ok, trivial⟩, ⟨⟨⟨rMove_ok, rNot_ok, trivial⟩, ⟨⟨⟨rAny_ok (eqv_build _ rfl _), rAny_ok (trivial), rFld_ok _, rLs1_ok _, trivial⟩, trivial⟩, trivial⟩⟩, ⟨⟨⟨rMove_ok, trivial⟩, ⟨⟨⟨rMove_ok, rLss_ok, trivial⟩, ⟨trivial, trivial⟩⟩, ⟨⟨⟨rMove_ok, rIxA_ok _ _, rFld_ok _, rLr1_ok _, rMove_ok, rEql_ok, rMove_ok, rMove_ok, rIxA_ok _ _, rFld_ok _, rLr1_ok _, rAny_ok (eqv_bin _ _), rPick_ok, trivial⟩, ⟨⟨⟨rMove_ok, trivial⟩, trivial⟩, trivial⟩⟩, ⟨rMove_ok, rAdd_ok, rMove_ok, trivial⟩⟩⟩⟩, ⟨rMove_ok, rCall_ok ve_slot_NewGive, rMove_ok, rAny_ok (eqv_build _ rfl _), rAny_ok (trivial), trivial⟩⟩⟩⟩, trivial⟩⟩⟩⟩, ⟨rMove_ok, rAny_ok (trivial), rIxA_ok _ _, rAny_ok (trivial), trivial⟩⟩⟩⟩⟩, ⟨rMove_ok, rAdd_ok, rMove_ok, trivial⟩⟩⟩⟩, ⟨⟨rAny_ok (trivial), rMove_ok, rAny_ok (trivial), rCall_ok ve_law06_free, rMove_ok, trivial⟩, trivial⟩⟩⟩⟩⟩⟩⟩⟩
theorem ve_law06_SlotShares : EvOk s_law06_SlotShares v_law06_SlotShares := EvOk.of (evFn_sound (C := cx_law06_SlotShares) xt_law06_SlotShares xr_law06_SlotShares xo_law06_SlotShares) q_law06_SlotShares

attribute [irreducible] w_law06_SlotShares_j3b w_law06_SlotShares_j3 w_law06_SlotShares_j4b w_law06_SlotShares_j4 w_law06_SlotShares_j6b w_law06_SlotShares_j6 w_law06_SlotShares_j7b w_law06_SlotShares_j7 w_law06_SlotShares_j8b w_law06_SlotShares_j8 w_law06_SlotShares_l27b w_law06_SlotShares_l27 w_law06_SlotShares_j5b w_law06_SlotShares_j5 w_law06_SlotShares_j9b w_law06_SlotShares_j9 w_law06_SlotShares_l12b w_law06_SlotShares_l12 w_law06_SlotShares_j2b w_law06_SlotShares_j2 w_law06_SlotShares_l8b w_law06_SlotShares_l8 w_law06_SlotShares_j1b w_law06_SlotShares_j1 w_law06_SlotShares s_law06_SlotShares

/-! ### /law06.SlotAgain -/
def w_law06_SlotAgain_j4b (K : Value → Mem → Prop) (v8 v11 v18 : Value) (σ : Mem) : Prop :=
xF fMove [v8] fun v107 =>
s_slot_Take_Slot [v107] (fun v108 σ =>
xF fMove [v108] fun v106 =>
xF (fExt 0) [v106] fun v109 =>
xF (fExt 1) [v106] fun v110 =>
xF fMove [v109] fun v20 =>
xF fMove [v110] fun v21 =>
xF fMove [v18] fun v111 =>
xF fMove [v111] fun v112 =>
xIf v112
 (xF fMove [v21] fun v113 =>
xF fPick [(.bool true), v113, (.bool false)] fun v114 =>
xF fMove [v114] fun v115 =>
xIf v115
 (xF fMove [v20] fun v116 =>
xF fMove [v11] fun v117 =>
xF (fBin .eql .no) [v116, v117] fun v118 =>
xF fPick [(.bool true), v118, (.bool false)] fun v119 =>
xF fMove [v119] fun v4 =>
K v4 σ)
 (xF fPick [(.bool false), undef, (.bool false)] fun v119 =>
xF fMove [v119] fun v4 =>
K v4 σ))
 (xF fPick [(.bool false), undef, (.bool false)] fun v114 =>
xF fMove [v114] fun v115 =>
xIf v115
 (xF fMove [v20] fun v116 =>
xF fMove [v11] fun v117 =>
xF (fBin .eql .no) [v116, v117] fun v118 =>
xF fPick [(.bool true), v118, (.bool false)] fun v119 =>
xF fMove [v119] fun v4 =>
K v4 σ)
 (xF fPick [(.bool false), undef, (.bool false)] fun v119 =>
xF fMove [v119] fun v4 =>
K v4 σ))) σ

def w_law06_SlotAgain_j4 (K : Value → Mem → Prop) (ts : List Value) (ls : List (List Value)) (σ : Mem) : Prop := w_law06_SlotAgain_j4b K (ts.getD 0 poison) (ts.getD 1 poison) (ts.getD 2 poison) σ

def w_law06_SlotAgain_j5b (K : Value → Mem → Prop) (J4 : List Value → List (List Value) → Mem → Prop) (R1 : List Value → List (List Value) → Mem → Prop) (v8 v11 v19 : Value) (c6 : List Value) (σ : Mem) : Prop :=
xF fMove [v8] fun v103 =>
xO (gLoad 9 true [(locP 6)] c6) fun v104 =>
s_slot_Take_Step [v103, v104] (fun v105 σ =>
xF fMove [v105] fun v18 =>
xF fMove [v19] fun v101 =>
xF (fBin .add .no) [v101, (.int .i64 1)] fun v102 =>
xF fMove [v102] fun v19 =>
R1 [v8, v11, v18, v19] [c6] σ) σ

def w_law06_SlotAgain_j5 (K : Value → Mem → Prop) (J4 : List Value → List (List Value) → Mem → Prop) (R1 : List Value → List (List Value) → Mem → Prop) (ts : List Value) (ls : List (List Value)) (σ : Mem) : Prop := w_law06_SlotAgain_j5b K J4 R1 (ts.getD 0 poison) (ts.getD 1 poison) (ts.getD 2 poison) (ls.getD 0 []) σ

def w_law06_SlotAgain_l22b (K : Value → Mem → Prop) (J4 : List Value → List (List Value) → Mem → Prop) (R1 : List Value → List (List Value) → Mem → Prop) (v8 v11 v18 v19 : Value) (c6 : List Value) (σ : Mem) : Prop :=
xJoin (w_law06_SlotAgain_j5 K J4 R1) fun J5 =>
xF fMove [v19] fun v95 =>
xF (fBin .lss .no) [v95, (.int .i64 10)] fun v96 =>
xF fMove [v96] fun v97 =>
xIf v97
 (xF fMove [v18] fun v98 =>
xF (fUn .not) [v98] fun v99 =>
xF fPick [(.bool true), v99, (.bool false)] fun v100 =>
xIf v100
 (J5 [v8, v11, v19] [c6] σ)
 (J4 [v8, v11, v18] [] σ))
 (xF fPick [(.bool false), undef, (.bool false)] fun v100 =>
xIf v100
 (J5 [v8, v11, v19] [c6] σ)
 (J4 [v8, v11, v18] [] σ))

def w_law06_SlotAgain_l22 (K : Value → Mem → Prop) (J4 : List Value → List (List Value) → Mem → Prop) (R1 : List Value → List (List Value) → Mem → Prop) (ts : List Value) (ls : List (List Value)) (σ : Mem) : Prop := w_law06_SlotAgain_l22b K J4 R1 (ts.getD 0 poison) (ts.getD 1 poison) (ts.getD 2 poison) (ts.getD 3 poison) (ls.getD 0 []) σ

def w_law06_SlotAgain_j3b (K : Value → Mem → Prop) (v8 v11 v90 : Value) (c6 : List Value) (σ : Mem) : Prop :=
xIf v90
 (xF fMove [(.bool false)] fun v4 =>
K v4 σ)
 (xF fMove [v8] fun v91 =>
xO (gLoad 9 true [(locP 6)] c6) fun v92 =>
s_slot_Take_Step [v91, v92] (fun v93 σ =>
xF fMove [v93] fun v18 =>
xF fMove [v18] fun v94 =>
xIf v94
 (xF fMove [(.bool false)] fun v4 =>
K v4 σ)
 (xJoin (w_law06_SlotAgain_j4 K) fun J4 =>
xF fMove [(.int .i64 0)] fun v19 =>
xLoop (w_law06_SlotAgain_l22 K J4) [v8, v11, v18, v19] [c6] σ)) σ)

def w_law06_SlotAgain_j3 (K : Value → Mem → Prop) (ts : List Value) (ls : List (List Value)) (σ : Mem) : Prop := w_law06_SlotAgain_j3b K (ts.getD 0 poison) (ts.getD 1 poison) (ts.getD 2 poison) (ls.getD 0 []) σ

def w_law06_SlotAgain_j2b (K : Value → Mem → Prop) (v8 v9 v10 v11 v12 v14 v15 : Value) (c6 : List Value) (σ : Mem) : Prop :=
xO (gLoad 9 true [(locP 6)] c6) fun v71 =>
xF fMove [v11] fun v72 =>
s_law06_give [v71, v72] (fun v73 σ =>
xJoin (w_law06_SlotAgain_j3 K) fun J3 =>
xF fMove [v9] fun v74 =>
xF fMove [v74] fun v75 =>
xIf v75
 (xF fPick [(.bool true), (.bool true), undef] fun v77 =>
xF fMove [v77] fun v78 =>
xIf v78
 (xF fPick [(.bool true), (.bool true), undef] fun v81 =>
xF fMove [v81] fun v82 =>
xIf v82
 (xF fPick [(.bool true), (.bool true), undef] fun v85 =>
xF fMove [v85] fun v86 =>
xIf v86
 (xF fPick [(.bool true), (.bool true), undef] fun v90 =>
J3 [v8, v11, v90] [c6] σ)
 (xF fMove [v11] fun v87 =>
xF fMove [v14] fun v88 =>
xF (fBin .eql .no) [v87, v88] fun v89 =>
xF fPick [(.bool false), (.bool true), v89] fun v90 =>
J3 [v8, v11, v90] [c6] σ))
 (xF fMove [v15] fun v83 =>
xF (fUn .not) [v83] fun v84 =>
xF fPick [(.bool false), (.bool true), v84] fun v85 =>
xF fMove [v85] fun v86 =>
xIf v86
 (xF fPick [(.bool true), (.bool true), undef] fun v90 =>
J3 [v8, v11, v90] [c6] σ)
 (xF fMove [v11] fun v87 =>
xF fMove [v14] fun v88 =>
xF (fBin .eql .no) [v87, v88] fun v89 =>
xF fPick [(.bool false), (.bool true), v89] fun v90 =>
J3 [v8, v11, v90] [c6] σ)))
 (xF fMove [v12] fun v79 =>
xF (fUn .not) [v79] fun v80 =>
xF fPick [(.bool false), (.bool true), v80] fun v81 =>
xF fMove [v81] fun v82 =>
xIf v82
 (xF fPick [(.bool true), (.bool true), undef] fun v85 =>
xF fMove [v85] fun v86 =>
xIf v86
 (xF fPick [(.bool true), (.bool true), undef] fun v90 =>
J3 [v8, v11, v90] [c6] σ)
 (xF fMove [v11] fun v87 =>
xF fMove [v14] fun v88 =>
xF (fBin .eql .no) [v87, v88] fun v89 =>
xF fPick [(.bool false), (.bool true), v89] fun v90 =>
J3 [v8, v11, v90] [c6] σ))
 (xF fMove [v15] fun v83 =>
xF (fUn .not) [v83] fun v84 =>
xF fPick [(.bool false), (.bool true), v84] fun v85 =>
xF fMove [v85] fun v86 =>
xIf v86
 (xF fPick [(.bool true), (.bool true), undef] fun v90 =>
J3 [v8, v11, v90] [c6] σ)
 (xF fMove [v11] fun v87 =>
xF fMove [v14] fun v88 =>
xF (fBin .eql .no) [v87, v88] fun v89 =>
xF fPick [(.bool false), (.bool true), v89] fun v90 =>
J3 [v8, v11, v90] [c6] σ))))
 (xF fMove [v10] fun v76 =>
xF fPick [(.bool false), (.bool true), v76] fun v77 =>
xF fMove [v77] fun v78 =>
xIf v78
 (xF fPick [(.bool true), (.bool true), undef] fun v81 =>
xF fMove [v81] fun v82 =>
xIf v82
 (xF fPick [(.bool true), (.bool true), undef] fun v85 =>
xF fMove [v85] fun v86 =>
xIf v86
 (xF fPick [(.bool true), (.bool true), undef] fun v90 =>
J3 [v8, v11, v90] [c6] σ)
 (xF fMove [v11] fun v87 =>
xF fMove [v14] fun v88 =>
xF (fBin .eql .no) [v87, v88] fun v89 =>
xF fPick [(.bool false), (.bool true), v89] fun v90 =>
J3 [v8, v11, v90] [c6] σ))
 (xF fMove [v15] fun v83 =>
xF (fUn .not) [v83] fun v84 =>
xF fPick [(.bool false), (.bool true), v84] fun v85 =>
xF fMove [v85] fun v86 =>
xIf v86
 (xF fPick [(.bool true), (.bool true), undef] fun v90 =>
J3 [v8, v11, v90] [c6] σ)
 (xF fMove [v11] fun v87 =>
xF fMove [v14] fun v88 =>
xF (fBin .eql .no) [v87, v88] fun v89 =>
xF fPick [(.bool false), (.bool true), v89] fun v90 =>
J3 [v8, v11, v90] [c6] σ)))
 (xF fMove [v12] fun v79 =>
xF (fUn .not) [v79] fun v80 =>
xF fPick [(.bool false), (.bool true), v80] fun v81 =>
xF fMove [v81] fun v82 =>
xIf v82
 (xF fPick [(.bool true), (.bool true), undef] fun v85 =>
xF fMove [v85] fun v86 =>
xIf v86
 (xF fPick [(.bool true), (.bool true), undef] fun v90 =>
J3 [v8, v11, v90] [c6] σ)
 (xF fMove [v11] fun v87 =>
xF fMove [v14] fun v88 =>
xF (fBin .eql .no) [v87, v88] fun v89 =>
xF fPick [(.bool false), (.bool true), v89] fun v90 =>
J3 [v8, v11, v90] [c6] σ))
 (xF fMove [v15] fun v83 =>
xF (fUn .not) [v83] fun v84 =>
xF fPick [(.bool false), (.bool true), v84] fun v85 =>
xF fMove [v85] fun v86 =>
xIf v86
 (xF fPick [(.bool true), (.bool true), undef] fun v90 =>
J3 [v8, v11, v90] [c6] σ)
 (xF fMove [v11] fun v87 =>
xF fMove [v14] fun v88 =>
xF (fBin .eql .no) [v87, v88] fun v89 =>
xF fPick [(.bool false), (.bool true), v89] fun v90 =>
J3 [v8, v11, v90] [c6] σ))))) σ

def w_law06_SlotAgain_j2 (K : Value → Mem → Prop) (ts : List Value) (ls : List (List Value)) (σ : Mem) : Prop := w_law06_SlotAgain_j2b K (ts.getD 0 poison) (ts.getD 1 poison) (ts.getD 2 poison) (ts.getD 3 poison) (ts.getD 4 poison) (ts.getD 5 poison) (ts.getD 6 poison) (ls.getD 0 []) σ

def w_law06_SlotAgain_l11b (K : Value → Mem → Prop) (J2 : List Value → List (List Value) → Mem → Prop) (R1 : List Value → List (List Value) → Mem → Prop) (v1 v8 v9 v10 v11 v12 v14 v15 v17 : Value) (c6 : List Value) (σ : Mem) : Prop :=
xF fMove [v17] fun v56 =>
xF fMove [v1] fun v57 =>
xF (fBin .and .no) [v57, (.int .i64 3)] fun v58 =>
xF (fBin .lss .no) [v56, v58] fun v59 =>
xIf v59
 (xO (gLoad 9 true [(locP 6)] c6) fun v62 =>
xF fMove [v11] fun v63 =>
s_law06_give [v62, v63] (fun v64 σ =>
xO (gLoad 9 true [(locP 6)] c6) fun v66 =>
s_law06_take [v66] (fun v67 σ =>
xF fMove [v67] fun v65 =>
xF (fExt 0) [v65] fun v68 =>
xF (fExt 1) [v65] fun v69 =>
xF (fExt 2) [v65] fun v70 =>
xF fMove [v68] fun v11 =>
xF fMove [v69] fun v12 =>
xF fMove [v17] fun v60 =>
xF (fBin .add .no) [v60, (.int .i64 1)] fun v61 =>
xF fMove [v61] fun v17 =>
R1 [v1, v8, v9, v10, v11, v12, v14, v15, v17] [c6] σ) σ) σ)
 (J2 [v8, v9, v10, v11, v12, v14, v15] [c6] σ)

def w_law06_SlotAgain_l11 (K : Value → Mem → Prop) (J2 : List Value → List (List Value) → Mem → Prop) (R1 : List Value → List (List Value) → Mem → Prop) (ts : List Value) (ls : List (List Value)) (σ : Mem) : Prop := w_law06_SlotAgain_l11b K J2 R1 (ts.getD 0 poison) (ts.getD 1 poison) (ts.getD 2 poison) (ts.getD 3 poison) (ts.getD 4 poison) (ts.getD 5 poison) (ts.getD 6 poison) (ts.getD 7 poison) (ts.getD 8 poison) (ls.getD 0 []) σ

def w_law06_SlotAgain_j1b (K : Value → Mem → Prop) (v1 v35 : Value) (c6 : List Value) (σ : Mem) : Prop :=
xIf v35
 (xF fMove [(.bool false)] fun v4 =>
K v4 σ)
 (xF (fBuild [(0, 1), (1, 1), (2, 1), (3, 1), (4, 1)] [(.int .i64 0), (.int .u64 0), (.int .i64 0), (.int .i64 0), (.bool false)] []) [] fun v36 =>
hBox 5 [v36] (fun v37 σ =>
xF fMove [v37] fun v8 =>
xF fMove [v8] fun v38 =>
xO (gLoad 9 true [(locP 6)] c6) fun v39 =>
s_slot_Take_Step [v38, v39] (fun v40 σ =>
xF fMove [v8] fun v41 =>
xO (gLoad 9 true [(locP 6)] c6) fun v42 =>
s_slot_Take_Step [v41, v42] (fun v43 σ =>
xF fMove [v40] fun v9 =>
xF fMove [v43] fun v10 =>
xO (gLoad 9 true [(locP 6)] c6) fun v45 =>
s_law06_take [v45] (fun v46 σ =>
xF fMove [v46] fun v44 =>
xF (fExt 0) [v44] fun v47 =>
xF (fExt 1) [v44] fun v48 =>
xF (fExt 2) [v44] fun v49 =>
xF fMove [v47] fun v11 =>
xF fMove [v48] fun v12 =>
xF fMove [v49] fun v13 =>
xO (gLoad 9 true [(locP 6)] c6) fun v51 =>
s_law06_take [v51] (fun v52 σ =>
xF fMove [v52] fun v50 =>
xF (fExt 0) [v50] fun v53 =>
xF (fExt 1) [v50] fun v54 =>
xF (fExt 2) [v50] fun v55 =>
xF fMove [v53] fun v14 =>
xF fMove [v54] fun v15 =>
xF fMove [v55] fun v16 =>
xJoin (w_law06_SlotAgain_j2 K) fun J2 =>
xF fMove [(.int .i64 0)] fun v17 =>
xLoop (w_law06_SlotAgain_l11 K J2) [v1, v8, v9, v10, v11, v12, v14, v15, v17] [c6] σ) σ) σ) σ) σ) σ)

def w_law06_SlotAgain_j1 (K : Value → Mem → Prop) (ts : List Value) (ls : List (List Value)) (σ : Mem) : Prop := w_law06_SlotAgain_j1b K (ts.getD 0 poison) (ts.getD 1 poison) (ls.getD 0 []) σ

def w_law06_SlotAgain (a0 a1 : Value) (K : Value → Mem → Prop) (σ : Mem) : Prop :=
xF fMove [(.bool false)] fun v4 =>
xF fMove [a0] fun v22 =>
xF (fBin .and .no) [v22, (.int .i64 7)] fun v23 =>
xF (fBin .add .no) [(.int .i64 2), v23] fun v24 =>
xF fMove [v24] fun v5 =>
xF fMove [v5] fun v26 =>
s_law04_Arena [(.int .i64 2), v26, (.int .i64 1), (.int .i64 20)] (fun v27 σ =>
xF fMove [v27] fun v25 =>
xF (fExt 0) [v25] fun v28 =>
xF (fExt 1) [v25] fun v29 =>
xC (gStore 9 [(locP 6), v28] [(.int .i64 0), (.int .i64 0), (.int .i64 0), (.int .i64 0), (.int .i64 0), (.int .i64 0), (.int .i64 0), (.pointer none), (.int .i64 0)]) fun c6 =>
xF fMove [v29] fun v7 =>
xJoin (w_law06_SlotAgain_j1 K) fun J1 =>
s_law06_awake [] (fun v30 σ =>
xF (fUn .not) [v30] fun v31 =>
xF fMove [v31] fun v32 =>
xIf v32
 (xF fPick [(.bool true), (.bool true), undef] fun v35 =>
J1 [a1, v35] [c6] σ)
 (xF fMove [v7] fun v33 =>
xF (fUn .not) [v33] fun v34 =>
xF fPick [(.bool false), (.bool true), v34] fun v35 =>
J1 [a1, v35] [c6] σ)) σ) σ

def s_law06_SlotAgain : Spec := fun args K σ => match args with
  | [a0, a1] => w_law06_SlotAgain a0 a1 K σ
  | _ => False

noncomputable def cx_law06_SlotAgain : Cx := { P := Try.prog, T := [(36, .write, s_law04_Arena), (37, .none, s_law06_awake), (39, .write, s_slot_Take_Step), (38, .write, s_law06_take), (53, .write, s_law06_give), (40, .read, s_slot_Take_Slot)], loc := [(6, 6)], eqt := [], n := 120, keep := [(11, [1, 8, 9, 10, 11, 12, 14, 15, 17], [6]), (22, [8, 11, 18, 19], [6]), (1000005, [1, 35], [6]), (1000015, [8, 9, 10, 11, 12, 14, 15], [6]), (1000017, [8, 11, 90], [6]), (1000024, [8, 11, 19], [6]), (1000025, [8, 11, 18], [])] }
theorem q_law06_SlotAgain : FnS cx_law06_SlotAgain Try.f12 (bodyOf Try.f12) 2 = s_law06_SlotAgain := by
  funext args K σ
  rcases args with _ | ⟨a0, _ | ⟨a1, _ | ⟨b, r⟩⟩⟩ <;> kernel_rfl
theorem e_law06_SlotAgain : Entry Try.prog 12 .write s_law06_SlotAgain :=
  entry (C := cx_law06_SlotAgain) (TOk.cons e_law04_Arena (TOk.cons e_law06_awake (TOk.cons e_slot_Take_Step (TOk.cons e_law06_take (TOk.cons e_law06_give (TOk.cons e_slot_Take_Slot TOk.nil)))))) mixedOk Try.func12 (by kernel_rfl) (by kernel_rfl) (by kernel_rfl) q_law06_SlotAgain

def xl_law06_SlotAgain : List (Nat × Nat) := [(6, 6)]
noncomputable def xc_law06_SlotAgain : XC XN :=
(.seq none
 (.reg [⟨none, some 4, [(.const (.bool false))], ⟨.f fMove, rMove⟩⟩])
 (.seq none
 (.reg [⟨none, some 22, [(.tmp 0)], ⟨.f fMove, rMove⟩⟩,
  ⟨none, some 23, [(.tmp 22), (.const (.int .i64 7))], ⟨.band .no, rAny xl_law06_SlotAgain (.band .no)⟩⟩,
  ⟨none, some 24, [(.const (.int .i64 2)), (.tmp 23)], ⟨.f (fBin .add .no), rAdd⟩⟩,
  ⟨none, some 5, [(.tmp 24)], ⟨.f fMove, rMove⟩⟩])
 (.seq none
 (.reg [⟨none, some 26, [(.tmp 5)], ⟨.f fMove, rMove⟩⟩,
  ⟨none, some 27, [(.const (.int .i64 2)), (.tmp 26), (.const (.int .i64 1)), (.const (.int .i64 20))], ⟨.call .write s_law04_Arena v_law04_Arena, rCall v_law04_Arena⟩⟩,
  ⟨none, some 25, [(.tmp 27)], ⟨.f fMove, rMove⟩⟩,
  ⟨none, some 28, [(.tmp 25)], ⟨.f (fExt 0), rAny xl_law06_SlotAgain (.f (fExt 0))⟩⟩,
  ⟨none, some 29, [(.tmp 25)], ⟨.f (fExt 1), rAny xl_law06_SlotAgain (.f (fExt 1))⟩⟩,
  ⟨none, some 6, [], ⟨.la 6 [(.int .i64 0), (.int .i64 0), (.int .i64 0), (.int .i64 0), (.int .i64 0), (.int .i64 0), (.int .i64 0), (.pointer none), (.int .i64 0)], rAny xl_law06_SlotAgain (.la 6 [(.int .i64 0), (.int .i64 0), (.int .i64 0), (.int .i64 0), (.int .i64 0), (.int .i64 0), (.int .i64 0), (.pointer none), (.int .i64 0)])⟩⟩,
  ⟨none, none, [(.tmp 6), (.tmp 28)], ⟨.ls 6 9, rAny xl_law06_SlotAgain (.ls 6 9)⟩⟩,
  ⟨none, some 7, [(.tmp 29)], ⟨.f fMove, rMove⟩⟩])
 (.seq none
 (.seq (some ([1, 35], [6]))
 (.reg [⟨none, some 30, [], ⟨.call .none s_law06_awake v_law06_awake, rCall v_law06_awake⟩⟩,
  ⟨none, some 31, [(.tmp 30)], ⟨.f (fUn .not), rNot⟩⟩,
  ⟨none, some 32, [(.tmp 31)], ⟨.f fMove, rMove⟩⟩,
  ⟨(some (3, 2, false, some 32)), some 33, [(.tmp 7)], ⟨.f fMove, rMove⟩⟩,
  ⟨(some (4, 2, false, some 32)), some 34, [(.tmp 33)], ⟨.f (fUn .not), rNot⟩⟩,
  ⟨none, some 35, [(.tmp 32), (.const (.bool true)), (.tmp 34)], ⟨.f fPick, rPick⟩⟩])
 (.cond (.tmp 35)
 (.seq none
 (.reg [⟨none, some 4, [(.const (.bool false))], ⟨.f fMove, rMove⟩⟩])
 .ret)
 .skip))
 (.seq none
 (.reg [⟨none, some 36, [], ⟨.f (fBuild [(0, 1), (1, 1), (2, 1), (3, 1), (4, 1)] [(.int .i64 0), (.int .u64 0), (.int .i64 0), (.int .i64 0), (.bool false)] []), rAny xl_law06_SlotAgain (.f (fBuild [(0, 1), (1, 1), (2, 1), (3, 1), (4, 1)] [(.int .i64 0), (.int .u64 0), (.int .i64 0), (.int .i64 0), (.bool false)] []))⟩⟩,
  ⟨none, some 37, [(.tmp 36)], ⟨.box 5, rAny xl_law06_SlotAgain (.box 5)⟩⟩,
  ⟨none, some 8, [(.tmp 37)], ⟨.f fMove, rMove⟩⟩])
 (.seq none
 (.reg [⟨none, some 38, [(.tmp 8)], ⟨.f fMove, rMove⟩⟩,
  ⟨none, some 39, [(.tmp 6)], ⟨.lr 6 9 true, rAny xl_law06_SlotAgain (.lr 6 9 true)⟩⟩,
  ⟨none, some 40, [(.tmp 38), (.tmp 39)], ⟨.call .write s_slot_Take_Step v_slot_Take_Step, rCall v_slot_Take_Step⟩⟩,
  ⟨none, some 41, [(.tmp 8)], ⟨.f fMove, rMove⟩⟩,
  ⟨none, some 42, [(.tmp 6)], ⟨.lr 6 9 true, rAny xl_law06_SlotAgain (.lr 6 9 true)⟩⟩,
  ⟨none, some 43, [(.tmp 41), (.tmp 42)], ⟨.call .write s_slot_Take_Step v_slot_Take_Step, rCall v_slot_Take_Step⟩⟩,
  ⟨none, some 9, [(.tmp 40)], ⟨.f fMove, rMove⟩⟩,
  ⟨none, some 10, [(.tmp 43)], ⟨.f fMove, rMove⟩⟩])
 (.seq none
 (.reg [⟨none, some 45, [(.tmp 6)], ⟨.lr 6 9 true, rAny xl_law06_SlotAgain (.lr 6 9 true)⟩⟩,
  ⟨none, some 46, [(.tmp 45)], ⟨.call .write s_law06_take v_law06_take, rCall v_law06_take⟩⟩,
  ⟨none, some 44, [(.tmp 46)], ⟨.f fMove, rMove⟩⟩,
  ⟨none, some 47, [(.tmp 44)], ⟨.f (fExt 0), rAny xl_law06_SlotAgain (.f (fExt 0))⟩⟩,
  ⟨none, some 48, [(.tmp 44)], ⟨.f (fExt 1), rAny xl_law06_SlotAgain (.f (fExt 1))⟩⟩,
  ⟨none, some 49, [(.tmp 44)], ⟨.f (fExt 2), rAny xl_law06_SlotAgain (.f (fExt 2))⟩⟩,
  ⟨none, some 11, [(.tmp 47)], ⟨.f fMove, rMove⟩⟩,
  ⟨none, some 12, [(.tmp 48)], ⟨.f fMove, rMove⟩⟩,
  ⟨none, some 13, [(.tmp 49)], ⟨.f fMove, rMove⟩⟩])
 (.seq none
 (.reg [⟨none, some 51, [(.tmp 6)], ⟨.lr 6 9 true, rAny xl_law06_SlotAgain (.lr 6 9 true)⟩⟩,
  ⟨none, some 52, [(.tmp 51)], ⟨.call .write s_law06_take v_law06_take, rCall v_law06_take⟩⟩,
  ⟨none, some 50, [(.tmp 52)], ⟨.f fMove, rMove⟩⟩,
  ⟨none, some 53, [(.tmp 50)], ⟨.f (fExt 0), rAny xl_law06_SlotAgain (.f (fExt 0))⟩⟩,
  ⟨none, some 54, [(.tmp 50)], ⟨.f (fExt 1), rAny xl_law06_SlotAgain (.f (fExt 1))⟩⟩,
  ⟨none, some 55, [(.tmp 50)], ⟨.f (fExt 2), rAny xl_law06_SlotAgain (.f (fExt 2))⟩⟩,
  ⟨none, some 14, [(.tmp 53)], ⟨.f fMove, rMove⟩⟩,
  ⟨none, some 15, [(.tmp 54)], ⟨.f fMove, rMove⟩⟩,
  ⟨none, some 16, [(.tmp 55)], ⟨.f fMove, rMove⟩⟩])
 (.seq (some ([8, 9, 10, 11, 12, 14, 15], [6]))
 (.seq none
 (.reg [⟨none, some 17, [(.const (.int .i64 0))], ⟨.f fMove, rMove⟩⟩])
 (.block 0
 (.loop ([1, 8, 9, 10, 11, 12, 14, 15, 17], [6])
 (.seq none
 (.seq none
 (.reg [⟨none, some 56, [(.tmp 17)], ⟨.f fMove, rMove⟩⟩,
  ⟨none, some 57, [(.tmp 1)], ⟨.f fMove, rMove⟩⟩,
  ⟨none, some 58, [(.tmp 57), (.const (.int .i64 3))], ⟨.band .no, rAny xl_law06_SlotAgain (.band .no)⟩⟩,
  ⟨none, some 59, [(.tmp 56), (.tmp 58)], ⟨.f (fBin .lss .no), rLss⟩⟩])
 (.cond (.tmp 59)
 .skip
 (.exit 0)))
 (.seq none
 (.block 1
 (.seq none
 (.reg [⟨none, some 62, [(.tmp 6)], ⟨.lr 6 9 true, rAny xl_law06_SlotAgain (.lr 6 9 true)⟩⟩,
  ⟨none, some 63, [(.tmp 11)], ⟨.f fMove, rMove⟩⟩,
  ⟨none, some 64, [(.tmp 62), (.tmp 63)], ⟨.call .write s_law06_give v_law06_give, rCall v_law06_give⟩⟩])
 (.reg [⟨none, some 66, [(.tmp 6)], ⟨.lr 6 9 true, rAny xl_law06_SlotAgain (.lr 6 9 true)⟩⟩,
  ⟨none, some 67, [(.tmp 66)], ⟨.call .write s_law06_take v_law06_take, rCall v_law06_take⟩⟩,
  ⟨none, some 65, [(.tmp 67)], ⟨.f fMove, rMove⟩⟩,
  ⟨none, some 68, [(.tmp 65)], ⟨.f (fExt 0), rAny xl_law06_SlotAgain (.f (fExt 0))⟩⟩,
  ⟨none, some 69, [(.tmp 65)], ⟨.f (fExt 1), rAny xl_law06_SlotAgain (.f (fExt 1))⟩⟩,
  ⟨none, some 70, [(.tmp 65)], ⟨.f (fExt 2), rAny xl_law06_SlotAgain (.f (fExt 2))⟩⟩,
  ⟨none, some 11, [(.tmp 68)], ⟨.f fMove, rMove⟩⟩,
  ⟨none, some 12, [(.tmp 69)], ⟨.f fMove, rMove⟩⟩])))
 (.reg [⟨none, some 60, [(.tmp 17)], ⟨.f fMove, rMove⟩⟩,
  ⟨none, some 61, [(.tmp 60), (.const (.int .i64 1))], ⟨.f (fBin .add .no), rAdd⟩⟩,
  ⟨none, some 17, [(.tmp 61)], ⟨.f fMove, rMove⟩⟩]))))))
 (.seq none
 (.reg [⟨none, some 71, [(.tmp 6)], ⟨.lr 6 9 true, rAny xl_law06_SlotAgain (.lr 6 9 true)⟩⟩,
  ⟨none, some 72, [(.tmp 11)], ⟨.f fMove, rMove⟩⟩,
  ⟨none, some 73, [(.tmp 71), (.tmp 72)], ⟨.call .write s_law06_give v_law06_give, rCall v_law06_give⟩⟩])
 (.seq none
 (.seq (some ([8, 11, 90], [6]))
 (.reg [⟨none, some 74, [(.tmp 9)], ⟨.f fMove, rMove⟩⟩,
  ⟨none, some 75, [(.tmp 74)], ⟨.f fMove, rMove⟩⟩,
  ⟨(some (2, 1, false, some 75)), some 76, [(.tmp 10)], ⟨.f fMove, rMove⟩⟩,
  ⟨none, some 77, [(.tmp 75), (.const (.bool true)), (.tmp 76)], ⟨.f fPick, rPick⟩⟩,
  ⟨none, some 78, [(.tmp 77)], ⟨.f fMove, rMove⟩⟩,
  ⟨(some (5, 4, false, some 78)), some 79, [(.tmp 12)], ⟨.f fMove, rMove⟩⟩,
  ⟨(some (6, 4, false, some 78)), some 80, [(.tmp 79)], ⟨.f (fUn .not), rNot⟩⟩,
  ⟨none, some 81, [(.tmp 78), (.const (.bool true)), (.tmp 80)], ⟨.f fPick, rPick⟩⟩,
  ⟨none, some 82, [(.tmp 81)], ⟨.f fMove, rMove⟩⟩,
  ⟨(some (9, 8, false, some 82)), some 83, [(.tmp 15)], ⟨.f fMove, rMove⟩⟩,
  ⟨(some (10, 8, false, some 82)), some 84, [(.tmp 83)], ⟨.f (fUn .not), rNot⟩⟩,
  ⟨none, some 85, [(.tmp 82), (.const (.bool true)), (.tmp 84)], ⟨.f fPick, rPick⟩⟩,
  ⟨none, some 86, [(.tmp 85)], ⟨.f fMove, rMove⟩⟩,
  ⟨(some (13, 12, false, some 86)), some 87, [(.tmp 11)], ⟨.f fMove, rMove⟩⟩,
  ⟨(some (14, 12, false, some 86)), some 88, [(.tmp 14)], ⟨.f fMove, rMove⟩⟩,
  ⟨(some (15, 12, false, some 86)), some 89, [(.tmp 87), (.tmp 88)], ⟨.f (fBin .eql .no), rEql⟩⟩,
  ⟨none, some 90, [(.tmp 86), (.const (.bool true)), (.tmp 89)], ⟨.f fPick, rPick⟩⟩])
 (.cond (.tmp 90)
 (.seq none
 (.reg [⟨none, some 4, [(.const (.bool false))], ⟨.f fMove, rMove⟩⟩])
 .ret)
 .skip))
 (.seq none
 (.reg [⟨none, some 91, [(.tmp 8)], ⟨.f fMove, rMove⟩⟩,
  ⟨none, some 92, [(.tmp 6)], ⟨.lr 6 9 true, rAny xl_law06_SlotAgain (.lr 6 9 true)⟩⟩,
  ⟨none, some 93, [(.tmp 91), (.tmp 92)], ⟨.call .write s_slot_Take_Step v_slot_Take_Step, rCall v_slot_Take_Step⟩⟩,
  ⟨none, some 18, [(.tmp 93)], ⟨.f fMove, rMove⟩⟩])
 (.seq none
 (.seq none
 (.reg [⟨none, some 94, [(.tmp 18)], ⟨.f fMove, rMove⟩⟩])
 (.cond (.tmp 94)
 (.seq none
 (.reg [⟨none, some 4, [(.const (.bool false))], ⟨.f fMove, rMove⟩⟩])
 .ret)
 .skip))
 (.seq (some ([8, 11, 18], []))
 (.seq none
 (.reg [⟨none, some 19, [(.const (.int .i64 0))], ⟨.f fMove, rMove⟩⟩])
 (.block 2
 (.loop ([8, 11, 18, 19], [6])
 (.seq (some ([8, 11, 19], [6]))
 (.seq none
 (.reg [⟨none, some 95, [(.tmp 19)], ⟨.f fMove, rMove⟩⟩,
  ⟨none, some 96, [(.tmp 95), (.const (.int .i64 10))], ⟨.f (fBin .lss .no), rLss⟩⟩,
  ⟨none, some 97, [(.tmp 96)], ⟨.f fMove, rMove⟩⟩,
  ⟨(some (3, 2, true, some 97)), some 98, [(.tmp 18)], ⟨.f fMove, rMove⟩⟩,
  ⟨(some (4, 2, true, some 97)), some 99, [(.tmp 98)], ⟨.f (fUn .not), rNot⟩⟩,
  ⟨none, some 100, [(.tmp 97), (.tmp 99), (.const (.bool false))], ⟨.f fPick, rPick⟩⟩])
 (.cond (.tmp 100)
 .skip
 (.exit 2)))
 (.seq none
 (.block 3
 (.reg [⟨none, some 103, [(.tmp 8)], ⟨.f fMove, rMove⟩⟩,
  ⟨none, some 104, [(.tmp 6)], ⟨.lr 6 9 true, rAny xl_law06_SlotAgain (.lr 6 9 true)⟩⟩,
  ⟨none, some 105, [(.tmp 103), (.tmp 104)], ⟨.call .write s_slot_Take_Step v_slot_Take_Step, rCall v_slot_Take_Step⟩⟩,
  ⟨none, some 18, [(.tmp 105)], ⟨.f fMove, rMove⟩⟩]))
 (.reg [⟨none, some 101, [(.tmp 19)], ⟨.f fMove, rMove⟩⟩,
  ⟨none, some 102, [(.tmp 101), (.const (.int .i64 1))], ⟨.f (fBin .add .no), rAdd⟩⟩,
  ⟨none, some 19, [(.tmp 102)], ⟨.f fMove, rMove⟩⟩]))))))
 (.seq none
 (.reg [⟨none, some 107, [(.tmp 8)], ⟨.f fMove, rMove⟩⟩,
  ⟨none, some 108, [(.tmp 107)], ⟨.call .read s_slot_Take_Slot v_slot_Take_Slot, rCall v_slot_Take_Slot⟩⟩,
  ⟨none, some 106, [(.tmp 108)], ⟨.f fMove, rMove⟩⟩,
  ⟨none, some 109, [(.tmp 106)], ⟨.f (fExt 0), rAny xl_law06_SlotAgain (.f (fExt 0))⟩⟩,
  ⟨none, some 110, [(.tmp 106)], ⟨.f (fExt 1), rAny xl_law06_SlotAgain (.f (fExt 1))⟩⟩,
  ⟨none, some 20, [(.tmp 109)], ⟨.f fMove, rMove⟩⟩,
  ⟨none, some 21, [(.tmp 110)], ⟨.f fMove, rMove⟩⟩])
 (.seq none
 (.reg [⟨none, some 111, [(.tmp 18)], ⟨.f fMove, rMove⟩⟩,
  ⟨none, some 112, [(.tmp 111)], ⟨.f fMove, rMove⟩⟩,
  ⟨(some (2, 1, true, some 112)), some 113, [(.tmp 21)], ⟨.f fMove, rMove⟩⟩,
  ⟨none, some 114, [(.tmp 112), (.tmp 113), (.const (.bool false))], ⟨.f fPick, rPick⟩⟩,
  ⟨none, some 115, [(.tmp 114)], ⟨.f fMove, rMove⟩⟩,
  ⟨(some (5, 4, true, some 115)), some 116, [(.tmp 20)], ⟨.f fMove, rMove⟩⟩,
  ⟨(some (6, 4, true, some 115)), some 117, [(.tmp 11)], ⟨.f fMove, rMove⟩⟩,
  ⟨(some (7, 4, true, some 115)), some 118, [(.tmp 116), (.tmp 117)], ⟨.f (fBin .eql .no), rEql⟩⟩,
  ⟨none, some 119, [(.tmp 115), (.tmp 118), (.const (.bool false))], ⟨.f fPick, rPick⟩⟩,
  ⟨none, some 4, [(.tmp 119)], ⟨.f fMove, rMove⟩⟩])
 .ret))))))))))))))))
noncomputable def v_law06_SlotAgain : EvF := evFn 2 xc_law06_SlotAgain [.t 4]
theorem xt_law06_SlotAgain : toC cx_law06_SlotAgain (bodyOf Try.f12) = some (xc_law06_SlotAgain.map XN.sm) := by kernel_rfl
theorem xr_law06_SlotAgain : toR cx_law06_SlotAgain Try.f12.results.toList = some [.t 4] := by kernel_rfl
theorem xo_law06_SlotAgain : xc_law06_SlotAgain.ok xl_law06_SlotAgain := ⟨⟨rMove_ok, trivial⟩, ⟨⟨rMove_ok, rAny_ok (trivial), rAdd_ok, rMove_ok, trivial⟩, ⟨⟨rMove_ok, rCall_ok ve_law04_Arena, rMove_ok, rAny_ok (eqv_ext _), rAny_ok (eqv_ext _), rAny_ok (trivial), rAny_ok (trivial), rMove_ok, trivial⟩, ⟨⟨⟨rCall_ok ve_law06_awake, rNot_ok, rMove_ok, rMove_ok, rNot_ok, rPick_ok, trivial⟩, ⟨⟨⟨rMove_ok, trivial⟩, trivial⟩, trivial⟩⟩, ⟨⟨rAny_ok (eqv_build _ rfl _), rAny_ok (trivial), rMove_ok, trivial⟩, ⟨⟨rMove_ok, rAny_ok (trivial), rCall_ok ve_slot_Take_Step, rMove_ok, rAny_ok (trivial), rCall_ok ve_slot_Take_Step, rMove_ok, rMove_ok, trivial⟩, ⟨⟨rAny_ok (trivial), rCall_ok ve_law06_take, rMove_ok, rAny_ok (eqv_ext _), rAny_ok (eqv_ext _), rAny_ok (eqv_ext _), rMove_ok, rMove_ok, rMove_ok, trivial⟩, ⟨⟨rAny_ok (trivial), rCall_ok ve_law06_take, rMove_ok, rAny_ok (eqv_ext _), rAny_ok (eqv_ext _), rAny_ok (eqv_ext _), rMove_ok, rMove_ok, rMove_ok, trivial⟩, ⟨⟨⟨rMove_ok, trivial⟩, ⟨⟨⟨rMove_ok, rMove_ok, rAny_ok (trivial), rLss_ok, trivial⟩, ⟨trivial, trivial⟩⟩, ⟨⟨⟨rAny_ok (trivial), rMove_ok, rCall_ok ve_law06_give, trivial⟩, ⟨rAny_ok (trivial), rCall_ok ve_law06_take, rMove_ok, rAny_ok (eqv_ext _), rAny_ok (eqv_ext _), rAny_ok (eqv_ext _), rMove_ok, rMove_ok, trivial⟩⟩, ⟨rMove_ok, rAdd_ok, rMove_ok, trivial⟩⟩⟩⟩, ⟨⟨rAny_ok (trivial), rMove_ok, rCall_ok ve_law06_give, trivial⟩, ⟨⟨⟨rMove_ok, rMove_ok, rMove_ok, rPick_ok, rMove_ok, rMove_ok, rNot_ok, rPick_ok, rMove_ok, rMove_ok, rNot_ok, rPick_ok, rMove_ok, rMove_ok, rMove_ok, rEql_ok, rPick_ok, trivial⟩, ⟨⟨⟨rMove_ok, trivial⟩, trivial⟩, trivial⟩⟩, ⟨⟨rMove_ok, rAny_ok (trivial), rCall_ok ve_slot_Take_Step, rMove_ok, trivial⟩, ⟨⟨⟨rMove_ok, trivial⟩, ⟨⟨⟨rMove_ok, trivial⟩, trivial⟩, trivial⟩⟩, ⟨⟨⟨rMove_ok, trivial⟩, ⟨⟨⟨rMove_ok, rLss_ok, rMove_ok, rMove_ok, rNot_ok, rPick_ok, trivial⟩, ⟨trivial, trivial⟩⟩, ⟨⟨rMove_ok, rAny_ok (trivial), rCall_ok ve_slot_Take_Step, rMove_ok, trivial⟩, ⟨rMove_ok, rAdd_ok, rMove_ok, trivial⟩⟩⟩⟩, ⟨⟨rMove_ok, rCall_ok ve_slot_Take_Slot, rMove_ok, rAny_ok (eqv_ext _), rAny_ok (eqv_ext _), rMove_ok, rMove_ok, trivial⟩, ⟨⟨rMove_ok, rMove_ok, rMove_ok, rPick_ok, rMove_ok, rMove_ok, rMove_ok, rEql_ok, rPick_ok, rMove_ok, trivial⟩, trivial⟩⟩⟩⟩⟩⟩⟩⟩⟩⟩⟩⟩⟩⟩⟩⟩
theorem ve_law06_SlotAgain : EvOk s_law06_SlotAgain v_law06_SlotAgain := EvOk.of (evFn_sound (C := cx_law06_SlotAgain) xt_law06_SlotAgain xr_law06_SlotAgain xo_law06_SlotAgain) q_law06_SlotAgain

attribute [irreducible] w_law06_SlotAgain_j4b w_law06_SlotAgain_j4 w_law06_SlotAgain_j5b w_law06_SlotAgain_j5 w_law06_SlotAgain_l22b w_law06_SlotAgain_l22 w_law06_SlotAgain_j3b w_law06_SlotAgain_j3 w_law06_SlotAgain_j2b w_law06_SlotAgain_j2 w_law06_SlotAgain_l11b w_law06_SlotAgain_l11 w_law06_SlotAgain_j1b w_law06_SlotAgain_j1 w_law06_SlotAgain s_law06_SlotAgain

end Go.Fl
