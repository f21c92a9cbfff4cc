/- It takes effect by the step by which the handle's word says that the object lives: the reading of the law answers true. No condition. -/
import Derived.Test.YthibiempfkcinaaFlCe
import Derived.Test.YthibiempfkcinaaG3
namespace Go.Fl
open Go
set_option linter.unusedVariables false
set_option linter.unusedSimpArgs false
noncomputable def runStamps (n : Int) : Bool := v_law08_AllocStamps [tok .i64 15 n] ⟨.e, 0⟩ (fun v _ => isT v)
set_option maxRecDepth 10000000 in
theorem runsStamps : (List.range 16).all (fun i => runStamps (Int.ofNat i)) = true := by kernel_rfl
theorem law_AllocStamps (σ : Mem) (a0 : Int) (w0 : (Lit.int .i64 a0).wf = true) : s_law08_AllocStamps [.int .i64 a0] (fun v _ => v = .bool true) σ :=
  ve_law08_AllocStamps.done e_law08_AllocStamps (.cons (.low (k := 4) (by decide) (by decide) rfl) .nil) (all_of runsStamps (Int.emod_nonneg _ (by decide)) (Int.emod_lt_of_pos _ (by decide))) σ
end Go.Fl
