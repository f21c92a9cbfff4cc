/- What a law's text needs beside: names in one place; a function that answers true, for the evaluator. No condition. -/
import Derived.Test.YthibiempfkcinaaFlS
import Derived.Test.YthibiempfkcinaaFlM
namespace Go.Fl
open Go
set_option linter.unusedVariables false

noncomputable def vTrue : EvF := fun args μ k => List.casesOn args (k (.bool true) μ) fun _ _ => false
theorem vTrue_ok : EvOk sTrue vTrue := by
  intro σ0 r μ σ args args' k Q hM ha hk post
  cases ha with
  | nil => exact post _ _ r _ _ hk (Rn.le.refl _) hM (.bool true)
  | cons _ _ => cases hk

end Go.Fl
