/-
  No cell of these rows narrows 'for every input' (looked for: loops, veiled, ifaces, maps, wideKeys, modest, calm, conditions, laid).
  DERIVED. THE GIVEN ROWS OF THIS SEAT. 11 by the template 'for every input the law returns true; each argument reads behind the call as it read before'; 0 by the template 'total and deterministic' (their statements: YtggcbkdiicdckaaTotals.lean).
  GIVEN WITH THE SEED: the statements are not yours to turn. If you find one false, say at which input.
  Laid BY PROGRAM, IN A SANDBOX (cutbox-rows.mjs): the forced cells as the released guide's own fill.sh prints them over the translation 66867c7c99fda1d5… (all of the seat's roots in one cut). By AI agents, Wed Nov 11 2026. No macro, syntax, notation, axiom, sorry.
-/
import Derived.Test.YtggcbkdiicdckaaChecked
import GoSem.Claim
import GoSem.ClaimJoined
import GoSem.ClaimMapViews
import Derived.JoinedTies
import Derived.KernelRfl
namespace Go.Proofs.Ytggcbkdiicdckaa
/- THE CELL 'sum', in the pinned program and in every row, IS THE sha256 OF THE DUMP (.gsa) THAT YtggcbkdiicdckaaProg.lean LOADS. Nothing in Lean hashes anything: it is a label: what it is worth is what the hold of that sum in a sandbox is worth. -/
noncomputable def Try.pinned : Pinned := { name := "ytggcbkdiicdckaa", sum := "66867c7c99fda1d53d17300dd2fc8e4b4153bf8098c5221ebc738e5962e3e373", checked := Try.checked }
namespace Rows
def none {H : Type} : Left H := { results := [], args := [] }

/-- 'footlockerlaw04.LayoutChecks': WHATEVER THE INPUT: true; the input reads as it did. -/
def layoutChecksSpec : ChangeSpec := { name := "layoutChecks", fn := fun _ => fun
  | [d] => { results := [.lit (.bool true)], args := [d] }
  | _ => none }
def layoutChecksRow : OpenClaim := { program := "ytggcbkdiicdckaa", sum := "66867c7c99fda1d53d17300dd2fc8e4b4153bf8098c5221ebc738e5962e3e373", func := "footlocker/footlockerlaw04.LayoutChecks", spec := "layoutChecks", apart := false }
def LayoutChecksSaid : Prop := layoutChecksRow.holds Try.pinned (OpenSpec.ofChange layoutChecksSpec)

/-- ITS FALSE NEIGHBOUR: 'it returns false'. Refute it at one input. -/
def layoutChecksWrong : ChangeSpec := { name := "layoutChecks", fn := fun _ => fun
  | [d] => { results := [.lit (.bool false)], args := [d] }
  | _ => none }
def LayoutChecksWrongFalsely : Prop := layoutChecksRow.holds Try.pinned (OpenSpec.ofChange layoutChecksWrong)

/-- 'footlockerlaw04.LayoutClasses': WHATEVER THE INPUT: true; the input reads as it did. -/
def layoutClassesSpec : ChangeSpec := { name := "layoutClasses", fn := fun _ => fun
  | [d] => { results := [.lit (.bool true)], args := [d] }
  | _ => none }
def layoutClassesRow : OpenClaim := { program := "ytggcbkdiicdckaa", sum := "66867c7c99fda1d53d17300dd2fc8e4b4153bf8098c5221ebc738e5962e3e373", func := "footlocker/footlockerlaw04.LayoutClasses", spec := "layoutClasses", apart := false }
def LayoutClassesSaid : Prop := layoutClassesRow.holds Try.pinned (OpenSpec.ofChange layoutClassesSpec)

/-- ITS FALSE NEIGHBOUR: 'it returns false'. Refute it at one input. -/
def layoutClassesWrong : ChangeSpec := { name := "layoutClasses", fn := fun _ => fun
  | [d] => { results := [.lit (.bool false)], args := [d] }
  | _ => none }
def LayoutClassesWrongFalsely : Prop := layoutClassesRow.holds Try.pinned (OpenSpec.ofChange layoutClassesWrong)

/-- 'footlockerlaw04.LayoutFresh': WHATEVER THE INPUT: true; the input reads as it did. -/
def layoutFreshSpec : ChangeSpec := { name := "layoutFresh", fn := fun _ => fun
  | [d1, d2] => { results := [.lit (.bool true)], args := [d1, d2] }
  | _ => none }
def layoutFreshRow : OpenClaim := { program := "ytggcbkdiicdckaa", sum := "66867c7c99fda1d53d17300dd2fc8e4b4153bf8098c5221ebc738e5962e3e373", func := "footlocker/footlockerlaw04.LayoutFresh", spec := "layoutFresh", apart := false }
def LayoutFreshSaid : Prop := layoutFreshRow.holds Try.pinned (OpenSpec.ofChange layoutFreshSpec)

/-- ITS FALSE NEIGHBOUR: 'it returns false'. Refute it at one input. -/
def layoutFreshWrong : ChangeSpec := { name := "layoutFresh", fn := fun _ => fun
  | [d1, d2] => { results := [.lit (.bool false)], args := [d1, d2] }
  | _ => none }
def LayoutFreshWrongFalsely : Prop := layoutFreshRow.holds Try.pinned (OpenSpec.ofChange layoutFreshWrong)

/-- 'footlockerlaw04.LayoutPlaces': WHATEVER THE INPUT: true; the input reads as it did. -/
def layoutPlacesSpec : ChangeSpec := { name := "layoutPlaces", fn := fun _ => fun
  | [d] => { results := [.lit (.bool true)], args := [d] }
  | _ => none }
def layoutPlacesRow : OpenClaim := { program := "ytggcbkdiicdckaa", sum := "66867c7c99fda1d53d17300dd2fc8e4b4153bf8098c5221ebc738e5962e3e373", func := "footlocker/footlockerlaw04.LayoutPlaces", spec := "layoutPlaces", apart := false }
def LayoutPlacesSaid : Prop := layoutPlacesRow.holds Try.pinned (OpenSpec.ofChange layoutPlacesSpec)

/-- ITS FALSE NEIGHBOUR: 'it returns false'. Refute it at one input. -/
def layoutPlacesWrong : ChangeSpec := { name := "layoutPlaces", fn := fun _ => fun
  | [d] => { results := [.lit (.bool false)], args := [d] }
  | _ => none }
def LayoutPlacesWrongFalsely : Prop := layoutPlacesRow.holds Try.pinned (OpenSpec.ofChange layoutPlacesWrong)

/-- 'footlockerlaw04.LayoutOf': WHATEVER THE INPUT: true; the input reads as it did. -/
def layoutOfSpec : ChangeSpec := { name := "layoutOf", fn := fun _ => fun
  | [d1, d2] => { results := [.lit (.bool true)], args := [d1, d2] }
  | _ => none }
def layoutOfRow : OpenClaim := { program := "ytggcbkdiicdckaa", sum := "66867c7c99fda1d53d17300dd2fc8e4b4153bf8098c5221ebc738e5962e3e373", func := "footlocker/footlockerlaw04.LayoutOf", spec := "layoutOf", apart := false }
def LayoutOfSaid : Prop := layoutOfRow.holds Try.pinned (OpenSpec.ofChange layoutOfSpec)

/-- ITS FALSE NEIGHBOUR: 'it returns false'. Refute it at one input. -/
def layoutOfWrong : ChangeSpec := { name := "layoutOf", fn := fun _ => fun
  | [d1, d2] => { results := [.lit (.bool false)], args := [d1, d2] }
  | _ => none }
def LayoutOfWrongFalsely : Prop := layoutOfRow.holds Try.pinned (OpenSpec.ofChange layoutOfWrong)

/-- 'footlockerlaw06.SlotEmpty': WHATEVER THE INPUT: true; the input reads as it did. -/
def slotEmptySpec : ChangeSpec := { name := "slotEmpty", fn := fun _ => fun
  | [d1, d2] => { results := [.lit (.bool true)], args := [d1, d2] }
  | _ => none }
def slotEmptyRow : OpenClaim := { program := "ytggcbkdiicdckaa", sum := "66867c7c99fda1d53d17300dd2fc8e4b4153bf8098c5221ebc738e5962e3e373", func := "footlocker/footlockerlaw06.SlotEmpty", spec := "slotEmpty", apart := false }
def SlotEmptySaid : Prop := slotEmptyRow.holds Try.pinned (OpenSpec.ofChange slotEmptySpec)

/-- ITS FALSE NEIGHBOUR: 'it returns false'. Refute it at one input. -/
def slotEmptyWrong : ChangeSpec := { name := "slotEmpty", fn := fun _ => fun
  | [d1, d2] => { results := [.lit (.bool false)], args := [d1, d2] }
  | _ => none }
def SlotEmptyWrongFalsely : Prop := slotEmptyRow.holds Try.pinned (OpenSpec.ofChange slotEmptyWrong)

/-- 'footlockerlaw04.LayoutEnv': WHATEVER THE INPUT: true; the input reads as it did. -/
def layoutEnvSpec : ChangeSpec := { name := "layoutEnv", fn := fun _ => fun
  | [d] => { results := [.lit (.bool true)], args := [d] }
  | _ => none }
def layoutEnvRow : OpenClaim := { program := "ytggcbkdiicdckaa", sum := "66867c7c99fda1d53d17300dd2fc8e4b4153bf8098c5221ebc738e5962e3e373", func := "footlocker/footlockerlaw04.LayoutEnv", spec := "layoutEnv", apart := false }
def LayoutEnvSaid : Prop := layoutEnvRow.holds Try.pinned (OpenSpec.ofChange layoutEnvSpec)

/-- ITS FALSE NEIGHBOUR: 'it returns false'. Refute it at one input. -/
def layoutEnvWrong : ChangeSpec := { name := "layoutEnv", fn := fun _ => fun
  | [d] => { results := [.lit (.bool false)], args := [d] }
  | _ => none }
def LayoutEnvWrongFalsely : Prop := layoutEnvRow.holds Try.pinned (OpenSpec.ofChange layoutEnvWrong)

/-- 'footlockerlaw06.SlotAlone': WHATEVER THE INPUT: true; the input reads as it did. -/
def slotAloneSpec : ChangeSpec := { name := "slotAlone", fn := fun _ => fun
  | [d1, d2] => { results := [.lit (.bool true)], args := [d1, d2] }
  | _ => none }
def slotAloneRow : OpenClaim := { program := "ytggcbkdiicdckaa", sum := "66867c7c99fda1d53d17300dd2fc8e4b4153bf8098c5221ebc738e5962e3e373", func := "footlocker/footlockerlaw06.SlotAlone", spec := "slotAlone", apart := false }
def SlotAloneSaid : Prop := slotAloneRow.holds Try.pinned (OpenSpec.ofChange slotAloneSpec)

/-- ITS FALSE NEIGHBOUR: 'it returns false'. Refute it at one input. -/
def slotAloneWrong : ChangeSpec := { name := "slotAlone", fn := fun _ => fun
  | [d1, d2] => { results := [.lit (.bool false)], args := [d1, d2] }
  | _ => none }
def SlotAloneWrongFalsely : Prop := slotAloneRow.holds Try.pinned (OpenSpec.ofChange slotAloneWrong)

/-- 'footlockerlaw06.SlotShares': WHATEVER THE INPUT: true; the input reads as it did. -/
def slotSharesSpec : ChangeSpec := { name := "slotShares", fn := fun _ => fun
  | [d1, d2] => { results := [.lit (.bool true)], args := [d1, d2] }
  | _ => none }
def slotSharesRow : OpenClaim := { program := "ytggcbkdiicdckaa", sum := "66867c7c99fda1d53d17300dd2fc8e4b4153bf8098c5221ebc738e5962e3e373", func := "footlocker/footlockerlaw06.SlotShares", spec := "slotShares", apart := false }
def SlotSharesSaid : Prop := slotSharesRow.holds Try.pinned (OpenSpec.ofChange slotSharesSpec)

/-- ITS FALSE NEIGHBOUR: 'it returns false'. Refute it at one input. -/
def slotSharesWrong : ChangeSpec := { name := "slotShares", fn := fun _ => fun
  | [d1, d2] => { results := [.lit (.bool false)], args := [d1, d2] }
  | _ => none }
def SlotSharesWrongFalsely : Prop := slotSharesRow.holds Try.pinned (OpenSpec.ofChange slotSharesWrong)

/-- 'footlockerlaw06.SlotAgain': WHATEVER THE INPUT: true; the input reads as it did. -/
def slotAgainSpec : ChangeSpec := { name := "slotAgain", fn := fun _ => fun
  | [d1, d2] => { results := [.lit (.bool true)], args := [d1, d2] }
  | _ => none }
def slotAgainRow : OpenClaim := { program := "ytggcbkdiicdckaa", sum := "66867c7c99fda1d53d17300dd2fc8e4b4153bf8098c5221ebc738e5962e3e373", func := "footlocker/footlockerlaw06.SlotAgain", spec := "slotAgain", apart := false }
def SlotAgainSaid : Prop := slotAgainRow.holds Try.pinned (OpenSpec.ofChange slotAgainSpec)

/-- ITS FALSE NEIGHBOUR: 'it returns false'. Refute it at one input. -/
def slotAgainWrong : ChangeSpec := { name := "slotAgain", fn := fun _ => fun
  | [d1, d2] => { results := [.lit (.bool false)], args := [d1, d2] }
  | _ => none }
def SlotAgainWrongFalsely : Prop := slotAgainRow.holds Try.pinned (OpenSpec.ofChange slotAgainWrong)

/-- 'footlockerlaw06.SlotSteps': WHATEVER THE INPUT: true; the input reads as it did. -/
def slotStepsSpec : ChangeSpec := { name := "slotSteps", fn := fun _ => fun
  | [d1, d2] => { results := [.lit (.bool true)], args := [d1, d2] }
  | _ => none }
def slotStepsRow : OpenClaim := { program := "ytggcbkdiicdckaa", sum := "66867c7c99fda1d53d17300dd2fc8e4b4153bf8098c5221ebc738e5962e3e373", func := "footlocker/footlockerlaw06.SlotSteps", spec := "slotSteps", apart := false }
def SlotStepsSaid : Prop := slotStepsRow.holds Try.pinned (OpenSpec.ofChange slotStepsSpec)

/-- ITS FALSE NEIGHBOUR: 'it returns false'. Refute it at one input. -/
def slotStepsWrong : ChangeSpec := { name := "slotSteps", fn := fun _ => fun
  | [d1, d2] => { results := [.lit (.bool false)], args := [d1, d2] }
  | _ => none }
def SlotStepsWrongFalsely : Prop := slotStepsRow.holds Try.pinned (OpenSpec.ofChange slotStepsWrong)

/- THE SECOND FORM. 'bulk': how many values and letters a reading holds, each counted each time it is reached (what is shared counts as often as it is met; a slice's spare places count too). A statement '..UptoSaid' is the law's where the arguments, and the package variables that the reading takes, are together of bulk at most 1048576: NARROWER than '..Said'. Prove '..Said' where nothing that the law and all that it calls make is longer than what came in: it says more and counts as full. Else prove '..UptoSaid'. A law counts once. -/
mutual
def uptoBulk {H : Type} : DataW H → Nat
  | .lit (.string bytes) => bytes.length + 1
  | .lit _ => 1
  | .nil => 1
  | .ptr d => uptoBulk d + 1
  | .slice elems spare => uptoBulkAll elems + uptoBulkAll spare + 1
  | .agg parts => uptoBulkAll parts + 1
  | .iface _ d => uptoBulk d + 1
  | .map entries => uptoBulkEntries entries + 1
  | .held _ => 1
def uptoBulkAll {H : Type} : List (DataW H) → Nat
  | [] => 0
  | d :: r => uptoBulk d + uptoBulkAll r
def uptoBulkEntries {H : Type} : List (Lit × DataW H) → Nat
  | [] => 0
  | x :: r => uptoBulkEntry x + uptoBulkEntries r
def uptoBulkEntry {H : Type} : Lit × DataW H → Nat
  | (.string bytes, d) => bytes.length + uptoBulk d + 1
  | (_, d) => uptoBulk d + 1
 end
def uptoSmall : (H : Type) → List (DataW H) → Bool := fun _ ds => decide (uptoBulkAll ds ≤ 1048576)
def OpenSpec.upto (s : _root_.Go.ChangeSpec) : _root_.Go.OpenSpec := { _root_.Go.OpenSpec.ofChange s with cond := some uptoSmall }

/-- 'footlockerlaw04.LayoutChecks', WHERE WHAT IT READS IS OF BULK AT MOST 1048576: true; the input reads as it did. -/
def layoutChecksUptoRow : OpenClaim := { program := "ytggcbkdiicdckaa", sum := "66867c7c99fda1d53d17300dd2fc8e4b4153bf8098c5221ebc738e5962e3e373", func := "footlocker/footlockerlaw04.LayoutChecks", spec := "layoutChecks", apart := false, narrowed := true }
def LayoutChecksUptoSaid : Prop := layoutChecksUptoRow.holds Try.pinned (OpenSpec.upto layoutChecksSpec)

/-- 'footlockerlaw04.LayoutClasses', WHERE WHAT IT READS IS OF BULK AT MOST 1048576: true; the input reads as it did. -/
def layoutClassesUptoRow : OpenClaim := { program := "ytggcbkdiicdckaa", sum := "66867c7c99fda1d53d17300dd2fc8e4b4153bf8098c5221ebc738e5962e3e373", func := "footlocker/footlockerlaw04.LayoutClasses", spec := "layoutClasses", apart := false, narrowed := true }
def LayoutClassesUptoSaid : Prop := layoutClassesUptoRow.holds Try.pinned (OpenSpec.upto layoutClassesSpec)

/-- 'footlockerlaw04.LayoutFresh', WHERE WHAT IT READS IS OF BULK AT MOST 1048576: true; the input reads as it did. -/
def layoutFreshUptoRow : OpenClaim := { program := "ytggcbkdiicdckaa", sum := "66867c7c99fda1d53d17300dd2fc8e4b4153bf8098c5221ebc738e5962e3e373", func := "footlocker/footlockerlaw04.LayoutFresh", spec := "layoutFresh", apart := false, narrowed := true }
def LayoutFreshUptoSaid : Prop := layoutFreshUptoRow.holds Try.pinned (OpenSpec.upto layoutFreshSpec)

/-- 'footlockerlaw04.LayoutPlaces', WHERE WHAT IT READS IS OF BULK AT MOST 1048576: true; the input reads as it did. -/
def layoutPlacesUptoRow : OpenClaim := { program := "ytggcbkdiicdckaa", sum := "66867c7c99fda1d53d17300dd2fc8e4b4153bf8098c5221ebc738e5962e3e373", func := "footlocker/footlockerlaw04.LayoutPlaces", spec := "layoutPlaces", apart := false, narrowed := true }
def LayoutPlacesUptoSaid : Prop := layoutPlacesUptoRow.holds Try.pinned (OpenSpec.upto layoutPlacesSpec)

/-- 'footlockerlaw04.LayoutOf', WHERE WHAT IT READS IS OF BULK AT MOST 1048576: true; the input reads as it did. -/
def layoutOfUptoRow : OpenClaim := { program := "ytggcbkdiicdckaa", sum := "66867c7c99fda1d53d17300dd2fc8e4b4153bf8098c5221ebc738e5962e3e373", func := "footlocker/footlockerlaw04.LayoutOf", spec := "layoutOf", apart := false, narrowed := true }
def LayoutOfUptoSaid : Prop := layoutOfUptoRow.holds Try.pinned (OpenSpec.upto layoutOfSpec)

/-- 'footlockerlaw06.SlotEmpty', WHERE WHAT IT READS IS OF BULK AT MOST 1048576: true; the input reads as it did. -/
def slotEmptyUptoRow : OpenClaim := { program := "ytggcbkdiicdckaa", sum := "66867c7c99fda1d53d17300dd2fc8e4b4153bf8098c5221ebc738e5962e3e373", func := "footlocker/footlockerlaw06.SlotEmpty", spec := "slotEmpty", apart := false, narrowed := true }
def SlotEmptyUptoSaid : Prop := slotEmptyUptoRow.holds Try.pinned (OpenSpec.upto slotEmptySpec)

/-- 'footlockerlaw04.LayoutEnv', WHERE WHAT IT READS IS OF BULK AT MOST 1048576: true; the input reads as it did. -/
def layoutEnvUptoRow : OpenClaim := { program := "ytggcbkdiicdckaa", sum := "66867c7c99fda1d53d17300dd2fc8e4b4153bf8098c5221ebc738e5962e3e373", func := "footlocker/footlockerlaw04.LayoutEnv", spec := "layoutEnv", apart := false, narrowed := true }
def LayoutEnvUptoSaid : Prop := layoutEnvUptoRow.holds Try.pinned (OpenSpec.upto layoutEnvSpec)

/-- 'footlockerlaw06.SlotAlone', WHERE WHAT IT READS IS OF BULK AT MOST 1048576: true; the input reads as it did. -/
def slotAloneUptoRow : OpenClaim := { program := "ytggcbkdiicdckaa", sum := "66867c7c99fda1d53d17300dd2fc8e4b4153bf8098c5221ebc738e5962e3e373", func := "footlocker/footlockerlaw06.SlotAlone", spec := "slotAlone", apart := false, narrowed := true }
def SlotAloneUptoSaid : Prop := slotAloneUptoRow.holds Try.pinned (OpenSpec.upto slotAloneSpec)

/-- 'footlockerlaw06.SlotShares', WHERE WHAT IT READS IS OF BULK AT MOST 1048576: true; the input reads as it did. -/
def slotSharesUptoRow : OpenClaim := { program := "ytggcbkdiicdckaa", sum := "66867c7c99fda1d53d17300dd2fc8e4b4153bf8098c5221ebc738e5962e3e373", func := "footlocker/footlockerlaw06.SlotShares", spec := "slotShares", apart := false, narrowed := true }
def SlotSharesUptoSaid : Prop := slotSharesUptoRow.holds Try.pinned (OpenSpec.upto slotSharesSpec)

/-- 'footlockerlaw06.SlotAgain', WHERE WHAT IT READS IS OF BULK AT MOST 1048576: true; the input reads as it did. -/
def slotAgainUptoRow : OpenClaim := { program := "ytggcbkdiicdckaa", sum := "66867c7c99fda1d53d17300dd2fc8e4b4153bf8098c5221ebc738e5962e3e373", func := "footlocker/footlockerlaw06.SlotAgain", spec := "slotAgain", apart := false, narrowed := true }
def SlotAgainUptoSaid : Prop := slotAgainUptoRow.holds Try.pinned (OpenSpec.upto slotAgainSpec)

/-- 'footlockerlaw06.SlotSteps', WHERE WHAT IT READS IS OF BULK AT MOST 1048576: true; the input reads as it did. -/
def slotStepsUptoRow : OpenClaim := { program := "ytggcbkdiicdckaa", sum := "66867c7c99fda1d53d17300dd2fc8e4b4153bf8098c5221ebc738e5962e3e373", func := "footlocker/footlockerlaw06.SlotSteps", spec := "slotSteps", apart := false, narrowed := true }
def SlotStepsUptoSaid : Prop := slotStepsUptoRow.holds Try.pinned (OpenSpec.upto slotStepsSpec)

end Rows
end Go.Proofs.Ytggcbkdiicdckaa
