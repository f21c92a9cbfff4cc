/-
  No cell of these rows narrows 'for every input' (looked for: loops, veiled, ifaces, maps, wideKeys, modest, calm, conditions, laid).
  DERIVED. THE GIVEN ROWS OF THIS SEAT. 10 by the template 'for every input the law returns true; each argument reads behind the call as it read before'; 0 by the template 'total and deterministic' (their statements: YthibiempfkcinaaTotals.lean).
  GIVEN WITH THE SEED: the statements are not yours to turn. If you find one false, say at which input.
  Laid BY PROGRAM, IN A SANDBOX (cutbox-rows.mjs): the forced cells as the released guide's own fill.sh prints them over the translation c0d0b41d46f7e43c… (all of the seat's roots in one cut). By AI agents, Wed Nov 11 2026. No macro, syntax, notation, axiom, sorry.
-/
import Derived.Test.YthibiempfkcinaaChecked
import GoSem.Claim
import GoSem.ClaimJoined
import GoSem.ClaimMapViews
import Derived.JoinedTies
import Derived.KernelRfl
namespace Go.Proofs.Ythibiempfkcinaa
/- THE CELL 'sum', in the pinned program and in every row, IS THE sha256 OF THE DUMP (.gsa) THAT YthibiempfkcinaaProg.lean LOADS. Nothing in Lean hashes anything: it is a label: what it is worth is what the hold of that sum in a sandbox is worth. -/
noncomputable def Try.pinned : Pinned := { name := "ythibiempfkcinaa", sum := "c0d0b41d46f7e43ce118d24b2ef897f8ba1ca926a838149499d65f9cea8c32d7", checked := Try.checked }
namespace Rows
def none {H : Type} : Left H := { results := [], args := [] }

/-- 'footlockerlaw07.PlaceAlone': WHATEVER THE INPUT: true; the input reads as it did. -/
def placeAloneSpec : ChangeSpec := { name := "placeAlone", fn := fun _ => fun
  | [d1, d2, d3] => { results := [.lit (.bool true)], args := [d1, d2, d3] }
  | _ => none }
def placeAloneRow : OpenClaim := { program := "ythibiempfkcinaa", sum := "c0d0b41d46f7e43ce118d24b2ef897f8ba1ca926a838149499d65f9cea8c32d7", func := "footlocker/footlockerlaw07.PlaceAlone", spec := "placeAlone", apart := false }
def PlaceAloneSaid : Prop := placeAloneRow.holds Try.pinned (OpenSpec.ofChange placeAloneSpec)

/-- ITS FALSE NEIGHBOUR: 'it returns false'. Refute it at one input. -/
def placeAloneWrong : ChangeSpec := { name := "placeAlone", fn := fun _ => fun
  | [d1, d2, d3] => { results := [.lit (.bool false)], args := [d1, d2, d3] }
  | _ => none }
def PlaceAloneWrongFalsely : Prop := placeAloneRow.holds Try.pinned (OpenSpec.ofChange placeAloneWrong)

/-- 'footlockerlaw07.PlaceLeaves': WHATEVER THE INPUT: true; the input reads as it did. -/
def placeLeavesSpec : ChangeSpec := { name := "placeLeaves", fn := fun _ => fun
  | [d1, d2] => { results := [.lit (.bool true)], args := [d1, d2] }
  | _ => none }
def placeLeavesRow : OpenClaim := { program := "ythibiempfkcinaa", sum := "c0d0b41d46f7e43ce118d24b2ef897f8ba1ca926a838149499d65f9cea8c32d7", func := "footlocker/footlockerlaw07.PlaceLeaves", spec := "placeLeaves", apart := false }
def PlaceLeavesSaid : Prop := placeLeavesRow.holds Try.pinned (OpenSpec.ofChange placeLeavesSpec)

/-- ITS FALSE NEIGHBOUR: 'it returns false'. Refute it at one input. -/
def placeLeavesWrong : ChangeSpec := { name := "placeLeaves", fn := fun _ => fun
  | [d1, d2] => { results := [.lit (.bool false)], args := [d1, d2] }
  | _ => none }
def PlaceLeavesWrongFalsely : Prop := placeLeavesRow.holds Try.pinned (OpenSpec.ofChange placeLeavesWrong)

/-- 'footlockerlaw07.PlaceClean': WHATEVER THE INPUT: true; the input reads as it did. -/
def placeCleanSpec : ChangeSpec := { name := "placeClean", fn := fun _ => fun
  | [d1, d2] => { results := [.lit (.bool true)], args := [d1, d2] }
  | _ => none }
def placeCleanRow : OpenClaim := { program := "ythibiempfkcinaa", sum := "c0d0b41d46f7e43ce118d24b2ef897f8ba1ca926a838149499d65f9cea8c32d7", func := "footlocker/footlockerlaw07.PlaceClean", spec := "placeClean", apart := false }
def PlaceCleanSaid : Prop := placeCleanRow.holds Try.pinned (OpenSpec.ofChange placeCleanSpec)

/-- ITS FALSE NEIGHBOUR: 'it returns false'. Refute it at one input. -/
def placeCleanWrong : ChangeSpec := { name := "placeClean", fn := fun _ => fun
  | [d1, d2] => { results := [.lit (.bool false)], args := [d1, d2] }
  | _ => none }
def PlaceCleanWrongFalsely : Prop := placeCleanRow.holds Try.pinned (OpenSpec.ofChange placeCleanWrong)

/-- 'footlockerlaw07.PlaceShares': WHATEVER THE INPUT: true; the input reads as it did. -/
def placeSharesSpec : ChangeSpec := { name := "placeShares", fn := fun _ => fun
  | [d1, d2, d3] => { results := [.lit (.bool true)], args := [d1, d2, d3] }
  | _ => none }
def placeSharesRow : OpenClaim := { program := "ythibiempfkcinaa", sum := "c0d0b41d46f7e43ce118d24b2ef897f8ba1ca926a838149499d65f9cea8c32d7", func := "footlocker/footlockerlaw07.PlaceShares", spec := "placeShares", apart := false }
def PlaceSharesSaid : Prop := placeSharesRow.holds Try.pinned (OpenSpec.ofChange placeSharesSpec)

/-- ITS FALSE NEIGHBOUR: 'it returns false'. Refute it at one input. -/
def placeSharesWrong : ChangeSpec := { name := "placeShares", fn := fun _ => fun
  | [d1, d2, d3] => { results := [.lit (.bool false)], args := [d1, d2, d3] }
  | _ => none }
def PlaceSharesWrongFalsely : Prop := placeSharesRow.holds Try.pinned (OpenSpec.ofChange placeSharesWrong)

/-- 'footlockerlaw07.PlaceSteps': WHATEVER THE INPUT: true; the input reads as it did. -/
def placeStepsSpec : ChangeSpec := { name := "placeSteps", fn := fun _ => fun
  | [d1, d2] => { results := [.lit (.bool true)], args := [d1, d2] }
  | _ => none }
def placeStepsRow : OpenClaim := { program := "ythibiempfkcinaa", sum := "c0d0b41d46f7e43ce118d24b2ef897f8ba1ca926a838149499d65f9cea8c32d7", func := "footlocker/footlockerlaw07.PlaceSteps", spec := "placeSteps", apart := false }
def PlaceStepsSaid : Prop := placeStepsRow.holds Try.pinned (OpenSpec.ofChange placeStepsSpec)

/-- ITS FALSE NEIGHBOUR: 'it returns false'. Refute it at one input. -/
def placeStepsWrong : ChangeSpec := { name := "placeSteps", fn := fun _ => fun
  | [d1, d2] => { results := [.lit (.bool false)], args := [d1, d2] }
  | _ => none }
def PlaceStepsWrongFalsely : Prop := placeStepsRow.holds Try.pinned (OpenSpec.ofChange placeStepsWrong)

/-- 'footlockerlaw08.AllocGives': WHATEVER THE INPUT: true; the input reads as it did. -/
def allocGivesSpec : ChangeSpec := { name := "allocGives", fn := fun _ => fun
  | [d1, d2] => { results := [.lit (.bool true)], args := [d1, d2] }
  | _ => none }
def allocGivesRow : OpenClaim := { program := "ythibiempfkcinaa", sum := "c0d0b41d46f7e43ce118d24b2ef897f8ba1ca926a838149499d65f9cea8c32d7", func := "footlocker/footlockerlaw08.AllocGives", spec := "allocGives", apart := false }
def AllocGivesSaid : Prop := allocGivesRow.holds Try.pinned (OpenSpec.ofChange allocGivesSpec)

/-- ITS FALSE NEIGHBOUR: 'it returns false'. Refute it at one input. -/
def allocGivesWrong : ChangeSpec := { name := "allocGives", fn := fun _ => fun
  | [d1, d2] => { results := [.lit (.bool false)], args := [d1, d2] }
  | _ => none }
def AllocGivesWrongFalsely : Prop := allocGivesRow.holds Try.pinned (OpenSpec.ofChange allocGivesWrong)

/-- 'footlockerlaw08.AllocStamps': WHATEVER THE INPUT: true; the input reads as it did. -/
def allocStampsSpec : ChangeSpec := { name := "allocStamps", fn := fun _ => fun
  | [d] => { results := [.lit (.bool true)], args := [d] }
  | _ => none }
def allocStampsRow : OpenClaim := { program := "ythibiempfkcinaa", sum := "c0d0b41d46f7e43ce118d24b2ef897f8ba1ca926a838149499d65f9cea8c32d7", func := "footlocker/footlockerlaw08.AllocStamps", spec := "allocStamps", apart := false }
def AllocStampsSaid : Prop := allocStampsRow.holds Try.pinned (OpenSpec.ofChange allocStampsSpec)

/-- ITS FALSE NEIGHBOUR: 'it returns false'. Refute it at one input. -/
def allocStampsWrong : ChangeSpec := { name := "allocStamps", fn := fun _ => fun
  | [d] => { results := [.lit (.bool false)], args := [d] }
  | _ => none }
def AllocStampsWrongFalsely : Prop := allocStampsRow.holds Try.pinned (OpenSpec.ofChange allocStampsWrong)

/-- 'footlockerlaw08.AllocSteps': WHATEVER THE INPUT: true; the input reads as it did. -/
def allocStepsSpec : ChangeSpec := { name := "allocSteps", fn := fun _ => fun
  | [d] => { results := [.lit (.bool true)], args := [d] }
  | _ => none }
def allocStepsRow : OpenClaim := { program := "ythibiempfkcinaa", sum := "c0d0b41d46f7e43ce118d24b2ef897f8ba1ca926a838149499d65f9cea8c32d7", func := "footlocker/footlockerlaw08.AllocSteps", spec := "allocSteps", apart := false }
def AllocStepsSaid : Prop := allocStepsRow.holds Try.pinned (OpenSpec.ofChange allocStepsSpec)

/-- ITS FALSE NEIGHBOUR: 'it returns false'. Refute it at one input. -/
def allocStepsWrong : ChangeSpec := { name := "allocSteps", fn := fun _ => fun
  | [d] => { results := [.lit (.bool false)], args := [d] }
  | _ => none }
def AllocStepsWrongFalsely : Prop := allocStepsRow.holds Try.pinned (OpenSpec.ofChange allocStepsWrong)

/-- 'footlockerlaw08.AllocAlone': WHATEVER THE INPUT: true; the input reads as it did. -/
def allocAloneSpec : ChangeSpec := { name := "allocAlone", fn := fun _ => fun
  | [d1, d2, d3] => { results := [.lit (.bool true)], args := [d1, d2, d3] }
  | _ => none }
def allocAloneRow : OpenClaim := { program := "ythibiempfkcinaa", sum := "c0d0b41d46f7e43ce118d24b2ef897f8ba1ca926a838149499d65f9cea8c32d7", func := "footlocker/footlockerlaw08.AllocAlone", spec := "allocAlone", apart := false }
def AllocAloneSaid : Prop := allocAloneRow.holds Try.pinned (OpenSpec.ofChange allocAloneSpec)

/-- ITS FALSE NEIGHBOUR: 'it returns false'. Refute it at one input. -/
def allocAloneWrong : ChangeSpec := { name := "allocAlone", fn := fun _ => fun
  | [d1, d2, d3] => { results := [.lit (.bool false)], args := [d1, d2, d3] }
  | _ => none }
def AllocAloneWrongFalsely : Prop := allocAloneRow.holds Try.pinned (OpenSpec.ofChange allocAloneWrong)

/-- 'footlockerlaw08.AllocShares': WHATEVER THE INPUT: true; the input reads as it did. -/
def allocSharesSpec : ChangeSpec := { name := "allocShares", fn := fun _ => fun
  | [d1, d2, d3] => { results := [.lit (.bool true)], args := [d1, d2, d3] }
  | _ => none }
def allocSharesRow : OpenClaim := { program := "ythibiempfkcinaa", sum := "c0d0b41d46f7e43ce118d24b2ef897f8ba1ca926a838149499d65f9cea8c32d7", func := "footlocker/footlockerlaw08.AllocShares", spec := "allocShares", apart := false }
def AllocSharesSaid : Prop := allocSharesRow.holds Try.pinned (OpenSpec.ofChange allocSharesSpec)

/-- ITS FALSE NEIGHBOUR: 'it returns false'. Refute it at one input. -/
def allocSharesWrong : ChangeSpec := { name := "allocShares", fn := fun _ => fun
  | [d1, d2, d3] => { results := [.lit (.bool false)], args := [d1, d2, d3] }
  | _ => none }
def AllocSharesWrongFalsely : Prop := allocSharesRow.holds Try.pinned (OpenSpec.ofChange allocSharesWrong)

/- THE SECOND FORM. 'bulk': how many values and letters a reading holds, each counted each time it is reached (what is shared counts as often as it is met; a slice's spare places count too). A statement '..UptoSaid' is the law's where the arguments, and the package variables that the reading takes, are together of bulk at most 1048576: NARROWER than '..Said'. Prove '..Said' where nothing that the law and all that it calls make is longer than what came in: it says more and counts as full. Else prove '..UptoSaid'. A law counts once. -/
mutual
def uptoBulk {H : Type} : DataW H → Nat
  | .lit (.string bytes) => bytes.length + 1
  | .lit _ => 1
  | .nil => 1
  | .ptr d => uptoBulk d + 1
  | .slice elems spare => uptoBulkAll elems + uptoBulkAll spare + 1
  | .agg parts => uptoBulkAll parts + 1
  | .iface _ d => uptoBulk d + 1
  | .map entries => uptoBulkEntries entries + 1
  | .held _ => 1
def uptoBulkAll {H : Type} : List (DataW H) → Nat
  | [] => 0
  | d :: r => uptoBulk d + uptoBulkAll r
def uptoBulkEntries {H : Type} : List (Lit × DataW H) → Nat
  | [] => 0
  | x :: r => uptoBulkEntry x + uptoBulkEntries r
def uptoBulkEntry {H : Type} : Lit × DataW H → Nat
  | (.string bytes, d) => bytes.length + uptoBulk d + 1
  | (_, d) => uptoBulk d + 1
 end
def uptoSmall : (H : Type) → List (DataW H) → Bool := fun _ ds => decide (uptoBulkAll ds ≤ 1048576)
def OpenSpec.upto (s : _root_.Go.ChangeSpec) : _root_.Go.OpenSpec := { _root_.Go.OpenSpec.ofChange s with cond := some uptoSmall }

/-- 'footlockerlaw07.PlaceAlone', WHERE WHAT IT READS IS OF BULK AT MOST 1048576: true; the input reads as it did. -/
def placeAloneUptoRow : OpenClaim := { program := "ythibiempfkcinaa", sum := "c0d0b41d46f7e43ce118d24b2ef897f8ba1ca926a838149499d65f9cea8c32d7", func := "footlocker/footlockerlaw07.PlaceAlone", spec := "placeAlone", apart := false, narrowed := true }
def PlaceAloneUptoSaid : Prop := placeAloneUptoRow.holds Try.pinned (OpenSpec.upto placeAloneSpec)

/-- 'footlockerlaw07.PlaceLeaves', WHERE WHAT IT READS IS OF BULK AT MOST 1048576: true; the input reads as it did. -/
def placeLeavesUptoRow : OpenClaim := { program := "ythibiempfkcinaa", sum := "c0d0b41d46f7e43ce118d24b2ef897f8ba1ca926a838149499d65f9cea8c32d7", func := "footlocker/footlockerlaw07.PlaceLeaves", spec := "placeLeaves", apart := false, narrowed := true }
def PlaceLeavesUptoSaid : Prop := placeLeavesUptoRow.holds Try.pinned (OpenSpec.upto placeLeavesSpec)

/-- 'footlockerlaw07.PlaceClean', WHERE WHAT IT READS IS OF BULK AT MOST 1048576: true; the input reads as it did. -/
def placeCleanUptoRow : OpenClaim := { program := "ythibiempfkcinaa", sum := "c0d0b41d46f7e43ce118d24b2ef897f8ba1ca926a838149499d65f9cea8c32d7", func := "footlocker/footlockerlaw07.PlaceClean", spec := "placeClean", apart := false, narrowed := true }
def PlaceCleanUptoSaid : Prop := placeCleanUptoRow.holds Try.pinned (OpenSpec.upto placeCleanSpec)

/-- 'footlockerlaw07.PlaceShares', WHERE WHAT IT READS IS OF BULK AT MOST 1048576: true; the input reads as it did. -/
def placeSharesUptoRow : OpenClaim := { program := "ythibiempfkcinaa", sum := "c0d0b41d46f7e43ce118d24b2ef897f8ba1ca926a838149499d65f9cea8c32d7", func := "footlocker/footlockerlaw07.PlaceShares", spec := "placeShares", apart := false, narrowed := true }
def PlaceSharesUptoSaid : Prop := placeSharesUptoRow.holds Try.pinned (OpenSpec.upto placeSharesSpec)

/-- 'footlockerlaw07.PlaceSteps', WHERE WHAT IT READS IS OF BULK AT MOST 1048576: true; the input reads as it did. -/
def placeStepsUptoRow : OpenClaim := { program := "ythibiempfkcinaa", sum := "c0d0b41d46f7e43ce118d24b2ef897f8ba1ca926a838149499d65f9cea8c32d7", func := "footlocker/footlockerlaw07.PlaceSteps", spec := "placeSteps", apart := false, narrowed := true }
def PlaceStepsUptoSaid : Prop := placeStepsUptoRow.holds Try.pinned (OpenSpec.upto placeStepsSpec)

/-- 'footlockerlaw08.AllocGives', WHERE WHAT IT READS IS OF BULK AT MOST 1048576: true; the input reads as it did. -/
def allocGivesUptoRow : OpenClaim := { program := "ythibiempfkcinaa", sum := "c0d0b41d46f7e43ce118d24b2ef897f8ba1ca926a838149499d65f9cea8c32d7", func := "footlocker/footlockerlaw08.AllocGives", spec := "allocGives", apart := false, narrowed := true }
def AllocGivesUptoSaid : Prop := allocGivesUptoRow.holds Try.pinned (OpenSpec.upto allocGivesSpec)

/-- 'footlockerlaw08.AllocStamps', WHERE WHAT IT READS IS OF BULK AT MOST 1048576: true; the input reads as it did. -/
def allocStampsUptoRow : OpenClaim := { program := "ythibiempfkcinaa", sum := "c0d0b41d46f7e43ce118d24b2ef897f8ba1ca926a838149499d65f9cea8c32d7", func := "footlocker/footlockerlaw08.AllocStamps", spec := "allocStamps", apart := false, narrowed := true }
def AllocStampsUptoSaid : Prop := allocStampsUptoRow.holds Try.pinned (OpenSpec.upto allocStampsSpec)

/-- 'footlockerlaw08.AllocSteps', WHERE WHAT IT READS IS OF BULK AT MOST 1048576: true; the input reads as it did. -/
def allocStepsUptoRow : OpenClaim := { program := "ythibiempfkcinaa", sum := "c0d0b41d46f7e43ce118d24b2ef897f8ba1ca926a838149499d65f9cea8c32d7", func := "footlocker/footlockerlaw08.AllocSteps", spec := "allocSteps", apart := false, narrowed := true }
def AllocStepsUptoSaid : Prop := allocStepsUptoRow.holds Try.pinned (OpenSpec.upto allocStepsSpec)

/-- 'footlockerlaw08.AllocAlone', WHERE WHAT IT READS IS OF BULK AT MOST 1048576: true; the input reads as it did. -/
def allocAloneUptoRow : OpenClaim := { program := "ythibiempfkcinaa", sum := "c0d0b41d46f7e43ce118d24b2ef897f8ba1ca926a838149499d65f9cea8c32d7", func := "footlocker/footlockerlaw08.AllocAlone", spec := "allocAlone", apart := false, narrowed := true }
def AllocAloneUptoSaid : Prop := allocAloneUptoRow.holds Try.pinned (OpenSpec.upto allocAloneSpec)

/-- 'footlockerlaw08.AllocShares', WHERE WHAT IT READS IS OF BULK AT MOST 1048576: true; the input reads as it did. -/
def allocSharesUptoRow : OpenClaim := { program := "ythibiempfkcinaa", sum := "c0d0b41d46f7e43ce118d24b2ef897f8ba1ca926a838149499d65f9cea8c32d7", func := "footlocker/footlockerlaw08.AllocShares", spec := "allocShares", apart := false, narrowed := true }
def AllocSharesUptoSaid : Prop := allocSharesUptoRow.holds Try.pinned (OpenSpec.upto allocSharesSpec)

end Rows
end Go.Proofs.Ythibiempfkcinaa
