/-
  No cell of these rows narrows 'for every input' (looked for: loops, veiled, ifaces, maps, wideKeys, modest, calm, conditions, laid).
  DERIVED. THE GIVEN ROWS OF THIS SEAT. 6 by the template 'for every input the law returns true; each argument reads behind the call as it read before'; 0 by the template 'total and deterministic' (their statements: YtedpfdkhebmocaaGreatTotals.lean).
  GIVEN WITH THE SEED: the statements are not yours to turn. If you find one false, say at which input.
  Laid BY PROGRAM, IN A SANDBOX (cutbox-rows.mjs): the forced cells as the released guide's own fill.sh prints them over the translation a92de1ff775f48c0… (all of the seat's roots in one cut). By AI agents, Wed Nov 11 2026. No macro, syntax, notation, axiom, sorry.
-/
import Derived.Test.YtedpfdkhebmocaaGreatChecked
import GoSem.Claim
import GoSem.ClaimJoined
import GoSem.ClaimMapViews
import Derived.JoinedTies
import Derived.KernelRfl
namespace Go.Proofs.YtedpfdkhebmocaaGreat
/- THE CELL 'sum', in the pinned program and in every row, IS THE sha256 OF THE DUMP (.gsa) THAT YtedpfdkhebmocaaGreatProg.lean LOADS. Nothing in Lean hashes anything: it is a label: what it is worth is what the hold of that sum in a sandbox is worth. -/
noncomputable def Tryz.pinned : Pinned := { name := "ytedpfdkhebmocaagreat", sum := "a92de1ff775f48c039c912dbc8792b04afb175deefa9bf78ba3c8d417978d2cd", checked := Tryz.checked }
namespace Rows
def none {H : Type} : Left H := { results := [], args := [] }

/-- 'footlockerlaw14.CompactStill': WHATEVER THE INPUT: true; the input reads as it did. -/
def compactStillSpec : ChangeSpec := { name := "compactStill", fn := fun _ => fun
  | [d1, d2] => { results := [.lit (.bool true)], args := [d1, d2] }
  | _ => none }
def compactStillRow : OpenClaim := { program := "ytedpfdkhebmocaagreat", sum := "a92de1ff775f48c039c912dbc8792b04afb175deefa9bf78ba3c8d417978d2cd", func := "footlocker/footlockerlaw14.CompactStill", spec := "compactStill", apart := false }
def CompactStillSaid : Prop := compactStillRow.holds Tryz.pinned (OpenSpec.ofChange compactStillSpec)

/-- ITS FALSE NEIGHBOUR: 'it returns false'. Refute it at one input. -/
def compactStillWrong : ChangeSpec := { name := "compactStill", fn := fun _ => fun
  | [d1, d2] => { results := [.lit (.bool false)], args := [d1, d2] }
  | _ => none }
def CompactStillWrongFalsely : Prop := compactStillRow.holds Tryz.pinned (OpenSpec.ofChange compactStillWrong)

/-- 'footlockerlaw14.CompactSteps': WHATEVER THE INPUT: true; the input reads as it did. -/
def compactStepsSpec : ChangeSpec := { name := "compactSteps", fn := fun _ => fun
  | [d1, d2, d3] => { results := [.lit (.bool true)], args := [d1, d2, d3] }
  | _ => none }
def compactStepsRow : OpenClaim := { program := "ytedpfdkhebmocaagreat", sum := "a92de1ff775f48c039c912dbc8792b04afb175deefa9bf78ba3c8d417978d2cd", func := "footlocker/footlockerlaw14.CompactSteps", spec := "compactSteps", apart := false }
def CompactStepsSaid : Prop := compactStepsRow.holds Tryz.pinned (OpenSpec.ofChange compactStepsSpec)

/-- ITS FALSE NEIGHBOUR: 'it returns false'. Refute it at one input. -/
def compactStepsWrong : ChangeSpec := { name := "compactSteps", fn := fun _ => fun
  | [d1, d2, d3] => { results := [.lit (.bool false)], args := [d1, d2, d3] }
  | _ => none }
def CompactStepsWrongFalsely : Prop := compactStepsRow.holds Tryz.pinned (OpenSpec.ofChange compactStepsWrong)

/-- 'footlockerlaw14.CompactPinned': WHATEVER THE INPUT: true; the input reads as it did. -/
def compactPinnedSpec : ChangeSpec := { name := "compactPinned", fn := fun _ => fun
  | [d1, d2] => { results := [.lit (.bool true)], args := [d1, d2] }
  | _ => none }
def compactPinnedRow : OpenClaim := { program := "ytedpfdkhebmocaagreat", sum := "a92de1ff775f48c039c912dbc8792b04afb175deefa9bf78ba3c8d417978d2cd", func := "footlocker/footlockerlaw14.CompactPinned", spec := "compactPinned", apart := false }
def CompactPinnedSaid : Prop := compactPinnedRow.holds Tryz.pinned (OpenSpec.ofChange compactPinnedSpec)

/-- ITS FALSE NEIGHBOUR: 'it returns false'. Refute it at one input. -/
def compactPinnedWrong : ChangeSpec := { name := "compactPinned", fn := fun _ => fun
  | [d1, d2] => { results := [.lit (.bool false)], args := [d1, d2] }
  | _ => none }
def CompactPinnedWrongFalsely : Prop := compactPinnedRow.holds Tryz.pinned (OpenSpec.ofChange compactPinnedWrong)

/-- 'footlockerlaw14.CompactKeeps': WHATEVER THE INPUT: true; the input reads as it did. -/
def compactKeepsSpec : ChangeSpec := { name := "compactKeeps", fn := fun _ => fun
  | [d1, d2, d3] => { results := [.lit (.bool true)], args := [d1, d2, d3] }
  | _ => none }
def compactKeepsRow : OpenClaim := { program := "ytedpfdkhebmocaagreat", sum := "a92de1ff775f48c039c912dbc8792b04afb175deefa9bf78ba3c8d417978d2cd", func := "footlocker/footlockerlaw14.CompactKeeps", spec := "compactKeeps", apart := false }
def CompactKeepsSaid : Prop := compactKeepsRow.holds Tryz.pinned (OpenSpec.ofChange compactKeepsSpec)

/-- ITS FALSE NEIGHBOUR: 'it returns false'. Refute it at one input. -/
def compactKeepsWrong : ChangeSpec := { name := "compactKeeps", fn := fun _ => fun
  | [d1, d2, d3] => { results := [.lit (.bool false)], args := [d1, d2, d3] }
  | _ => none }
def CompactKeepsWrongFalsely : Prop := compactKeepsRow.holds Tryz.pinned (OpenSpec.ofChange compactKeepsWrong)

/-- 'footlockerlaw14.CompactPending': WHATEVER THE INPUT: true; the input reads as it did. -/
def compactPendingSpec : ChangeSpec := { name := "compactPending", fn := fun _ => fun
  | [d1, d2, d3] => { results := [.lit (.bool true)], args := [d1, d2, d3] }
  | _ => none }
def compactPendingRow : OpenClaim := { program := "ytedpfdkhebmocaagreat", sum := "a92de1ff775f48c039c912dbc8792b04afb175deefa9bf78ba3c8d417978d2cd", func := "footlocker/footlockerlaw14.CompactPending", spec := "compactPending", apart := false }
def CompactPendingSaid : Prop := compactPendingRow.holds Tryz.pinned (OpenSpec.ofChange compactPendingSpec)

/-- ITS FALSE NEIGHBOUR: 'it returns false'. Refute it at one input. -/
def compactPendingWrong : ChangeSpec := { name := "compactPending", fn := fun _ => fun
  | [d1, d2, d3] => { results := [.lit (.bool false)], args := [d1, d2, d3] }
  | _ => none }
def CompactPendingWrongFalsely : Prop := compactPendingRow.holds Tryz.pinned (OpenSpec.ofChange compactPendingWrong)

/-- 'footlockerlaw14.CompactWrites': WHATEVER THE INPUT: true; the input reads as it did. -/
def compactWritesSpec : ChangeSpec := { name := "compactWrites", fn := fun _ => fun
  | [d1, d2, d3] => { results := [.lit (.bool true)], args := [d1, d2, d3] }
  | _ => none }
def compactWritesRow : OpenClaim := { program := "ytedpfdkhebmocaagreat", sum := "a92de1ff775f48c039c912dbc8792b04afb175deefa9bf78ba3c8d417978d2cd", func := "footlocker/footlockerlaw14.CompactWrites", spec := "compactWrites", apart := false }
def CompactWritesSaid : Prop := compactWritesRow.holds Tryz.pinned (OpenSpec.ofChange compactWritesSpec)

/-- ITS FALSE NEIGHBOUR: 'it returns false'. Refute it at one input. -/
def compactWritesWrong : ChangeSpec := { name := "compactWrites", fn := fun _ => fun
  | [d1, d2, d3] => { results := [.lit (.bool false)], args := [d1, d2, d3] }
  | _ => none }
def CompactWritesWrongFalsely : Prop := compactWritesRow.holds Tryz.pinned (OpenSpec.ofChange compactWritesWrong)

/- THE SECOND FORM. 'bulk': how many values and letters a reading holds, each counted each time it is reached (what is shared counts as often as it is met; a slice's spare places count too). A statement '..UptoSaid' is the law's where the arguments, and the package variables that the reading takes, are together of bulk at most 1048576: NARROWER than '..Said'. Prove '..Said' where nothing that the law and all that it calls make is longer than what came in: it says more and counts as full. Else prove '..UptoSaid'. A law counts once. -/
mutual
def uptoBulk {H : Type} : DataW H → Nat
  | .lit (.string bytes) => bytes.length + 1
  | .lit _ => 1
  | .nil => 1
  | .ptr d => uptoBulk d + 1
  | .slice elems spare => uptoBulkAll elems + uptoBulkAll spare + 1
  | .agg parts => uptoBulkAll parts + 1
  | .iface _ d => uptoBulk d + 1
  | .map entries => uptoBulkEntries entries + 1
  | .held _ => 1
def uptoBulkAll {H : Type} : List (DataW H) → Nat
  | [] => 0
  | d :: r => uptoBulk d + uptoBulkAll r
def uptoBulkEntries {H : Type} : List (Lit × DataW H) → Nat
  | [] => 0
  | x :: r => uptoBulkEntry x + uptoBulkEntries r
def uptoBulkEntry {H : Type} : Lit × DataW H → Nat
  | (.string bytes, d) => bytes.length + uptoBulk d + 1
  | (_, d) => uptoBulk d + 1
 end
def uptoSmall : (H : Type) → List (DataW H) → Bool := fun _ ds => decide (uptoBulkAll ds ≤ 1048576)
def OpenSpec.upto (s : _root_.Go.ChangeSpec) : _root_.Go.OpenSpec := { _root_.Go.OpenSpec.ofChange s with cond := some uptoSmall }

/-- 'footlockerlaw14.CompactStill', WHERE WHAT IT READS IS OF BULK AT MOST 1048576: true; the input reads as it did. -/
def compactStillUptoRow : OpenClaim := { program := "ytedpfdkhebmocaagreat", sum := "a92de1ff775f48c039c912dbc8792b04afb175deefa9bf78ba3c8d417978d2cd", func := "footlocker/footlockerlaw14.CompactStill", spec := "compactStill", apart := false, narrowed := true }
def CompactStillUptoSaid : Prop := compactStillUptoRow.holds Tryz.pinned (OpenSpec.upto compactStillSpec)

/-- 'footlockerlaw14.CompactSteps', WHERE WHAT IT READS IS OF BULK AT MOST 1048576: true; the input reads as it did. -/
def compactStepsUptoRow : OpenClaim := { program := "ytedpfdkhebmocaagreat", sum := "a92de1ff775f48c039c912dbc8792b04afb175deefa9bf78ba3c8d417978d2cd", func := "footlocker/footlockerlaw14.CompactSteps", spec := "compactSteps", apart := false, narrowed := true }
def CompactStepsUptoSaid : Prop := compactStepsUptoRow.holds Tryz.pinned (OpenSpec.upto compactStepsSpec)

/-- 'footlockerlaw14.CompactPinned', WHERE WHAT IT READS IS OF BULK AT MOST 1048576: true; the input reads as it did. -/
def compactPinnedUptoRow : OpenClaim := { program := "ytedpfdkhebmocaagreat", sum := "a92de1ff775f48c039c912dbc8792b04afb175deefa9bf78ba3c8d417978d2cd", func := "footlocker/footlockerlaw14.CompactPinned", spec := "compactPinned", apart := false, narrowed := true }
def CompactPinnedUptoSaid : Prop := compactPinnedUptoRow.holds Tryz.pinned (OpenSpec.upto compactPinnedSpec)

/-- 'footlockerlaw14.CompactKeeps', WHERE WHAT IT READS IS OF BULK AT MOST 1048576: true; the input reads as it did. -/
def compactKeepsUptoRow : OpenClaim := { program := "ytedpfdkhebmocaagreat", sum := "a92de1ff775f48c039c912dbc8792b04afb175deefa9bf78ba3c8d417978d2cd", func := "footlocker/footlockerlaw14.CompactKeeps", spec := "compactKeeps", apart := false, narrowed := true }
def CompactKeepsUptoSaid : Prop := compactKeepsUptoRow.holds Tryz.pinned (OpenSpec.upto compactKeepsSpec)

/-- 'footlockerlaw14.CompactPending', WHERE WHAT IT READS IS OF BULK AT MOST 1048576: true; the input reads as it did. -/
def compactPendingUptoRow : OpenClaim := { program := "ytedpfdkhebmocaagreat", sum := "a92de1ff775f48c039c912dbc8792b04afb175deefa9bf78ba3c8d417978d2cd", func := "footlocker/footlockerlaw14.CompactPending", spec := "compactPending", apart := false, narrowed := true }
def CompactPendingUptoSaid : Prop := compactPendingUptoRow.holds Tryz.pinned (OpenSpec.upto compactPendingSpec)

/-- 'footlockerlaw14.CompactWrites', WHERE WHAT IT READS IS OF BULK AT MOST 1048576: true; the input reads as it did. -/
def compactWritesUptoRow : OpenClaim := { program := "ytedpfdkhebmocaagreat", sum := "a92de1ff775f48c039c912dbc8792b04afb175deefa9bf78ba3c8d417978d2cd", func := "footlocker/footlockerlaw14.CompactWrites", spec := "compactWrites", apart := false, narrowed := true }
def CompactWritesUptoSaid : Prop := compactWritesUptoRow.holds Tryz.pinned (OpenSpec.upto compactWritesSpec)

end Rows
end Go.Proofs.YtedpfdkhebmocaaGreat
