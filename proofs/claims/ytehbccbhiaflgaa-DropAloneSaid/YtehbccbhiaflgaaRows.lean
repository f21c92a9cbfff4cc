/-
  No cell of these rows narrows 'for every input' (looked for: loops, veiled, ifaces, maps, wideKeys, modest, calm, conditions, laid).
  DERIVED. THE GIVEN ROWS OF THIS SEAT. 8 by the template 'for every input the law returns true; each argument reads behind the call as it read before'; 0 by the template 'total and deterministic' (their statements: YtehbccbhiaflgaaTotals.lean).
  GIVEN WITH THE SEED: the statements are not yours to turn. If you find one false, say at which input.
  Laid BY PROGRAM, IN A SANDBOX (cutbox-rows.mjs): the forced cells as the released guide's own fill.sh prints them over the translation eaf9336a6dca4003… (all of the seat's roots in one cut). By AI agents, Wed Nov 11 2026. No macro, syntax, notation, axiom, sorry.
-/
import Derived.Test.YtehbccbhiaflgaaChecked
import GoSem.Claim
import GoSem.ClaimJoined
import GoSem.ClaimMapViews
import Derived.JoinedTies
import Derived.KernelRfl
namespace Go.Proofs.Ytehbccbhiaflgaa
/- THE CELL 'sum', in the pinned program and in every row, IS THE sha256 OF THE DUMP (.gsa) THAT YtehbccbhiaflgaaProg.lean LOADS. Nothing in Lean hashes anything: it is a label: what it is worth is what the hold of that sum in a sandbox is worth. -/
noncomputable def Try.pinned : Pinned := { name := "ytehbccbhiaflgaa", sum := "eaf9336a6dca4003e1f52ba8b453218d0220200daabfd7fae59ff26f1600d786", checked := Try.checked }
namespace Rows
def none {H : Type} : Left H := { results := [], args := [] }

/-- 'footlockerlaw09.DropOnce': WHATEVER THE INPUT: true; the input reads as it did. -/
def dropOnceSpec : ChangeSpec := { name := "dropOnce", fn := fun _ => fun
  | [d1, d2] => { results := [.lit (.bool true)], args := [d1, d2] }
  | _ => none }
def dropOnceRow : OpenClaim := { program := "ytehbccbhiaflgaa", sum := "eaf9336a6dca4003e1f52ba8b453218d0220200daabfd7fae59ff26f1600d786", func := "footlocker/footlockerlaw09.DropOnce", spec := "dropOnce", apart := false }
def DropOnceSaid : Prop := dropOnceRow.holds Try.pinned (OpenSpec.ofChange dropOnceSpec)

/-- ITS FALSE NEIGHBOUR: 'it returns false'. Refute it at one input. -/
def dropOnceWrong : ChangeSpec := { name := "dropOnce", fn := fun _ => fun
  | [d1, d2] => { results := [.lit (.bool false)], args := [d1, d2] }
  | _ => none }
def DropOnceWrongFalsely : Prop := dropOnceRow.holds Try.pinned (OpenSpec.ofChange dropOnceWrong)

/-- 'footlockerlaw09.DropLive': WHATEVER THE INPUT: true; the input reads as it did. -/
def dropLiveSpec : ChangeSpec := { name := "dropLive", fn := fun _ => fun
  | [d1, d2] => { results := [.lit (.bool true)], args := [d1, d2] }
  | _ => none }
def dropLiveRow : OpenClaim := { program := "ytehbccbhiaflgaa", sum := "eaf9336a6dca4003e1f52ba8b453218d0220200daabfd7fae59ff26f1600d786", func := "footlocker/footlockerlaw09.DropLive", spec := "dropLive", apart := false }
def DropLiveSaid : Prop := dropLiveRow.holds Try.pinned (OpenSpec.ofChange dropLiveSpec)

/-- ITS FALSE NEIGHBOUR: 'it returns false'. Refute it at one input. -/
def dropLiveWrong : ChangeSpec := { name := "dropLive", fn := fun _ => fun
  | [d1, d2] => { results := [.lit (.bool false)], args := [d1, d2] }
  | _ => none }
def DropLiveWrongFalsely : Prop := dropLiveRow.holds Try.pinned (OpenSpec.ofChange dropLiveWrong)

/-- 'footlockerlaw09.DropAlone': WHATEVER THE INPUT: true; the input reads as it did. -/
def dropAloneSpec : ChangeSpec := { name := "dropAlone", fn := fun _ => fun
  | [d] => { results := [.lit (.bool true)], args := [d] }
  | _ => none }
def dropAloneRow : OpenClaim := { program := "ytehbccbhiaflgaa", sum := "eaf9336a6dca4003e1f52ba8b453218d0220200daabfd7fae59ff26f1600d786", func := "footlocker/footlockerlaw09.DropAlone", spec := "dropAlone", apart := false }
def DropAloneSaid : Prop := dropAloneRow.holds Try.pinned (OpenSpec.ofChange dropAloneSpec)

/-- ITS FALSE NEIGHBOUR: 'it returns false'. Refute it at one input. -/
def dropAloneWrong : ChangeSpec := { name := "dropAlone", fn := fun _ => fun
  | [d] => { results := [.lit (.bool false)], args := [d] }
  | _ => none }
def DropAloneWrongFalsely : Prop := dropAloneRow.holds Try.pinned (OpenSpec.ofChange dropAloneWrong)

/-- 'footlockerlaw09.DropRetires': WHATEVER THE INPUT: true; the input reads as it did. -/
def dropRetiresSpec : ChangeSpec := { name := "dropRetires", fn := fun _ => fun
  | [d] => { results := [.lit (.bool true)], args := [d] }
  | _ => none }
def dropRetiresRow : OpenClaim := { program := "ytehbccbhiaflgaa", sum := "eaf9336a6dca4003e1f52ba8b453218d0220200daabfd7fae59ff26f1600d786", func := "footlocker/footlockerlaw09.DropRetires", spec := "dropRetires", apart := false }
def DropRetiresSaid : Prop := dropRetiresRow.holds Try.pinned (OpenSpec.ofChange dropRetiresSpec)

/-- ITS FALSE NEIGHBOUR: 'it returns false'. Refute it at one input. -/
def dropRetiresWrong : ChangeSpec := { name := "dropRetires", fn := fun _ => fun
  | [d] => { results := [.lit (.bool false)], args := [d] }
  | _ => none }
def DropRetiresWrongFalsely : Prop := dropRetiresRow.holds Try.pinned (OpenSpec.ofChange dropRetiresWrong)

/-- 'footlockerlaw09.DropMoving': WHATEVER THE INPUT: true; the input reads as it did. -/
def dropMovingSpec : ChangeSpec := { name := "dropMoving", fn := fun _ => fun
  | [d1, d2] => { results := [.lit (.bool true)], args := [d1, d2] }
  | _ => none }
def dropMovingRow : OpenClaim := { program := "ytehbccbhiaflgaa", sum := "eaf9336a6dca4003e1f52ba8b453218d0220200daabfd7fae59ff26f1600d786", func := "footlocker/footlockerlaw09.DropMoving", spec := "dropMoving", apart := false }
def DropMovingSaid : Prop := dropMovingRow.holds Try.pinned (OpenSpec.ofChange dropMovingSpec)

/-- ITS FALSE NEIGHBOUR: 'it returns false'. Refute it at one input. -/
def dropMovingWrong : ChangeSpec := { name := "dropMoving", fn := fun _ => fun
  | [d1, d2] => { results := [.lit (.bool false)], args := [d1, d2] }
  | _ => none }
def DropMovingWrongFalsely : Prop := dropMovingRow.holds Try.pinned (OpenSpec.ofChange dropMovingWrong)

/-- 'footlockerlaw09.DropHelps': WHATEVER THE INPUT: true; the input reads as it did. -/
def dropHelpsSpec : ChangeSpec := { name := "dropHelps", fn := fun _ => fun
  | [d1, d2] => { results := [.lit (.bool true)], args := [d1, d2] }
  | _ => none }
def dropHelpsRow : OpenClaim := { program := "ytehbccbhiaflgaa", sum := "eaf9336a6dca4003e1f52ba8b453218d0220200daabfd7fae59ff26f1600d786", func := "footlocker/footlockerlaw09.DropHelps", spec := "dropHelps", apart := false }
def DropHelpsSaid : Prop := dropHelpsRow.holds Try.pinned (OpenSpec.ofChange dropHelpsSpec)

/-- ITS FALSE NEIGHBOUR: 'it returns false'. Refute it at one input. -/
def dropHelpsWrong : ChangeSpec := { name := "dropHelps", fn := fun _ => fun
  | [d1, d2] => { results := [.lit (.bool false)], args := [d1, d2] }
  | _ => none }
def DropHelpsWrongFalsely : Prop := dropHelpsRow.holds Try.pinned (OpenSpec.ofChange dropHelpsWrong)

/-- 'footlockerlaw09.DropForged': WHATEVER THE INPUT: true; the input reads as it did. -/
def dropForgedSpec : ChangeSpec := { name := "dropForged", fn := fun _ => fun
  | [d1, d2, d3] => { results := [.lit (.bool true)], args := [d1, d2, d3] }
  | _ => none }
def dropForgedRow : OpenClaim := { program := "ytehbccbhiaflgaa", sum := "eaf9336a6dca4003e1f52ba8b453218d0220200daabfd7fae59ff26f1600d786", func := "footlocker/footlockerlaw09.DropForged", spec := "dropForged", apart := false }
def DropForgedSaid : Prop := dropForgedRow.holds Try.pinned (OpenSpec.ofChange dropForgedSpec)

/-- ITS FALSE NEIGHBOUR: 'it returns false'. Refute it at one input. -/
def dropForgedWrong : ChangeSpec := { name := "dropForged", fn := fun _ => fun
  | [d1, d2, d3] => { results := [.lit (.bool false)], args := [d1, d2, d3] }
  | _ => none }
def DropForgedWrongFalsely : Prop := dropForgedRow.holds Try.pinned (OpenSpec.ofChange dropForgedWrong)

/-- 'footlockerlaw09.DropSteps': WHATEVER THE INPUT: true; the input reads as it did. -/
def dropStepsSpec : ChangeSpec := { name := "dropSteps", fn := fun _ => fun
  | [d] => { results := [.lit (.bool true)], args := [d] }
  | _ => none }
def dropStepsRow : OpenClaim := { program := "ytehbccbhiaflgaa", sum := "eaf9336a6dca4003e1f52ba8b453218d0220200daabfd7fae59ff26f1600d786", func := "footlocker/footlockerlaw09.DropSteps", spec := "dropSteps", apart := false }
def DropStepsSaid : Prop := dropStepsRow.holds Try.pinned (OpenSpec.ofChange dropStepsSpec)

/-- ITS FALSE NEIGHBOUR: 'it returns false'. Refute it at one input. -/
def dropStepsWrong : ChangeSpec := { name := "dropSteps", fn := fun _ => fun
  | [d] => { results := [.lit (.bool false)], args := [d] }
  | _ => none }
def DropStepsWrongFalsely : Prop := dropStepsRow.holds Try.pinned (OpenSpec.ofChange dropStepsWrong)

/- THE SECOND FORM. 'bulk': how many values and letters a reading holds, each counted each time it is reached (what is shared counts as often as it is met; a slice's spare places count too). A statement '..UptoSaid' is the law's where the arguments, and the package variables that the reading takes, are together of bulk at most 1048576: NARROWER than '..Said'. Prove '..Said' where nothing that the law and all that it calls make is longer than what came in: it says more and counts as full. Else prove '..UptoSaid'. A law counts once. -/
mutual
def uptoBulk {H : Type} : DataW H → Nat
  | .lit (.string bytes) => bytes.length + 1
  | .lit _ => 1
  | .nil => 1
  | .ptr d => uptoBulk d + 1
  | .slice elems spare => uptoBulkAll elems + uptoBulkAll spare + 1
  | .agg parts => uptoBulkAll parts + 1
  | .iface _ d => uptoBulk d + 1
  | .map entries => uptoBulkEntries entries + 1
  | .held _ => 1
def uptoBulkAll {H : Type} : List (DataW H) → Nat
  | [] => 0
  | d :: r => uptoBulk d + uptoBulkAll r
def uptoBulkEntries {H : Type} : List (Lit × DataW H) → Nat
  | [] => 0
  | x :: r => uptoBulkEntry x + uptoBulkEntries r
def uptoBulkEntry {H : Type} : Lit × DataW H → Nat
  | (.string bytes, d) => bytes.length + uptoBulk d + 1
  | (_, d) => uptoBulk d + 1
 end
def uptoSmall : (H : Type) → List (DataW H) → Bool := fun _ ds => decide (uptoBulkAll ds ≤ 1048576)
def OpenSpec.upto (s : _root_.Go.ChangeSpec) : _root_.Go.OpenSpec := { _root_.Go.OpenSpec.ofChange s with cond := some uptoSmall }

/-- 'footlockerlaw09.DropOnce', WHERE WHAT IT READS IS OF BULK AT MOST 1048576: true; the input reads as it did. -/
def dropOnceUptoRow : OpenClaim := { program := "ytehbccbhiaflgaa", sum := "eaf9336a6dca4003e1f52ba8b453218d0220200daabfd7fae59ff26f1600d786", func := "footlocker/footlockerlaw09.DropOnce", spec := "dropOnce", apart := false, narrowed := true }
def DropOnceUptoSaid : Prop := dropOnceUptoRow.holds Try.pinned (OpenSpec.upto dropOnceSpec)

/-- 'footlockerlaw09.DropLive', WHERE WHAT IT READS IS OF BULK AT MOST 1048576: true; the input reads as it did. -/
def dropLiveUptoRow : OpenClaim := { program := "ytehbccbhiaflgaa", sum := "eaf9336a6dca4003e1f52ba8b453218d0220200daabfd7fae59ff26f1600d786", func := "footlocker/footlockerlaw09.DropLive", spec := "dropLive", apart := false, narrowed := true }
def DropLiveUptoSaid : Prop := dropLiveUptoRow.holds Try.pinned (OpenSpec.upto dropLiveSpec)

/-- 'footlockerlaw09.DropAlone', WHERE WHAT IT READS IS OF BULK AT MOST 1048576: true; the input reads as it did. -/
def dropAloneUptoRow : OpenClaim := { program := "ytehbccbhiaflgaa", sum := "eaf9336a6dca4003e1f52ba8b453218d0220200daabfd7fae59ff26f1600d786", func := "footlocker/footlockerlaw09.DropAlone", spec := "dropAlone", apart := false, narrowed := true }
def DropAloneUptoSaid : Prop := dropAloneUptoRow.holds Try.pinned (OpenSpec.upto dropAloneSpec)

/-- 'footlockerlaw09.DropRetires', WHERE WHAT IT READS IS OF BULK AT MOST 1048576: true; the input reads as it did. -/
def dropRetiresUptoRow : OpenClaim := { program := "ytehbccbhiaflgaa", sum := "eaf9336a6dca4003e1f52ba8b453218d0220200daabfd7fae59ff26f1600d786", func := "footlocker/footlockerlaw09.DropRetires", spec := "dropRetires", apart := false, narrowed := true }
def DropRetiresUptoSaid : Prop := dropRetiresUptoRow.holds Try.pinned (OpenSpec.upto dropRetiresSpec)

/-- 'footlockerlaw09.DropMoving', WHERE WHAT IT READS IS OF BULK AT MOST 1048576: true; the input reads as it did. -/
def dropMovingUptoRow : OpenClaim := { program := "ytehbccbhiaflgaa", sum := "eaf9336a6dca4003e1f52ba8b453218d0220200daabfd7fae59ff26f1600d786", func := "footlocker/footlockerlaw09.DropMoving", spec := "dropMoving", apart := false, narrowed := true }
def DropMovingUptoSaid : Prop := dropMovingUptoRow.holds Try.pinned (OpenSpec.upto dropMovingSpec)

/-- 'footlockerlaw09.DropHelps', WHERE WHAT IT READS IS OF BULK AT MOST 1048576: true; the input reads as it did. -/
def dropHelpsUptoRow : OpenClaim := { program := "ytehbccbhiaflgaa", sum := "eaf9336a6dca4003e1f52ba8b453218d0220200daabfd7fae59ff26f1600d786", func := "footlocker/footlockerlaw09.DropHelps", spec := "dropHelps", apart := false, narrowed := true }
def DropHelpsUptoSaid : Prop := dropHelpsUptoRow.holds Try.pinned (OpenSpec.upto dropHelpsSpec)

/-- 'footlockerlaw09.DropForged', WHERE WHAT IT READS IS OF BULK AT MOST 1048576: true; the input reads as it did. -/
def dropForgedUptoRow : OpenClaim := { program := "ytehbccbhiaflgaa", sum := "eaf9336a6dca4003e1f52ba8b453218d0220200daabfd7fae59ff26f1600d786", func := "footlocker/footlockerlaw09.DropForged", spec := "dropForged", apart := false, narrowed := true }
def DropForgedUptoSaid : Prop := dropForgedUptoRow.holds Try.pinned (OpenSpec.upto dropForgedSpec)

/-- 'footlockerlaw09.DropSteps', WHERE WHAT IT READS IS OF BULK AT MOST 1048576: true; the input reads as it did. -/
def dropStepsUptoRow : OpenClaim := { program := "ytehbccbhiaflgaa", sum := "eaf9336a6dca4003e1f52ba8b453218d0220200daabfd7fae59ff26f1600d786", func := "footlocker/footlockerlaw09.DropSteps", spec := "dropSteps", apart := false, narrowed := true }
def DropStepsUptoSaid : Prop := dropStepsUptoRow.holds Try.pinned (OpenSpec.upto dropStepsSpec)

end Rows
end Go.Proofs.Ytehbccbhiaflgaa
