/-
  No cell of these rows narrows 'for every input' (looked for: loops, veiled, ifaces, maps, wideKeys, modest, calm, conditions, laid).
  DERIVED. THE GIVEN ROWS OF THIS SEAT. 8 by the template 'for every input the law returns true; each argument reads behind the call as it read before'; 0 by the template 'total and deterministic' (their statements: YtnigcfbenalehaaTotals.lean).
  GIVEN WITH THE SEED: the statements are not yours to turn. If you find one false, say at which input.
  Laid BY PROGRAM, IN A SANDBOX (cutbox-rows.mjs): the forced cells as the released guide's own fill.sh prints them over the translation b9eb5fa6732bcf88… (all of the seat's roots in one cut). By AI agents, Wed Nov 11 2026. No macro, syntax, notation, axiom, sorry.
-/
import Derived.Test.YtnigcfbenalehaaChecked
import GoSem.Claim
import GoSem.ClaimJoined
import GoSem.ClaimMapViews
import Derived.JoinedTies
import Derived.KernelRfl
namespace Go.Proofs.Ytnigcfbenalehaa
/- THE CELL 'sum', in the pinned program and in every row, IS THE sha256 OF THE DUMP (.gsa) THAT YtnigcfbenalehaaProg.lean LOADS. Nothing in Lean hashes anything: it is a label: what it is worth is what the hold of that sum in a sandbox is worth. -/
noncomputable def Try.pinned : Pinned := { name := "ytnigcfbenalehaa", sum := "b9eb5fa6732bcf88e8a226cfad477de3ccec50fe180730aa83d9f2fc1ba7c7ff", checked := Try.checked }
namespace Rows
def none {H : Type} : Left H := { results := [], args := [] }

/-- 'footlockerlaw11.MoveWrites': WHATEVER THE INPUT: true; the input reads as it did. -/
def moveWritesSpec : ChangeSpec := { name := "moveWrites", fn := fun _ => fun
  | [d1, d2, d3] => { results := [.lit (.bool true)], args := [d1, d2, d3] }
  | _ => none }
def moveWritesRow : OpenClaim := { program := "ytnigcfbenalehaa", sum := "b9eb5fa6732bcf88e8a226cfad477de3ccec50fe180730aa83d9f2fc1ba7c7ff", func := "footlocker/footlockerlaw11.MoveWrites", spec := "moveWrites", apart := false }
def MoveWritesSaid : Prop := moveWritesRow.holds Try.pinned (OpenSpec.ofChange moveWritesSpec)

/-- ITS FALSE NEIGHBOUR: 'it returns false'. Refute it at one input. -/
def moveWritesWrong : ChangeSpec := { name := "moveWrites", fn := fun _ => fun
  | [d1, d2, d3] => { results := [.lit (.bool false)], args := [d1, d2, d3] }
  | _ => none }
def MoveWritesWrongFalsely : Prop := moveWritesRow.holds Try.pinned (OpenSpec.ofChange moveWritesWrong)

/-- 'footlockerlaw11.MoveReads': WHATEVER THE INPUT: true; the input reads as it did. -/
def moveReadsSpec : ChangeSpec := { name := "moveReads", fn := fun _ => fun
  | [d1, d2, d3] => { results := [.lit (.bool true)], args := [d1, d2, d3] }
  | _ => none }
def moveReadsRow : OpenClaim := { program := "ytnigcfbenalehaa", sum := "b9eb5fa6732bcf88e8a226cfad477de3ccec50fe180730aa83d9f2fc1ba7c7ff", func := "footlocker/footlockerlaw11.MoveReads", spec := "moveReads", apart := false }
def MoveReadsSaid : Prop := moveReadsRow.holds Try.pinned (OpenSpec.ofChange moveReadsSpec)

/-- ITS FALSE NEIGHBOUR: 'it returns false'. Refute it at one input. -/
def moveReadsWrong : ChangeSpec := { name := "moveReads", fn := fun _ => fun
  | [d1, d2, d3] => { results := [.lit (.bool false)], args := [d1, d2, d3] }
  | _ => none }
def MoveReadsWrongFalsely : Prop := moveReadsRow.holds Try.pinned (OpenSpec.ofChange moveReadsWrong)

/-- 'footlockerlaw11.MoveAgain': WHATEVER THE INPUT: true; the input reads as it did. -/
def moveAgainSpec : ChangeSpec := { name := "moveAgain", fn := fun _ => fun
  | [d1, d2, d3] => { results := [.lit (.bool true)], args := [d1, d2, d3] }
  | _ => none }
def moveAgainRow : OpenClaim := { program := "ytnigcfbenalehaa", sum := "b9eb5fa6732bcf88e8a226cfad477de3ccec50fe180730aa83d9f2fc1ba7c7ff", func := "footlocker/footlockerlaw11.MoveAgain", spec := "moveAgain", apart := false }
def MoveAgainSaid : Prop := moveAgainRow.holds Try.pinned (OpenSpec.ofChange moveAgainSpec)

/-- ITS FALSE NEIGHBOUR: 'it returns false'. Refute it at one input. -/
def moveAgainWrong : ChangeSpec := { name := "moveAgain", fn := fun _ => fun
  | [d1, d2, d3] => { results := [.lit (.bool false)], args := [d1, d2, d3] }
  | _ => none }
def MoveAgainWrongFalsely : Prop := moveAgainRow.holds Try.pinned (OpenSpec.ofChange moveAgainWrong)

/-- 'footlockerlaw11.MoveVersions': WHATEVER THE INPUT: true; the input reads as it did. -/
def moveVersionsSpec : ChangeSpec := { name := "moveVersions", fn := fun _ => fun
  | [d1, d2] => { results := [.lit (.bool true)], args := [d1, d2] }
  | _ => none }
def moveVersionsRow : OpenClaim := { program := "ytnigcfbenalehaa", sum := "b9eb5fa6732bcf88e8a226cfad477de3ccec50fe180730aa83d9f2fc1ba7c7ff", func := "footlocker/footlockerlaw11.MoveVersions", spec := "moveVersions", apart := false }
def MoveVersionsSaid : Prop := moveVersionsRow.holds Try.pinned (OpenSpec.ofChange moveVersionsSpec)

/-- ITS FALSE NEIGHBOUR: 'it returns false'. Refute it at one input. -/
def moveVersionsWrong : ChangeSpec := { name := "moveVersions", fn := fun _ => fun
  | [d1, d2] => { results := [.lit (.bool false)], args := [d1, d2] }
  | _ => none }
def MoveVersionsWrongFalsely : Prop := moveVersionsRow.holds Try.pinned (OpenSpec.ofChange moveVersionsWrong)

/-- 'footlockerlaw11.MoveAlone': WHATEVER THE INPUT: true; the input reads as it did. -/
def moveAloneSpec : ChangeSpec := { name := "moveAlone", fn := fun _ => fun
  | [d1, d2] => { results := [.lit (.bool true)], args := [d1, d2] }
  | _ => none }
def moveAloneRow : OpenClaim := { program := "ytnigcfbenalehaa", sum := "b9eb5fa6732bcf88e8a226cfad477de3ccec50fe180730aa83d9f2fc1ba7c7ff", func := "footlocker/footlockerlaw11.MoveAlone", spec := "moveAlone", apart := false }
def MoveAloneSaid : Prop := moveAloneRow.holds Try.pinned (OpenSpec.ofChange moveAloneSpec)

/-- ITS FALSE NEIGHBOUR: 'it returns false'. Refute it at one input. -/
def moveAloneWrong : ChangeSpec := { name := "moveAlone", fn := fun _ => fun
  | [d1, d2] => { results := [.lit (.bool false)], args := [d1, d2] }
  | _ => none }
def MoveAloneWrongFalsely : Prop := moveAloneRow.holds Try.pinned (OpenSpec.ofChange moveAloneWrong)

/-- 'footlockerlaw11.MoveRoom': WHATEVER THE INPUT: true; the input reads as it did. -/
def moveRoomSpec : ChangeSpec := { name := "moveRoom", fn := fun _ => fun
  | [d1, d2, d3] => { results := [.lit (.bool true)], args := [d1, d2, d3] }
  | _ => none }
def moveRoomRow : OpenClaim := { program := "ytnigcfbenalehaa", sum := "b9eb5fa6732bcf88e8a226cfad477de3ccec50fe180730aa83d9f2fc1ba7c7ff", func := "footlocker/footlockerlaw11.MoveRoom", spec := "moveRoom", apart := false }
def MoveRoomSaid : Prop := moveRoomRow.holds Try.pinned (OpenSpec.ofChange moveRoomSpec)

/-- ITS FALSE NEIGHBOUR: 'it returns false'. Refute it at one input. -/
def moveRoomWrong : ChangeSpec := { name := "moveRoom", fn := fun _ => fun
  | [d1, d2, d3] => { results := [.lit (.bool false)], args := [d1, d2, d3] }
  | _ => none }
def MoveRoomWrongFalsely : Prop := moveRoomRow.holds Try.pinned (OpenSpec.ofChange moveRoomWrong)

/-- 'footlockerlaw11.MoveSteps': WHATEVER THE INPUT: true; the input reads as it did. -/
def moveStepsSpec : ChangeSpec := { name := "moveSteps", fn := fun _ => fun
  | [d1, d2] => { results := [.lit (.bool true)], args := [d1, d2] }
  | _ => none }
def moveStepsRow : OpenClaim := { program := "ytnigcfbenalehaa", sum := "b9eb5fa6732bcf88e8a226cfad477de3ccec50fe180730aa83d9f2fc1ba7c7ff", func := "footlocker/footlockerlaw11.MoveSteps", spec := "moveSteps", apart := false }
def MoveStepsSaid : Prop := moveStepsRow.holds Try.pinned (OpenSpec.ofChange moveStepsSpec)

/-- ITS FALSE NEIGHBOUR: 'it returns false'. Refute it at one input. -/
def moveStepsWrong : ChangeSpec := { name := "moveSteps", fn := fun _ => fun
  | [d1, d2] => { results := [.lit (.bool false)], args := [d1, d2] }
  | _ => none }
def MoveStepsWrongFalsely : Prop := moveStepsRow.holds Try.pinned (OpenSpec.ofChange moveStepsWrong)

/-- 'footlockerlaw11.MoveDrops': WHATEVER THE INPUT: true; the input reads as it did. -/
def moveDropsSpec : ChangeSpec := { name := "moveDrops", fn := fun _ => fun
  | [d1, d2] => { results := [.lit (.bool true)], args := [d1, d2] }
  | _ => none }
def moveDropsRow : OpenClaim := { program := "ytnigcfbenalehaa", sum := "b9eb5fa6732bcf88e8a226cfad477de3ccec50fe180730aa83d9f2fc1ba7c7ff", func := "footlocker/footlockerlaw11.MoveDrops", spec := "moveDrops", apart := false }
def MoveDropsSaid : Prop := moveDropsRow.holds Try.pinned (OpenSpec.ofChange moveDropsSpec)

/-- ITS FALSE NEIGHBOUR: 'it returns false'. Refute it at one input. -/
def moveDropsWrong : ChangeSpec := { name := "moveDrops", fn := fun _ => fun
  | [d1, d2] => { results := [.lit (.bool false)], args := [d1, d2] }
  | _ => none }
def MoveDropsWrongFalsely : Prop := moveDropsRow.holds Try.pinned (OpenSpec.ofChange moveDropsWrong)

/- THE SECOND FORM. 'bulk': how many values and letters a reading holds, each counted each time it is reached (what is shared counts as often as it is met; a slice's spare places count too). A statement '..UptoSaid' is the law's where the arguments, and the package variables that the reading takes, are together of bulk at most 1048576: NARROWER than '..Said'. Prove '..Said' where nothing that the law and all that it calls make is longer than what came in: it says more and counts as full. Else prove '..UptoSaid'. A law counts once. -/
mutual
def uptoBulk {H : Type} : DataW H → Nat
  | .lit (.string bytes) => bytes.length + 1
  | .lit _ => 1
  | .nil => 1
  | .ptr d => uptoBulk d + 1
  | .slice elems spare => uptoBulkAll elems + uptoBulkAll spare + 1
  | .agg parts => uptoBulkAll parts + 1
  | .iface _ d => uptoBulk d + 1
  | .map entries => uptoBulkEntries entries + 1
  | .held _ => 1
def uptoBulkAll {H : Type} : List (DataW H) → Nat
  | [] => 0
  | d :: r => uptoBulk d + uptoBulkAll r
def uptoBulkEntries {H : Type} : List (Lit × DataW H) → Nat
  | [] => 0
  | x :: r => uptoBulkEntry x + uptoBulkEntries r
def uptoBulkEntry {H : Type} : Lit × DataW H → Nat
  | (.string bytes, d) => bytes.length + uptoBulk d + 1
  | (_, d) => uptoBulk d + 1
 end
def uptoSmall : (H : Type) → List (DataW H) → Bool := fun _ ds => decide (uptoBulkAll ds ≤ 1048576)
def OpenSpec.upto (s : _root_.Go.ChangeSpec) : _root_.Go.OpenSpec := { _root_.Go.OpenSpec.ofChange s with cond := some uptoSmall }

/-- 'footlockerlaw11.MoveWrites', WHERE WHAT IT READS IS OF BULK AT MOST 1048576: true; the input reads as it did. -/
def moveWritesUptoRow : OpenClaim := { program := "ytnigcfbenalehaa", sum := "b9eb5fa6732bcf88e8a226cfad477de3ccec50fe180730aa83d9f2fc1ba7c7ff", func := "footlocker/footlockerlaw11.MoveWrites", spec := "moveWrites", apart := false, narrowed := true }
def MoveWritesUptoSaid : Prop := moveWritesUptoRow.holds Try.pinned (OpenSpec.upto moveWritesSpec)

/-- 'footlockerlaw11.MoveReads', WHERE WHAT IT READS IS OF BULK AT MOST 1048576: true; the input reads as it did. -/
def moveReadsUptoRow : OpenClaim := { program := "ytnigcfbenalehaa", sum := "b9eb5fa6732bcf88e8a226cfad477de3ccec50fe180730aa83d9f2fc1ba7c7ff", func := "footlocker/footlockerlaw11.MoveReads", spec := "moveReads", apart := false, narrowed := true }
def MoveReadsUptoSaid : Prop := moveReadsUptoRow.holds Try.pinned (OpenSpec.upto moveReadsSpec)

/-- 'footlockerlaw11.MoveAgain', WHERE WHAT IT READS IS OF BULK AT MOST 1048576: true; the input reads as it did. -/
def moveAgainUptoRow : OpenClaim := { program := "ytnigcfbenalehaa", sum := "b9eb5fa6732bcf88e8a226cfad477de3ccec50fe180730aa83d9f2fc1ba7c7ff", func := "footlocker/footlockerlaw11.MoveAgain", spec := "moveAgain", apart := false, narrowed := true }
def MoveAgainUptoSaid : Prop := moveAgainUptoRow.holds Try.pinned (OpenSpec.upto moveAgainSpec)

/-- 'footlockerlaw11.MoveVersions', WHERE WHAT IT READS IS OF BULK AT MOST 1048576: true; the input reads as it did. -/
def moveVersionsUptoRow : OpenClaim := { program := "ytnigcfbenalehaa", sum := "b9eb5fa6732bcf88e8a226cfad477de3ccec50fe180730aa83d9f2fc1ba7c7ff", func := "footlocker/footlockerlaw11.MoveVersions", spec := "moveVersions", apart := false, narrowed := true }
def MoveVersionsUptoSaid : Prop := moveVersionsUptoRow.holds Try.pinned (OpenSpec.upto moveVersionsSpec)

/-- 'footlockerlaw11.MoveAlone', WHERE WHAT IT READS IS OF BULK AT MOST 1048576: true; the input reads as it did. -/
def moveAloneUptoRow : OpenClaim := { program := "ytnigcfbenalehaa", sum := "b9eb5fa6732bcf88e8a226cfad477de3ccec50fe180730aa83d9f2fc1ba7c7ff", func := "footlocker/footlockerlaw11.MoveAlone", spec := "moveAlone", apart := false, narrowed := true }
def MoveAloneUptoSaid : Prop := moveAloneUptoRow.holds Try.pinned (OpenSpec.upto moveAloneSpec)

/-- 'footlockerlaw11.MoveRoom', WHERE WHAT IT READS IS OF BULK AT MOST 1048576: true; the input reads as it did. -/
def moveRoomUptoRow : OpenClaim := { program := "ytnigcfbenalehaa", sum := "b9eb5fa6732bcf88e8a226cfad477de3ccec50fe180730aa83d9f2fc1ba7c7ff", func := "footlocker/footlockerlaw11.MoveRoom", spec := "moveRoom", apart := false, narrowed := true }
def MoveRoomUptoSaid : Prop := moveRoomUptoRow.holds Try.pinned (OpenSpec.upto moveRoomSpec)

/-- 'footlockerlaw11.MoveSteps', WHERE WHAT IT READS IS OF BULK AT MOST 1048576: true; the input reads as it did. -/
def moveStepsUptoRow : OpenClaim := { program := "ytnigcfbenalehaa", sum := "b9eb5fa6732bcf88e8a226cfad477de3ccec50fe180730aa83d9f2fc1ba7c7ff", func := "footlocker/footlockerlaw11.MoveSteps", spec := "moveSteps", apart := false, narrowed := true }
def MoveStepsUptoSaid : Prop := moveStepsUptoRow.holds Try.pinned (OpenSpec.upto moveStepsSpec)

/-- 'footlockerlaw11.MoveDrops', WHERE WHAT IT READS IS OF BULK AT MOST 1048576: true; the input reads as it did. -/
def moveDropsUptoRow : OpenClaim := { program := "ytnigcfbenalehaa", sum := "b9eb5fa6732bcf88e8a226cfad477de3ccec50fe180730aa83d9f2fc1ba7c7ff", func := "footlocker/footlockerlaw11.MoveDrops", spec := "moveDrops", apart := false, narrowed := true }
def MoveDropsUptoSaid : Prop := moveDropsUptoRow.holds Try.pinned (OpenSpec.upto moveDropsSpec)

end Rows
end Go.Proofs.Ytnigcfbenalehaa
