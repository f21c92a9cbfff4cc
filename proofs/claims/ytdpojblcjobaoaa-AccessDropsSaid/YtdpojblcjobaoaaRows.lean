/-
  No cell of these rows narrows 'for every input' (looked for: loops, veiled, ifaces, maps, wideKeys, modest, calm, conditions, laid).
  DERIVED. THE GIVEN ROWS OF THIS SEAT. 8 by the template 'for every input the law returns true; each argument reads behind the call as it read before'; 0 by the template 'total and deterministic' (their statements: YtdpojblcjobaoaaTotals.lean).
  GIVEN WITH THE SEED: the statements are not yours to turn. If you find one false, say at which input.
  Laid BY PROGRAM, IN A SANDBOX (cutbox-rows.mjs): the forced cells as the released guide's own fill.sh prints them over the translation b5e5a50c80098bac… (all of the seat's roots in one cut). By AI agents, Wed Nov 11 2026. No macro, syntax, notation, axiom, sorry.
-/
import Derived.Test.YtdpojblcjobaoaaChecked
import GoSem.Claim
import GoSem.ClaimJoined
import GoSem.ClaimMapViews
import Derived.JoinedTies
import Derived.KernelRfl
namespace Go.Proofs.Ytdpojblcjobaoaa
/- THE CELL 'sum', in the pinned program and in every row, IS THE sha256 OF THE DUMP (.gsa) THAT YtdpojblcjobaoaaProg.lean LOADS. Nothing in Lean hashes anything: it is a label: what it is worth is what the hold of that sum in a sandbox is worth. -/
noncomputable def Try.pinned : Pinned := { name := "ytdpojblcjobaoaa", sum := "b5e5a50c80098bacd53e9eac8cbee2b5ab92fd69145bdc7df9be9eac6595fc6a", checked := Try.checked }
namespace Rows
def none {H : Type} : Left H := { results := [], args := [] }

/-- 'footlockerlaw10.AccessCounts': WHATEVER THE INPUT: true; the input reads as it did. -/
def accessCountsSpec : ChangeSpec := { name := "accessCounts", fn := fun _ => fun
  | [d1, d2] => { results := [.lit (.bool true)], args := [d1, d2] }
  | _ => none }
def accessCountsRow : OpenClaim := { program := "ytdpojblcjobaoaa", sum := "b5e5a50c80098bacd53e9eac8cbee2b5ab92fd69145bdc7df9be9eac6595fc6a", func := "footlocker/footlockerlaw10.AccessCounts", spec := "accessCounts", apart := false }
def AccessCountsSaid : Prop := accessCountsRow.holds Try.pinned (OpenSpec.ofChange accessCountsSpec)

/-- ITS FALSE NEIGHBOUR: 'it returns false'. Refute it at one input. -/
def accessCountsWrong : ChangeSpec := { name := "accessCounts", fn := fun _ => fun
  | [d1, d2] => { results := [.lit (.bool false)], args := [d1, d2] }
  | _ => none }
def AccessCountsWrongFalsely : Prop := accessCountsRow.holds Try.pinned (OpenSpec.ofChange accessCountsWrong)

/-- 'footlockerlaw10.AccessNone': WHATEVER THE INPUT: true; the input reads as it did. -/
def accessNoneSpec : ChangeSpec := { name := "accessNone", fn := fun _ => fun
  | [d] => { results := [.lit (.bool true)], args := [d] }
  | _ => none }
def accessNoneRow : OpenClaim := { program := "ytdpojblcjobaoaa", sum := "b5e5a50c80098bacd53e9eac8cbee2b5ab92fd69145bdc7df9be9eac6595fc6a", func := "footlocker/footlockerlaw10.AccessNone", spec := "accessNone", apart := false }
def AccessNoneSaid : Prop := accessNoneRow.holds Try.pinned (OpenSpec.ofChange accessNoneSpec)

/-- ITS FALSE NEIGHBOUR: 'it returns false'. Refute it at one input. -/
def accessNoneWrong : ChangeSpec := { name := "accessNone", fn := fun _ => fun
  | [d] => { results := [.lit (.bool false)], args := [d] }
  | _ => none }
def AccessNoneWrongFalsely : Prop := accessNoneRow.holds Try.pinned (OpenSpec.ofChange accessNoneWrong)

/-- 'footlockerlaw10.AccessOne': WHATEVER THE INPUT: true; the input reads as it did. -/
def accessOneSpec : ChangeSpec := { name := "accessOne", fn := fun _ => fun
  | [d1, d2] => { results := [.lit (.bool true)], args := [d1, d2] }
  | _ => none }
def accessOneRow : OpenClaim := { program := "ytdpojblcjobaoaa", sum := "b5e5a50c80098bacd53e9eac8cbee2b5ab92fd69145bdc7df9be9eac6595fc6a", func := "footlocker/footlockerlaw10.AccessOne", spec := "accessOne", apart := false }
def AccessOneSaid : Prop := accessOneRow.holds Try.pinned (OpenSpec.ofChange accessOneSpec)

/-- ITS FALSE NEIGHBOUR: 'it returns false'. Refute it at one input. -/
def accessOneWrong : ChangeSpec := { name := "accessOne", fn := fun _ => fun
  | [d1, d2] => { results := [.lit (.bool false)], args := [d1, d2] }
  | _ => none }
def AccessOneWrongFalsely : Prop := accessOneRow.holds Try.pinned (OpenSpec.ofChange accessOneWrong)

/-- 'footlockerlaw10.AccessLast': WHATEVER THE INPUT: true; the input reads as it did. -/
def accessLastSpec : ChangeSpec := { name := "accessLast", fn := fun _ => fun
  | [d1, d2] => { results := [.lit (.bool true)], args := [d1, d2] }
  | _ => none }
def accessLastRow : OpenClaim := { program := "ytdpojblcjobaoaa", sum := "b5e5a50c80098bacd53e9eac8cbee2b5ab92fd69145bdc7df9be9eac6595fc6a", func := "footlocker/footlockerlaw10.AccessLast", spec := "accessLast", apart := false }
def AccessLastSaid : Prop := accessLastRow.holds Try.pinned (OpenSpec.ofChange accessLastSpec)

/-- ITS FALSE NEIGHBOUR: 'it returns false'. Refute it at one input. -/
def accessLastWrong : ChangeSpec := { name := "accessLast", fn := fun _ => fun
  | [d1, d2] => { results := [.lit (.bool false)], args := [d1, d2] }
  | _ => none }
def AccessLastWrongFalsely : Prop := accessLastRow.holds Try.pinned (OpenSpec.ofChange accessLastWrong)

/-- 'footlockerlaw10.AccessStops': WHATEVER THE INPUT: true; the input reads as it did. -/
def accessStopsSpec : ChangeSpec := { name := "accessStops", fn := fun _ => fun
  | [d1, d2, d3] => { results := [.lit (.bool true)], args := [d1, d2, d3] }
  | _ => none }
def accessStopsRow : OpenClaim := { program := "ytdpojblcjobaoaa", sum := "b5e5a50c80098bacd53e9eac8cbee2b5ab92fd69145bdc7df9be9eac6595fc6a", func := "footlocker/footlockerlaw10.AccessStops", spec := "accessStops", apart := false }
def AccessStopsSaid : Prop := accessStopsRow.holds Try.pinned (OpenSpec.ofChange accessStopsSpec)

/-- ITS FALSE NEIGHBOUR: 'it returns false'. Refute it at one input. -/
def accessStopsWrong : ChangeSpec := { name := "accessStops", fn := fun _ => fun
  | [d1, d2, d3] => { results := [.lit (.bool false)], args := [d1, d2, d3] }
  | _ => none }
def AccessStopsWrongFalsely : Prop := accessStopsRow.holds Try.pinned (OpenSpec.ofChange accessStopsWrong)

/-- 'footlockerlaw10.AccessSteps': WHATEVER THE INPUT: true; the input reads as it did. -/
def accessStepsSpec : ChangeSpec := { name := "accessSteps", fn := fun _ => fun
  | [d1, d2] => { results := [.lit (.bool true)], args := [d1, d2] }
  | _ => none }
def accessStepsRow : OpenClaim := { program := "ytdpojblcjobaoaa", sum := "b5e5a50c80098bacd53e9eac8cbee2b5ab92fd69145bdc7df9be9eac6595fc6a", func := "footlocker/footlockerlaw10.AccessSteps", spec := "accessSteps", apart := false }
def AccessStepsSaid : Prop := accessStepsRow.holds Try.pinned (OpenSpec.ofChange accessStepsSpec)

/-- ITS FALSE NEIGHBOUR: 'it returns false'. Refute it at one input. -/
def accessStepsWrong : ChangeSpec := { name := "accessSteps", fn := fun _ => fun
  | [d1, d2] => { results := [.lit (.bool false)], args := [d1, d2] }
  | _ => none }
def AccessStepsWrongFalsely : Prop := accessStepsRow.holds Try.pinned (OpenSpec.ofChange accessStepsWrong)

/-- 'footlockerlaw10.AccessForged': WHATEVER THE INPUT: true; the input reads as it did. -/
def accessForgedSpec : ChangeSpec := { name := "accessForged", fn := fun _ => fun
  | [d1, d2, d3] => { results := [.lit (.bool true)], args := [d1, d2, d3] }
  | _ => none }
def accessForgedRow : OpenClaim := { program := "ytdpojblcjobaoaa", sum := "b5e5a50c80098bacd53e9eac8cbee2b5ab92fd69145bdc7df9be9eac6595fc6a", func := "footlocker/footlockerlaw10.AccessForged", spec := "accessForged", apart := false }
def AccessForgedSaid : Prop := accessForgedRow.holds Try.pinned (OpenSpec.ofChange accessForgedSpec)

/-- ITS FALSE NEIGHBOUR: 'it returns false'. Refute it at one input. -/
def accessForgedWrong : ChangeSpec := { name := "accessForged", fn := fun _ => fun
  | [d1, d2, d3] => { results := [.lit (.bool false)], args := [d1, d2, d3] }
  | _ => none }
def AccessForgedWrongFalsely : Prop := accessForgedRow.holds Try.pinned (OpenSpec.ofChange accessForgedWrong)

/-- 'footlockerlaw10.AccessDrops': WHATEVER THE INPUT: true; the input reads as it did. -/
def accessDropsSpec : ChangeSpec := { name := "accessDrops", fn := fun _ => fun
  | [d1, d2] => { results := [.lit (.bool true)], args := [d1, d2] }
  | _ => none }
def accessDropsRow : OpenClaim := { program := "ytdpojblcjobaoaa", sum := "b5e5a50c80098bacd53e9eac8cbee2b5ab92fd69145bdc7df9be9eac6595fc6a", func := "footlocker/footlockerlaw10.AccessDrops", spec := "accessDrops", apart := false }
def AccessDropsSaid : Prop := accessDropsRow.holds Try.pinned (OpenSpec.ofChange accessDropsSpec)

/-- ITS FALSE NEIGHBOUR: 'it returns false'. Refute it at one input. -/
def accessDropsWrong : ChangeSpec := { name := "accessDrops", fn := fun _ => fun
  | [d1, d2] => { results := [.lit (.bool false)], args := [d1, d2] }
  | _ => none }
def AccessDropsWrongFalsely : Prop := accessDropsRow.holds Try.pinned (OpenSpec.ofChange accessDropsWrong)

/- THE SECOND FORM. 'bulk': how many values and letters a reading holds, each counted each time it is reached (what is shared counts as often as it is met; a slice's spare places count too). A statement '..UptoSaid' is the law's where the arguments, and the package variables that the reading takes, are together of bulk at most 1048576: NARROWER than '..Said'. Prove '..Said' where nothing that the law and all that it calls make is longer than what came in: it says more and counts as full. Else prove '..UptoSaid'. A law counts once. -/
mutual
def uptoBulk {H : Type} : DataW H → Nat
  | .lit (.string bytes) => bytes.length + 1
  | .lit _ => 1
  | .nil => 1
  | .ptr d => uptoBulk d + 1
  | .slice elems spare => uptoBulkAll elems + uptoBulkAll spare + 1
  | .agg parts => uptoBulkAll parts + 1
  | .iface _ d => uptoBulk d + 1
  | .map entries => uptoBulkEntries entries + 1
  | .held _ => 1
def uptoBulkAll {H : Type} : List (DataW H) → Nat
  | [] => 0
  | d :: r => uptoBulk d + uptoBulkAll r
def uptoBulkEntries {H : Type} : List (Lit × DataW H) → Nat
  | [] => 0
  | x :: r => uptoBulkEntry x + uptoBulkEntries r
def uptoBulkEntry {H : Type} : Lit × DataW H → Nat
  | (.string bytes, d) => bytes.length + uptoBulk d + 1
  | (_, d) => uptoBulk d + 1
 end
def uptoSmall : (H : Type) → List (DataW H) → Bool := fun _ ds => decide (uptoBulkAll ds ≤ 1048576)
def OpenSpec.upto (s : _root_.Go.ChangeSpec) : _root_.Go.OpenSpec := { _root_.Go.OpenSpec.ofChange s with cond := some uptoSmall }

/-- 'footlockerlaw10.AccessCounts', WHERE WHAT IT READS IS OF BULK AT MOST 1048576: true; the input reads as it did. -/
def accessCountsUptoRow : OpenClaim := { program := "ytdpojblcjobaoaa", sum := "b5e5a50c80098bacd53e9eac8cbee2b5ab92fd69145bdc7df9be9eac6595fc6a", func := "footlocker/footlockerlaw10.AccessCounts", spec := "accessCounts", apart := false, narrowed := true }
def AccessCountsUptoSaid : Prop := accessCountsUptoRow.holds Try.pinned (OpenSpec.upto accessCountsSpec)

/-- 'footlockerlaw10.AccessNone', WHERE WHAT IT READS IS OF BULK AT MOST 1048576: true; the input reads as it did. -/
def accessNoneUptoRow : OpenClaim := { program := "ytdpojblcjobaoaa", sum := "b5e5a50c80098bacd53e9eac8cbee2b5ab92fd69145bdc7df9be9eac6595fc6a", func := "footlocker/footlockerlaw10.AccessNone", spec := "accessNone", apart := false, narrowed := true }
def AccessNoneUptoSaid : Prop := accessNoneUptoRow.holds Try.pinned (OpenSpec.upto accessNoneSpec)

/-- 'footlockerlaw10.AccessOne', WHERE WHAT IT READS IS OF BULK AT MOST 1048576: true; the input reads as it did. -/
def accessOneUptoRow : OpenClaim := { program := "ytdpojblcjobaoaa", sum := "b5e5a50c80098bacd53e9eac8cbee2b5ab92fd69145bdc7df9be9eac6595fc6a", func := "footlocker/footlockerlaw10.AccessOne", spec := "accessOne", apart := false, narrowed := true }
def AccessOneUptoSaid : Prop := accessOneUptoRow.holds Try.pinned (OpenSpec.upto accessOneSpec)

/-- 'footlockerlaw10.AccessLast', WHERE WHAT IT READS IS OF BULK AT MOST 1048576: true; the input reads as it did. -/
def accessLastUptoRow : OpenClaim := { program := "ytdpojblcjobaoaa", sum := "b5e5a50c80098bacd53e9eac8cbee2b5ab92fd69145bdc7df9be9eac6595fc6a", func := "footlocker/footlockerlaw10.AccessLast", spec := "accessLast", apart := false, narrowed := true }
def AccessLastUptoSaid : Prop := accessLastUptoRow.holds Try.pinned (OpenSpec.upto accessLastSpec)

/-- 'footlockerlaw10.AccessStops', WHERE WHAT IT READS IS OF BULK AT MOST 1048576: true; the input reads as it did. -/
def accessStopsUptoRow : OpenClaim := { program := "ytdpojblcjobaoaa", sum := "b5e5a50c80098bacd53e9eac8cbee2b5ab92fd69145bdc7df9be9eac6595fc6a", func := "footlocker/footlockerlaw10.AccessStops", spec := "accessStops", apart := false, narrowed := true }
def AccessStopsUptoSaid : Prop := accessStopsUptoRow.holds Try.pinned (OpenSpec.upto accessStopsSpec)

/-- 'footlockerlaw10.AccessSteps', WHERE WHAT IT READS IS OF BULK AT MOST 1048576: true; the input reads as it did. -/
def accessStepsUptoRow : OpenClaim := { program := "ytdpojblcjobaoaa", sum := "b5e5a50c80098bacd53e9eac8cbee2b5ab92fd69145bdc7df9be9eac6595fc6a", func := "footlocker/footlockerlaw10.AccessSteps", spec := "accessSteps", apart := false, narrowed := true }
def AccessStepsUptoSaid : Prop := accessStepsUptoRow.holds Try.pinned (OpenSpec.upto accessStepsSpec)

/-- 'footlockerlaw10.AccessForged', WHERE WHAT IT READS IS OF BULK AT MOST 1048576: true; the input reads as it did. -/
def accessForgedUptoRow : OpenClaim := { program := "ytdpojblcjobaoaa", sum := "b5e5a50c80098bacd53e9eac8cbee2b5ab92fd69145bdc7df9be9eac6595fc6a", func := "footlocker/footlockerlaw10.AccessForged", spec := "accessForged", apart := false, narrowed := true }
def AccessForgedUptoSaid : Prop := accessForgedUptoRow.holds Try.pinned (OpenSpec.upto accessForgedSpec)

/-- 'footlockerlaw10.AccessDrops', WHERE WHAT IT READS IS OF BULK AT MOST 1048576: true; the input reads as it did. -/
def accessDropsUptoRow : OpenClaim := { program := "ytdpojblcjobaoaa", sum := "b5e5a50c80098bacd53e9eac8cbee2b5ab92fd69145bdc7df9be9eac6595fc6a", func := "footlocker/footlockerlaw10.AccessDrops", spec := "accessDrops", apart := false, narrowed := true }
def AccessDropsUptoSaid : Prop := accessDropsUptoRow.holds Try.pinned (OpenSpec.upto accessDropsSpec)

end Rows
end Go.Proofs.Ytdpojblcjobaoaa
