/-
  No cell of these rows narrows 'for every input' (looked for: loops, veiled, ifaces, maps, wideKeys, modest, calm, conditions, laid).
  DERIVED. THE GIVEN ROWS OF THIS SEAT. 6 by the template 'for every input the law returns true; each argument reads behind the call as it read before'; 0 by the template 'total and deterministic' (their statements: YtbmcbcoaeclfbaaTotals.lean).
  GIVEN WITH THE SEED: the statements are not yours to turn. If you find one false, say at which input.
  Laid BY PROGRAM, IN A SANDBOX (cutbox-rows.mjs): the forced cells as the released guide's own fill.sh prints them over the translation 9add6c526ba09616… (all of the seat's roots in one cut). By AI agents, Wed Nov 11 2026. No macro, syntax, notation, axiom, sorry.
-/
import Derived.Test.YtbmcbcoaeclfbaaChecked
import GoSem.Claim
import GoSem.ClaimJoined
import GoSem.ClaimMapViews
import Derived.JoinedTies
import Derived.KernelRfl
namespace Go.Proofs.Ytbmcbcoaeclfbaa
/- THE CELL 'sum', in the pinned program and in every row, IS THE sha256 OF THE DUMP (.gsa) THAT YtbmcbcoaeclfbaaProg.lean LOADS. Nothing in Lean hashes anything: it is a label: what it is worth is what the hold of that sum in a sandbox is worth. -/
noncomputable def Try.pinned : Pinned := { name := "ytbmcbcoaeclfbaa", sum := "9add6c526ba096160ca56fa291e6341fc3b5fde09cc5a1114a623c7cb05c8983", checked := Try.checked }
namespace Rows
def none {H : Type} : Left H := { results := [], args := [] }

/-- 'footlockerlaw15.ActPlays': WHATEVER THE INPUT: true; the input reads as it did. -/
def actPlaysSpec : ChangeSpec := { name := "actPlays", fn := fun _ => fun
  | [d] => { results := [.lit (.bool true)], args := [d] }
  | _ => none }
def actPlaysRow : OpenClaim := { program := "ytbmcbcoaeclfbaa", sum := "9add6c526ba096160ca56fa291e6341fc3b5fde09cc5a1114a623c7cb05c8983", func := "footlocker/footlockerlaw15.ActPlays", spec := "actPlays", unfollowed := true, recurses := true, apart := false }
def ActPlaysSaid : Prop := actPlaysRow.holds Try.pinned (OpenSpec.ofChange actPlaysSpec)

/-- ITS FALSE NEIGHBOUR: 'it returns false'. Refute it at one input. -/
def actPlaysWrong : ChangeSpec := { name := "actPlays", fn := fun _ => fun
  | [d] => { results := [.lit (.bool false)], args := [d] }
  | _ => none }
def ActPlaysWrongFalsely : Prop := actPlaysRow.holds Try.pinned (OpenSpec.ofChange actPlaysWrong)

/-- 'footlockerlaw15.ActPins': WHATEVER THE INPUT: true; the input reads as it did. -/
def actPinsSpec : ChangeSpec := { name := "actPins", fn := fun _ => fun
  | [d1, d2] => { results := [.lit (.bool true)], args := [d1, d2] }
  | _ => none }
def actPinsRow : OpenClaim := { program := "ytbmcbcoaeclfbaa", sum := "9add6c526ba096160ca56fa291e6341fc3b5fde09cc5a1114a623c7cb05c8983", func := "footlocker/footlockerlaw15.ActPins", spec := "actPins", unfollowed := true, recurses := true, apart := false }
def ActPinsSaid : Prop := actPinsRow.holds Try.pinned (OpenSpec.ofChange actPinsSpec)

/-- ITS FALSE NEIGHBOUR: 'it returns false'. Refute it at one input. -/
def actPinsWrong : ChangeSpec := { name := "actPins", fn := fun _ => fun
  | [d1, d2] => { results := [.lit (.bool false)], args := [d1, d2] }
  | _ => none }
def ActPinsWrongFalsely : Prop := actPinsRow.holds Try.pinned (OpenSpec.ofChange actPinsWrong)

/-- 'footlockerlaw15.ActChecks': WHATEVER THE INPUT: true; the input reads as it did. -/
def actChecksSpec : ChangeSpec := { name := "actChecks", fn := fun _ => fun
  | [d] => { results := [.lit (.bool true)], args := [d] }
  | _ => none }
def actChecksRow : OpenClaim := { program := "ytbmcbcoaeclfbaa", sum := "9add6c526ba096160ca56fa291e6341fc3b5fde09cc5a1114a623c7cb05c8983", func := "footlocker/footlockerlaw15.ActChecks", spec := "actChecks", unfollowed := true, recurses := true, apart := false }
def ActChecksSaid : Prop := actChecksRow.holds Try.pinned (OpenSpec.ofChange actChecksSpec)

/-- ITS FALSE NEIGHBOUR: 'it returns false'. Refute it at one input. -/
def actChecksWrong : ChangeSpec := { name := "actChecks", fn := fun _ => fun
  | [d] => { results := [.lit (.bool false)], args := [d] }
  | _ => none }
def ActChecksWrongFalsely : Prop := actChecksRow.holds Try.pinned (OpenSpec.ofChange actChecksWrong)

/-- 'footlockerlaw15.ActStamps': WHATEVER THE INPUT: true; the input reads as it did. -/
def actStampsSpec : ChangeSpec := { name := "actStamps", fn := fun _ => fun
  | [d] => { results := [.lit (.bool true)], args := [d] }
  | _ => none }
def actStampsRow : OpenClaim := { program := "ytbmcbcoaeclfbaa", sum := "9add6c526ba096160ca56fa291e6341fc3b5fde09cc5a1114a623c7cb05c8983", func := "footlocker/footlockerlaw15.ActStamps", spec := "actStamps", unfollowed := true, recurses := true, apart := false }
def ActStampsSaid : Prop := actStampsRow.holds Try.pinned (OpenSpec.ofChange actStampsSpec)

/-- ITS FALSE NEIGHBOUR: 'it returns false'. Refute it at one input. -/
def actStampsWrong : ChangeSpec := { name := "actStamps", fn := fun _ => fun
  | [d] => { results := [.lit (.bool false)], args := [d] }
  | _ => none }
def ActStampsWrongFalsely : Prop := actStampsRow.holds Try.pinned (OpenSpec.ofChange actStampsWrong)

/-- 'footlockerlaw15.ActMany': WHATEVER THE INPUT: true; the input reads as it did. -/
def actManySpec : ChangeSpec := { name := "actMany", fn := fun _ => fun
  | [d1, d2] => { results := [.lit (.bool true)], args := [d1, d2] }
  | _ => none }
def actManyRow : OpenClaim := { program := "ytbmcbcoaeclfbaa", sum := "9add6c526ba096160ca56fa291e6341fc3b5fde09cc5a1114a623c7cb05c8983", func := "footlocker/footlockerlaw15.ActMany", spec := "actMany", unfollowed := true, recurses := true, apart := false }
def ActManySaid : Prop := actManyRow.holds Try.pinned (OpenSpec.ofChange actManySpec)

/-- ITS FALSE NEIGHBOUR: 'it returns false'. Refute it at one input. -/
def actManyWrong : ChangeSpec := { name := "actMany", fn := fun _ => fun
  | [d1, d2] => { results := [.lit (.bool false)], args := [d1, d2] }
  | _ => none }
def ActManyWrongFalsely : Prop := actManyRow.holds Try.pinned (OpenSpec.ofChange actManyWrong)

/-- 'footlockerlaw15.ActOwn': WHATEVER THE INPUT: true; the input reads as it did. -/
def actOwnSpec : ChangeSpec := { name := "actOwn", fn := fun _ => fun
  | [d1, d2] => { results := [.lit (.bool true)], args := [d1, d2] }
  | _ => none }
def actOwnRow : OpenClaim := { program := "ytbmcbcoaeclfbaa", sum := "9add6c526ba096160ca56fa291e6341fc3b5fde09cc5a1114a623c7cb05c8983", func := "footlocker/footlockerlaw15.ActOwn", spec := "actOwn", unfollowed := true, recurses := true, apart := false }
def ActOwnSaid : Prop := actOwnRow.holds Try.pinned (OpenSpec.ofChange actOwnSpec)

/-- ITS FALSE NEIGHBOUR: 'it returns false'. Refute it at one input. -/
def actOwnWrong : ChangeSpec := { name := "actOwn", fn := fun _ => fun
  | [d1, d2] => { results := [.lit (.bool false)], args := [d1, d2] }
  | _ => none }
def ActOwnWrongFalsely : Prop := actOwnRow.holds Try.pinned (OpenSpec.ofChange actOwnWrong)

/- THE SECOND FORM. 'bulk': how many values and letters a reading holds, each counted each time it is reached (what is shared counts as often as it is met; a slice's spare places count too). A statement '..UptoSaid' is the law's where the arguments, and the package variables that the reading takes, are together of bulk at most 1048576: NARROWER than '..Said'. Prove '..Said' where nothing that the law and all that it calls make is longer than what came in: it says more and counts as full. Else prove '..UptoSaid'. A law counts once. -/
mutual
def uptoBulk {H : Type} : DataW H → Nat
  | .lit (.string bytes) => bytes.length + 1
  | .lit _ => 1
  | .nil => 1
  | .ptr d => uptoBulk d + 1
  | .slice elems spare => uptoBulkAll elems + uptoBulkAll spare + 1
  | .agg parts => uptoBulkAll parts + 1
  | .iface _ d => uptoBulk d + 1
  | .map entries => uptoBulkEntries entries + 1
  | .held _ => 1
def uptoBulkAll {H : Type} : List (DataW H) → Nat
  | [] => 0
  | d :: r => uptoBulk d + uptoBulkAll r
def uptoBulkEntries {H : Type} : List (Lit × DataW H) → Nat
  | [] => 0
  | x :: r => uptoBulkEntry x + uptoBulkEntries r
def uptoBulkEntry {H : Type} : Lit × DataW H → Nat
  | (.string bytes, d) => bytes.length + uptoBulk d + 1
  | (_, d) => uptoBulk d + 1
 end
def uptoSmall : (H : Type) → List (DataW H) → Bool := fun _ ds => decide (uptoBulkAll ds ≤ 1048576)
def OpenSpec.upto (s : _root_.Go.ChangeSpec) : _root_.Go.OpenSpec := { _root_.Go.OpenSpec.ofChange s with cond := some uptoSmall }

/-- 'footlockerlaw15.ActPlays', WHERE WHAT IT READS IS OF BULK AT MOST 1048576: true; the input reads as it did. -/
def actPlaysUptoRow : OpenClaim := { program := "ytbmcbcoaeclfbaa", sum := "9add6c526ba096160ca56fa291e6341fc3b5fde09cc5a1114a623c7cb05c8983", func := "footlocker/footlockerlaw15.ActPlays", spec := "actPlays", unfollowed := true, recurses := true, apart := false, narrowed := true }
def ActPlaysUptoSaid : Prop := actPlaysUptoRow.holds Try.pinned (OpenSpec.upto actPlaysSpec)

/-- 'footlockerlaw15.ActPins', WHERE WHAT IT READS IS OF BULK AT MOST 1048576: true; the input reads as it did. -/
def actPinsUptoRow : OpenClaim := { program := "ytbmcbcoaeclfbaa", sum := "9add6c526ba096160ca56fa291e6341fc3b5fde09cc5a1114a623c7cb05c8983", func := "footlocker/footlockerlaw15.ActPins", spec := "actPins", unfollowed := true, recurses := true, apart := false, narrowed := true }
def ActPinsUptoSaid : Prop := actPinsUptoRow.holds Try.pinned (OpenSpec.upto actPinsSpec)

/-- 'footlockerlaw15.ActChecks', WHERE WHAT IT READS IS OF BULK AT MOST 1048576: true; the input reads as it did. -/
def actChecksUptoRow : OpenClaim := { program := "ytbmcbcoaeclfbaa", sum := "9add6c526ba096160ca56fa291e6341fc3b5fde09cc5a1114a623c7cb05c8983", func := "footlocker/footlockerlaw15.ActChecks", spec := "actChecks", unfollowed := true, recurses := true, apart := false, narrowed := true }
def ActChecksUptoSaid : Prop := actChecksUptoRow.holds Try.pinned (OpenSpec.upto actChecksSpec)

/-- 'footlockerlaw15.ActStamps', WHERE WHAT IT READS IS OF BULK AT MOST 1048576: true; the input reads as it did. -/
def actStampsUptoRow : OpenClaim := { program := "ytbmcbcoaeclfbaa", sum := "9add6c526ba096160ca56fa291e6341fc3b5fde09cc5a1114a623c7cb05c8983", func := "footlocker/footlockerlaw15.ActStamps", spec := "actStamps", unfollowed := true, recurses := true, apart := false, narrowed := true }
def ActStampsUptoSaid : Prop := actStampsUptoRow.holds Try.pinned (OpenSpec.upto actStampsSpec)

/-- 'footlockerlaw15.ActMany', WHERE WHAT IT READS IS OF BULK AT MOST 1048576: true; the input reads as it did. -/
def actManyUptoRow : OpenClaim := { program := "ytbmcbcoaeclfbaa", sum := "9add6c526ba096160ca56fa291e6341fc3b5fde09cc5a1114a623c7cb05c8983", func := "footlocker/footlockerlaw15.ActMany", spec := "actMany", unfollowed := true, recurses := true, apart := false, narrowed := true }
def ActManyUptoSaid : Prop := actManyUptoRow.holds Try.pinned (OpenSpec.upto actManySpec)

/-- 'footlockerlaw15.ActOwn', WHERE WHAT IT READS IS OF BULK AT MOST 1048576: true; the input reads as it did. -/
def actOwnUptoRow : OpenClaim := { program := "ytbmcbcoaeclfbaa", sum := "9add6c526ba096160ca56fa291e6341fc3b5fde09cc5a1114a623c7cb05c8983", func := "footlocker/footlockerlaw15.ActOwn", spec := "actOwn", unfollowed := true, recurses := true, apart := false, narrowed := true }
def ActOwnUptoSaid : Prop := actOwnUptoRow.holds Try.pinned (OpenSpec.upto actOwnSpec)

end Rows
end Go.Proofs.Ytbmcbcoaeclfbaa
