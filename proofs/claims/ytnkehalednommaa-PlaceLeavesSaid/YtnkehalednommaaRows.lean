/-
  No cell of these rows narrows 'for every input' (looked for: loops, veiled, ifaces, maps, wideKeys, modest, calm, conditions, laid).
  DERIVED. THE GIVEN ROWS OF THIS SEAT. 3 by the template 'for every input the law returns true; each argument reads behind the call as it read before'; 0 by the template 'total and deterministic' (their statements: YtnkehalednommaaTotals.lean).
  GIVEN WITH THE SEED: the statements are not yours to turn. If you find one false, say at which input.
  Laid BY PROGRAM, IN A SANDBOX (cutbox-rows.mjs): the forced cells as the released guide's own fill.sh prints them over the translation d21e80099cc2e361… (all of the seat's roots in one cut). By AI agents, Wed Nov 11 2026. No macro, syntax, notation, axiom, sorry.
-/
import Derived.Test.YtnkehalednommaaChecked
import GoSem.Claim
import GoSem.ClaimJoined
import GoSem.ClaimMapViews
import Derived.JoinedTies
import Derived.KernelRfl
namespace Go.Proofs.Ytnkehalednommaa
/- THE CELL 'sum', in the pinned program and in every row, IS THE sha256 OF THE DUMP (.gsa) THAT YtnkehalednommaaProg.lean LOADS. Nothing in Lean hashes anything: it is a label: what it is worth is what the hold of that sum in a sandbox is worth. -/
noncomputable def Try.pinned : Pinned := { name := "ytnkehalednommaa", sum := "d21e80099cc2e361de83da7ca0cd68fd0251354242c763b76da9cc8834c71c60", checked := Try.checked }
namespace Rows
def none {H : Type} : Left H := { results := [], args := [] }

/-- 'footlockerlaw07.PlaceLeaves': WHATEVER THE INPUT: true; the input reads as it did. -/
def placeLeavesSpec : ChangeSpec := { name := "placeLeaves", fn := fun _ => fun
  | [d1, d2] => { results := [.lit (.bool true)], args := [d1, d2] }
  | _ => none }
def placeLeavesRow : OpenClaim := { program := "ytnkehalednommaa", sum := "d21e80099cc2e361de83da7ca0cd68fd0251354242c763b76da9cc8834c71c60", func := "footlocker/footlockerlaw07.PlaceLeaves", spec := "placeLeaves", apart := false }
def PlaceLeavesSaid : Prop := placeLeavesRow.holds Try.pinned (OpenSpec.ofChange placeLeavesSpec)

/-- ITS FALSE NEIGHBOUR: 'it returns false'. Refute it at one input. -/
def placeLeavesWrong : ChangeSpec := { name := "placeLeaves", fn := fun _ => fun
  | [d1, d2] => { results := [.lit (.bool false)], args := [d1, d2] }
  | _ => none }
def PlaceLeavesWrongFalsely : Prop := placeLeavesRow.holds Try.pinned (OpenSpec.ofChange placeLeavesWrong)

/-- 'footlockerlaw08.AllocShares': WHATEVER THE INPUT: true; the input reads as it did. -/
def allocSharesSpec : ChangeSpec := { name := "allocShares", fn := fun _ => fun
  | [d1, d2, d3] => { results := [.lit (.bool true)], args := [d1, d2, d3] }
  | _ => none }
def allocSharesRow : OpenClaim := { program := "ytnkehalednommaa", sum := "d21e80099cc2e361de83da7ca0cd68fd0251354242c763b76da9cc8834c71c60", func := "footlocker/footlockerlaw08.AllocShares", spec := "allocShares", apart := false }
def AllocSharesSaid : Prop := allocSharesRow.holds Try.pinned (OpenSpec.ofChange allocSharesSpec)

/-- ITS FALSE NEIGHBOUR: 'it returns false'. Refute it at one input. -/
def allocSharesWrong : ChangeSpec := { name := "allocShares", fn := fun _ => fun
  | [d1, d2, d3] => { results := [.lit (.bool false)], args := [d1, d2, d3] }
  | _ => none }
def AllocSharesWrongFalsely : Prop := allocSharesRow.holds Try.pinned (OpenSpec.ofChange allocSharesWrong)

/-- 'footlockerlaw10.AccessAlone': WHATEVER THE INPUT: true; the input reads as it did. -/
def accessAloneSpec : ChangeSpec := { name := "accessAlone", fn := fun _ => fun
  | [d1, d2] => { results := [.lit (.bool true)], args := [d1, d2] }
  | _ => none }
def accessAloneRow : OpenClaim := { program := "ytnkehalednommaa", sum := "d21e80099cc2e361de83da7ca0cd68fd0251354242c763b76da9cc8834c71c60", func := "footlocker/footlockerlaw10.AccessAlone", spec := "accessAlone", apart := false }
def AccessAloneSaid : Prop := accessAloneRow.holds Try.pinned (OpenSpec.ofChange accessAloneSpec)

/-- ITS FALSE NEIGHBOUR: 'it returns false'. Refute it at one input. -/
def accessAloneWrong : ChangeSpec := { name := "accessAlone", fn := fun _ => fun
  | [d1, d2] => { results := [.lit (.bool false)], args := [d1, d2] }
  | _ => none }
def AccessAloneWrongFalsely : Prop := accessAloneRow.holds Try.pinned (OpenSpec.ofChange accessAloneWrong)

/- THE SECOND FORM. 'bulk': how many values and letters a reading holds, each counted each time it is reached (what is shared counts as often as it is met; a slice's spare places count too). A statement '..UptoSaid' is the law's where the arguments, and the package variables that the reading takes, are together of bulk at most 1048576: NARROWER than '..Said'. Prove '..Said' where nothing that the law and all that it calls make is longer than what came in: it says more and counts as full. Else prove '..UptoSaid'. A law counts once. -/
mutual
def uptoBulk {H : Type} : DataW H → Nat
  | .lit (.string bytes) => bytes.length + 1
  | .lit _ => 1
  | .nil => 1
  | .ptr d => uptoBulk d + 1
  | .slice elems spare => uptoBulkAll elems + uptoBulkAll spare + 1
  | .agg parts => uptoBulkAll parts + 1
  | .iface _ d => uptoBulk d + 1
  | .map entries => uptoBulkEntries entries + 1
  | .held _ => 1
def uptoBulkAll {H : Type} : List (DataW H) → Nat
  | [] => 0
  | d :: r => uptoBulk d + uptoBulkAll r
def uptoBulkEntries {H : Type} : List (Lit × DataW H) → Nat
  | [] => 0
  | x :: r => uptoBulkEntry x + uptoBulkEntries r
def uptoBulkEntry {H : Type} : Lit × DataW H → Nat
  | (.string bytes, d) => bytes.length + uptoBulk d + 1
  | (_, d) => uptoBulk d + 1
 end
def uptoSmall : (H : Type) → List (DataW H) → Bool := fun _ ds => decide (uptoBulkAll ds ≤ 1048576)
def OpenSpec.upto (s : _root_.Go.ChangeSpec) : _root_.Go.OpenSpec := { _root_.Go.OpenSpec.ofChange s with cond := some uptoSmall }

/-- 'footlockerlaw07.PlaceLeaves', WHERE WHAT IT READS IS OF BULK AT MOST 1048576: true; the input reads as it did. -/
def placeLeavesUptoRow : OpenClaim := { program := "ytnkehalednommaa", sum := "d21e80099cc2e361de83da7ca0cd68fd0251354242c763b76da9cc8834c71c60", func := "footlocker/footlockerlaw07.PlaceLeaves", spec := "placeLeaves", apart := false, narrowed := true }
def PlaceLeavesUptoSaid : Prop := placeLeavesUptoRow.holds Try.pinned (OpenSpec.upto placeLeavesSpec)

/-- 'footlockerlaw08.AllocShares', WHERE WHAT IT READS IS OF BULK AT MOST 1048576: true; the input reads as it did. -/
def allocSharesUptoRow : OpenClaim := { program := "ytnkehalednommaa", sum := "d21e80099cc2e361de83da7ca0cd68fd0251354242c763b76da9cc8834c71c60", func := "footlocker/footlockerlaw08.AllocShares", spec := "allocShares", apart := false, narrowed := true }
def AllocSharesUptoSaid : Prop := allocSharesUptoRow.holds Try.pinned (OpenSpec.upto allocSharesSpec)

/-- 'footlockerlaw10.AccessAlone', WHERE WHAT IT READS IS OF BULK AT MOST 1048576: true; the input reads as it did. -/
def accessAloneUptoRow : OpenClaim := { program := "ytnkehalednommaa", sum := "d21e80099cc2e361de83da7ca0cd68fd0251354242c763b76da9cc8834c71c60", func := "footlocker/footlockerlaw10.AccessAlone", spec := "accessAlone", apart := false, narrowed := true }
def AccessAloneUptoSaid : Prop := accessAloneUptoRow.holds Try.pinned (OpenSpec.upto accessAloneSpec)

end Rows
end Go.Proofs.Ytnkehalednommaa
