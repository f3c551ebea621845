/-
  No cell of these rows narrows 'for every input' (looked for: loops, veiled, ifaces, maps, wideKeys, modest, calm, conditions, laid).
  DERIVED. THE GIVEN ROWS OF THIS SEAT. 10 by the template 'for every input the law returns true; each argument reads behind the call as it read before'; 0 by the template 'total and deterministic' (their statements: YtiejmoglooaalaaTotals.lean).
  GIVEN WITH THE SEED: the statements are not yours to turn. If you find one false, say at which input.
  Laid BY PROGRAM, IN A SANDBOX (cutbox-rows.mjs): the forced cells as the released guide's own fill.sh prints them over the translation fed52f403a6f7494… (all of the seat's roots in one cut). By AI agents, Wed Nov 11 2026. No macro, syntax, notation, axiom, sorry.
-/
import Derived.Test.YtiejmoglooaalaaChecked
import GoSem.Claim
import GoSem.ClaimJoined
import GoSem.ClaimMapViews
import Derived.JoinedTies
import Derived.KernelRfl
namespace Go.Proofs.Ytiejmoglooaalaa
/- THE CELL 'sum', in the pinned program and in every row, IS THE sha256 OF THE DUMP (.gsa) THAT YtiejmoglooaalaaProg.lean LOADS. Nothing in Lean hashes anything: it is a label: what it is worth is what the hold of that sum in a sandbox is worth. -/
noncomputable def Try.pinned : Pinned := { name := "ytiejmoglooaalaa", sum := "fed52f403a6f7494a50e78c3881de249855f4bb36cbd1e7d189884bd7b8a224c", checked := Try.checked }
namespace Rows
def none {H : Type} : Left H := { results := [], args := [] }

/-- 'lampboxlaw02.StreetsTrees': WHATEVER THE INPUT: true; the input reads as it did. -/
def streetsTreesSpec : ChangeSpec := { name := "streetsTrees", fn := fun _ => fun
  | [d1, d2] => { results := [.lit (.bool true)], args := [d1, d2] }
  | _ => none }
def streetsTreesRow : OpenClaim := { program := "ytiejmoglooaalaa", sum := "fed52f403a6f7494a50e78c3881de249855f4bb36cbd1e7d189884bd7b8a224c", func := "lampbox/lampboxlaw02.StreetsTrees", spec := "streetsTrees", unfollowed := true, recurses := true, apart := false }
def StreetsTreesSaid : Prop := streetsTreesRow.holds Try.pinned (OpenSpec.ofChange streetsTreesSpec)

/-- ITS FALSE NEIGHBOUR: 'it returns false'. Refute it at one input. -/
def streetsTreesWrong : ChangeSpec := { name := "streetsTrees", fn := fun _ => fun
  | [d1, d2] => { results := [.lit (.bool false)], args := [d1, d2] }
  | _ => none }
def StreetsTreesWrongFalsely : Prop := streetsTreesRow.holds Try.pinned (OpenSpec.ofChange streetsTreesWrong)

/-- 'lampboxlaw02.StreetsRoom': WHATEVER THE INPUT: true; the input reads as it did. -/
def streetsRoomSpec : ChangeSpec := { name := "streetsRoom", fn := fun _ => fun
  | [d1, d2, d3] => { results := [.lit (.bool true)], args := [d1, d2, d3] }
  | _ => none }
def streetsRoomRow : OpenClaim := { program := "ytiejmoglooaalaa", sum := "fed52f403a6f7494a50e78c3881de249855f4bb36cbd1e7d189884bd7b8a224c", func := "lampbox/lampboxlaw02.StreetsRoom", spec := "streetsRoom", unfollowed := true, recurses := true, apart := false }
def StreetsRoomSaid : Prop := streetsRoomRow.holds Try.pinned (OpenSpec.ofChange streetsRoomSpec)

/-- ITS FALSE NEIGHBOUR: 'it returns false'. Refute it at one input. -/
def streetsRoomWrong : ChangeSpec := { name := "streetsRoom", fn := fun _ => fun
  | [d1, d2, d3] => { results := [.lit (.bool false)], args := [d1, d2, d3] }
  | _ => none }
def StreetsRoomWrongFalsely : Prop := streetsRoomRow.holds Try.pinned (OpenSpec.ofChange streetsRoomWrong)

/-- 'lampboxlaw02.StreetsWays': WHATEVER THE INPUT: true; the input reads as it did. -/
def streetsWaysSpec : ChangeSpec := { name := "streetsWays", fn := fun _ => fun
  | [d1, d2, d3] => { results := [.lit (.bool true)], args := [d1, d2, d3] }
  | _ => none }
def streetsWaysRow : OpenClaim := { program := "ytiejmoglooaalaa", sum := "fed52f403a6f7494a50e78c3881de249855f4bb36cbd1e7d189884bd7b8a224c", func := "lampbox/lampboxlaw02.StreetsWays", spec := "streetsWays", unfollowed := true, recurses := true, apart := false }
def StreetsWaysSaid : Prop := streetsWaysRow.holds Try.pinned (OpenSpec.ofChange streetsWaysSpec)

/-- ITS FALSE NEIGHBOUR: 'it returns false'. Refute it at one input. -/
def streetsWaysWrong : ChangeSpec := { name := "streetsWays", fn := fun _ => fun
  | [d1, d2, d3] => { results := [.lit (.bool false)], args := [d1, d2, d3] }
  | _ => none }
def StreetsWaysWrongFalsely : Prop := streetsWaysRow.holds Try.pinned (OpenSpec.ofChange streetsWaysWrong)

/-- 'lampboxlaw02.StreetsSlack': WHATEVER THE INPUT: true; the input reads as it did. -/
def streetsSlackSpec : ChangeSpec := { name := "streetsSlack", fn := fun _ => fun
  | [d1, d2] => { results := [.lit (.bool true)], args := [d1, d2] }
  | _ => none }
def streetsSlackRow : OpenClaim := { program := "ytiejmoglooaalaa", sum := "fed52f403a6f7494a50e78c3881de249855f4bb36cbd1e7d189884bd7b8a224c", func := "lampbox/lampboxlaw02.StreetsSlack", spec := "streetsSlack", unfollowed := true, recurses := true, apart := false }
def StreetsSlackSaid : Prop := streetsSlackRow.holds Try.pinned (OpenSpec.ofChange streetsSlackSpec)

/-- ITS FALSE NEIGHBOUR: 'it returns false'. Refute it at one input. -/
def streetsSlackWrong : ChangeSpec := { name := "streetsSlack", fn := fun _ => fun
  | [d1, d2] => { results := [.lit (.bool false)], args := [d1, d2] }
  | _ => none }
def StreetsSlackWrongFalsely : Prop := streetsSlackRow.holds Try.pinned (OpenSpec.ofChange streetsSlackWrong)

/-- 'lampboxlaw02.StreetsCounted': WHATEVER THE INPUT: true; the input reads as it did. -/
def streetsCountedSpec : ChangeSpec := { name := "streetsCounted", fn := fun _ => fun
  | [d1, d2] => { results := [.lit (.bool true)], args := [d1, d2] }
  | _ => none }
def streetsCountedRow : OpenClaim := { program := "ytiejmoglooaalaa", sum := "fed52f403a6f7494a50e78c3881de249855f4bb36cbd1e7d189884bd7b8a224c", func := "lampbox/lampboxlaw02.StreetsCounted", spec := "streetsCounted", unfollowed := true, recurses := true, apart := false }
def StreetsCountedSaid : Prop := streetsCountedRow.holds Try.pinned (OpenSpec.ofChange streetsCountedSpec)

/-- ITS FALSE NEIGHBOUR: 'it returns false'. Refute it at one input. -/
def streetsCountedWrong : ChangeSpec := { name := "streetsCounted", fn := fun _ => fun
  | [d1, d2] => { results := [.lit (.bool false)], args := [d1, d2] }
  | _ => none }
def StreetsCountedWrongFalsely : Prop := streetsCountedRow.holds Try.pinned (OpenSpec.ofChange streetsCountedWrong)

/-- 'lampboxlaw02.StreetsApart': WHATEVER THE INPUT: true; the input reads as it did. -/
def streetsApartSpec : ChangeSpec := { name := "streetsApart", fn := fun _ => fun
  | [d1, d2, d3] => { results := [.lit (.bool true)], args := [d1, d2, d3] }
  | _ => none }
def streetsApartRow : OpenClaim := { program := "ytiejmoglooaalaa", sum := "fed52f403a6f7494a50e78c3881de249855f4bb36cbd1e7d189884bd7b8a224c", func := "lampbox/lampboxlaw02.StreetsApart", spec := "streetsApart", unfollowed := true, recurses := true, apart := false }
def StreetsApartSaid : Prop := streetsApartRow.holds Try.pinned (OpenSpec.ofChange streetsApartSpec)

/-- ITS FALSE NEIGHBOUR: 'it returns false'. Refute it at one input. -/
def streetsApartWrong : ChangeSpec := { name := "streetsApart", fn := fun _ => fun
  | [d1, d2, d3] => { results := [.lit (.bool false)], args := [d1, d2, d3] }
  | _ => none }
def StreetsApartWrongFalsely : Prop := streetsApartRow.holds Try.pinned (OpenSpec.ofChange streetsApartWrong)

/-- 'lampboxlaw02.StreetsOwn': WHATEVER THE INPUT: true; the input reads as it did. -/
def streetsOwnSpec : ChangeSpec := { name := "streetsOwn", fn := fun _ => fun
  | [d1, d2] => { results := [.lit (.bool true)], args := [d1, d2] }
  | _ => none }
def streetsOwnRow : OpenClaim := { program := "ytiejmoglooaalaa", sum := "fed52f403a6f7494a50e78c3881de249855f4bb36cbd1e7d189884bd7b8a224c", func := "lampbox/lampboxlaw02.StreetsOwn", spec := "streetsOwn", unfollowed := true, recurses := true, apart := false }
def StreetsOwnSaid : Prop := streetsOwnRow.holds Try.pinned (OpenSpec.ofChange streetsOwnSpec)

/-- ITS FALSE NEIGHBOUR: 'it returns false'. Refute it at one input. -/
def streetsOwnWrong : ChangeSpec := { name := "streetsOwn", fn := fun _ => fun
  | [d1, d2] => { results := [.lit (.bool false)], args := [d1, d2] }
  | _ => none }
def StreetsOwnWrongFalsely : Prop := streetsOwnRow.holds Try.pinned (OpenSpec.ofChange streetsOwnWrong)

/-- 'lampboxlaw02.StreetsBetter': WHATEVER THE INPUT: true; the input reads as it did. -/
def streetsBetterSpec : ChangeSpec := { name := "streetsBetter", fn := fun _ => fun
  | [d1, d2, d3] => { results := [.lit (.bool true)], args := [d1, d2, d3] }
  | _ => none }
def streetsBetterRow : OpenClaim := { program := "ytiejmoglooaalaa", sum := "fed52f403a6f7494a50e78c3881de249855f4bb36cbd1e7d189884bd7b8a224c", func := "lampbox/lampboxlaw02.StreetsBetter", spec := "streetsBetter", unfollowed := true, recurses := true, apart := false }
def StreetsBetterSaid : Prop := streetsBetterRow.holds Try.pinned (OpenSpec.ofChange streetsBetterSpec)

/-- ITS FALSE NEIGHBOUR: 'it returns false'. Refute it at one input. -/
def streetsBetterWrong : ChangeSpec := { name := "streetsBetter", fn := fun _ => fun
  | [d1, d2, d3] => { results := [.lit (.bool false)], args := [d1, d2, d3] }
  | _ => none }
def StreetsBetterWrongFalsely : Prop := streetsBetterRow.holds Try.pinned (OpenSpec.ofChange streetsBetterWrong)

/-- 'lampboxlaw02.StreetsLeast': WHATEVER THE INPUT: true; the input reads as it did. -/
def streetsLeastSpec : ChangeSpec := { name := "streetsLeast", fn := fun _ => fun
  | [d1, d2, d3] => { results := [.lit (.bool true)], args := [d1, d2, d3] }
  | _ => none }
def streetsLeastRow : OpenClaim := { program := "ytiejmoglooaalaa", sum := "fed52f403a6f7494a50e78c3881de249855f4bb36cbd1e7d189884bd7b8a224c", func := "lampbox/lampboxlaw02.StreetsLeast", spec := "streetsLeast", unfollowed := true, recurses := true, apart := false }
def StreetsLeastSaid : Prop := streetsLeastRow.holds Try.pinned (OpenSpec.ofChange streetsLeastSpec)

/-- ITS FALSE NEIGHBOUR: 'it returns false'. Refute it at one input. -/
def streetsLeastWrong : ChangeSpec := { name := "streetsLeast", fn := fun _ => fun
  | [d1, d2, d3] => { results := [.lit (.bool false)], args := [d1, d2, d3] }
  | _ => none }
def StreetsLeastWrongFalsely : Prop := streetsLeastRow.holds Try.pinned (OpenSpec.ofChange streetsLeastWrong)

/-- 'lampboxlaw02.StreetsGroups': WHATEVER THE INPUT: true; the input reads as it did. -/
def streetsGroupsSpec : ChangeSpec := { name := "streetsGroups", fn := fun _ => fun
  | [d1, d2, d3] => { results := [.lit (.bool true)], args := [d1, d2, d3] }
  | _ => none }
def streetsGroupsRow : OpenClaim := { program := "ytiejmoglooaalaa", sum := "fed52f403a6f7494a50e78c3881de249855f4bb36cbd1e7d189884bd7b8a224c", func := "lampbox/lampboxlaw02.StreetsGroups", spec := "streetsGroups", unfollowed := true, recurses := true, apart := false }
def StreetsGroupsSaid : Prop := streetsGroupsRow.holds Try.pinned (OpenSpec.ofChange streetsGroupsSpec)

/-- ITS FALSE NEIGHBOUR: 'it returns false'. Refute it at one input. -/
def streetsGroupsWrong : ChangeSpec := { name := "streetsGroups", fn := fun _ => fun
  | [d1, d2, d3] => { results := [.lit (.bool false)], args := [d1, d2, d3] }
  | _ => none }
def StreetsGroupsWrongFalsely : Prop := streetsGroupsRow.holds Try.pinned (OpenSpec.ofChange streetsGroupsWrong)

/- THE SECOND FORM. 'bulk': how many values and letters a reading holds, each counted each time it is reached (what is shared counts as often as it is met; a slice's spare places count too). A statement '..UptoSaid' is the law's where the arguments, and the package variables that the reading takes, are together of bulk at most 1048576: NARROWER than '..Said'. Prove '..Said' where nothing that the law and all that it calls make is longer than what came in: it says more and counts as full. Else prove '..UptoSaid'. A law counts once. -/
mutual
def uptoBulk {H : Type} : DataW H → Nat
  | .lit (.string bytes) => bytes.length + 1
  | .lit _ => 1
  | .nil => 1
  | .ptr d => uptoBulk d + 1
  | .slice elems spare => uptoBulkAll elems + uptoBulkAll spare + 1
  | .agg parts => uptoBulkAll parts + 1
  | .iface _ d => uptoBulk d + 1
  | .map entries => uptoBulkEntries entries + 1
  | .held _ => 1
def uptoBulkAll {H : Type} : List (DataW H) → Nat
  | [] => 0
  | d :: r => uptoBulk d + uptoBulkAll r
def uptoBulkEntries {H : Type} : List (Lit × DataW H) → Nat
  | [] => 0
  | x :: r => uptoBulkEntry x + uptoBulkEntries r
def uptoBulkEntry {H : Type} : Lit × DataW H → Nat
  | (.string bytes, d) => bytes.length + uptoBulk d + 1
  | (_, d) => uptoBulk d + 1
 end
def uptoSmall : (H : Type) → List (DataW H) → Bool := fun _ ds => decide (uptoBulkAll ds ≤ 1048576)
def OpenSpec.upto (s : _root_.Go.ChangeSpec) : _root_.Go.OpenSpec := { _root_.Go.OpenSpec.ofChange s with cond := some uptoSmall }

/-- 'lampboxlaw02.StreetsTrees', WHERE WHAT IT READS IS OF BULK AT MOST 1048576: true; the input reads as it did. -/
def streetsTreesUptoRow : OpenClaim := { program := "ytiejmoglooaalaa", sum := "fed52f403a6f7494a50e78c3881de249855f4bb36cbd1e7d189884bd7b8a224c", func := "lampbox/lampboxlaw02.StreetsTrees", spec := "streetsTrees", unfollowed := true, recurses := true, apart := false, narrowed := true }
def StreetsTreesUptoSaid : Prop := streetsTreesUptoRow.holds Try.pinned (OpenSpec.upto streetsTreesSpec)

/-- 'lampboxlaw02.StreetsRoom', WHERE WHAT IT READS IS OF BULK AT MOST 1048576: true; the input reads as it did. -/
def streetsRoomUptoRow : OpenClaim := { program := "ytiejmoglooaalaa", sum := "fed52f403a6f7494a50e78c3881de249855f4bb36cbd1e7d189884bd7b8a224c", func := "lampbox/lampboxlaw02.StreetsRoom", spec := "streetsRoom", unfollowed := true, recurses := true, apart := false, narrowed := true }
def StreetsRoomUptoSaid : Prop := streetsRoomUptoRow.holds Try.pinned (OpenSpec.upto streetsRoomSpec)

/-- 'lampboxlaw02.StreetsWays', WHERE WHAT IT READS IS OF BULK AT MOST 1048576: true; the input reads as it did. -/
def streetsWaysUptoRow : OpenClaim := { program := "ytiejmoglooaalaa", sum := "fed52f403a6f7494a50e78c3881de249855f4bb36cbd1e7d189884bd7b8a224c", func := "lampbox/lampboxlaw02.StreetsWays", spec := "streetsWays", unfollowed := true, recurses := true, apart := false, narrowed := true }
def StreetsWaysUptoSaid : Prop := streetsWaysUptoRow.holds Try.pinned (OpenSpec.upto streetsWaysSpec)

/-- 'lampboxlaw02.StreetsSlack', WHERE WHAT IT READS IS OF BULK AT MOST 1048576: true; the input reads as it did. -/
def streetsSlackUptoRow : OpenClaim := { program := "ytiejmoglooaalaa", sum := "fed52f403a6f7494a50e78c3881de249855f4bb36cbd1e7d189884bd7b8a224c", func := "lampbox/lampboxlaw02.StreetsSlack", spec := "streetsSlack", unfollowed := true, recurses := true, apart := false, narrowed := true }
def StreetsSlackUptoSaid : Prop := streetsSlackUptoRow.holds Try.pinned (OpenSpec.upto streetsSlackSpec)

/-- 'lampboxlaw02.StreetsCounted', WHERE WHAT IT READS IS OF BULK AT MOST 1048576: true; the input reads as it did. -/
def streetsCountedUptoRow : OpenClaim := { program := "ytiejmoglooaalaa", sum := "fed52f403a6f7494a50e78c3881de249855f4bb36cbd1e7d189884bd7b8a224c", func := "lampbox/lampboxlaw02.StreetsCounted", spec := "streetsCounted", unfollowed := true, recurses := true, apart := false, narrowed := true }
def StreetsCountedUptoSaid : Prop := streetsCountedUptoRow.holds Try.pinned (OpenSpec.upto streetsCountedSpec)

/-- 'lampboxlaw02.StreetsApart', WHERE WHAT IT READS IS OF BULK AT MOST 1048576: true; the input reads as it did. -/
def streetsApartUptoRow : OpenClaim := { program := "ytiejmoglooaalaa", sum := "fed52f403a6f7494a50e78c3881de249855f4bb36cbd1e7d189884bd7b8a224c", func := "lampbox/lampboxlaw02.StreetsApart", spec := "streetsApart", unfollowed := true, recurses := true, apart := false, narrowed := true }
def StreetsApartUptoSaid : Prop := streetsApartUptoRow.holds Try.pinned (OpenSpec.upto streetsApartSpec)

/-- 'lampboxlaw02.StreetsOwn', WHERE WHAT IT READS IS OF BULK AT MOST 1048576: true; the input reads as it did. -/
def streetsOwnUptoRow : OpenClaim := { program := "ytiejmoglooaalaa", sum := "fed52f403a6f7494a50e78c3881de249855f4bb36cbd1e7d189884bd7b8a224c", func := "lampbox/lampboxlaw02.StreetsOwn", spec := "streetsOwn", unfollowed := true, recurses := true, apart := false, narrowed := true }
def StreetsOwnUptoSaid : Prop := streetsOwnUptoRow.holds Try.pinned (OpenSpec.upto streetsOwnSpec)

/-- 'lampboxlaw02.StreetsBetter', WHERE WHAT IT READS IS OF BULK AT MOST 1048576: true; the input reads as it did. -/
def streetsBetterUptoRow : OpenClaim := { program := "ytiejmoglooaalaa", sum := "fed52f403a6f7494a50e78c3881de249855f4bb36cbd1e7d189884bd7b8a224c", func := "lampbox/lampboxlaw02.StreetsBetter", spec := "streetsBetter", unfollowed := true, recurses := true, apart := false, narrowed := true }
def StreetsBetterUptoSaid : Prop := streetsBetterUptoRow.holds Try.pinned (OpenSpec.upto streetsBetterSpec)

/-- 'lampboxlaw02.StreetsLeast', WHERE WHAT IT READS IS OF BULK AT MOST 1048576: true; the input reads as it did. -/
def streetsLeastUptoRow : OpenClaim := { program := "ytiejmoglooaalaa", sum := "fed52f403a6f7494a50e78c3881de249855f4bb36cbd1e7d189884bd7b8a224c", func := "lampbox/lampboxlaw02.StreetsLeast", spec := "streetsLeast", unfollowed := true, recurses := true, apart := false, narrowed := true }
def StreetsLeastUptoSaid : Prop := streetsLeastUptoRow.holds Try.pinned (OpenSpec.upto streetsLeastSpec)

/-- 'lampboxlaw02.StreetsGroups', WHERE WHAT IT READS IS OF BULK AT MOST 1048576: true; the input reads as it did. -/
def streetsGroupsUptoRow : OpenClaim := { program := "ytiejmoglooaalaa", sum := "fed52f403a6f7494a50e78c3881de249855f4bb36cbd1e7d189884bd7b8a224c", func := "lampbox/lampboxlaw02.StreetsGroups", spec := "streetsGroups", unfollowed := true, recurses := true, apart := false, narrowed := true }
def StreetsGroupsUptoSaid : Prop := streetsGroupsUptoRow.holds Try.pinned (OpenSpec.upto streetsGroupsSpec)

end Rows
end Go.Proofs.Ytiejmoglooaalaa
