/-
  No cell of these rows narrows 'for every input' (looked for: loops, veiled, ifaces, maps, wideKeys, modest, calm, conditions, laid).
  DERIVED. THE GIVEN ROWS OF THIS SEAT. 13 by the template 'for every input the law returns true; each argument reads behind the call as it read before'; 0 by the template 'total and deterministic' (their statements: YtmhfkhlamnapdaaTotals.lean).
  GIVEN WITH THE SEED: the statements are not yours to turn. If you find one false, say at which input.
  Laid BY PROGRAM, IN A SANDBOX (cutbox-rows.mjs): the forced cells as the released guide's own fill.sh prints them over the translation ed89061510b405ec… (all of the seat's roots in one cut). By AI agents, Wed Nov 11 2026. No macro, syntax, notation, axiom, sorry.
-/
import Derived.Test.YtmhfkhlamnapdaaChecked
import GoSem.Claim
import GoSem.ClaimJoined
import GoSem.ClaimMapViews
import Derived.JoinedTies
import Derived.KernelRfl
namespace Go.Proofs.Ytmhfkhlamnapdaa
/- THE CELL 'sum', in the pinned program and in every row, IS THE sha256 OF THE DUMP (.gsa) THAT YtmhfkhlamnapdaaProg.lean LOADS. Nothing in Lean hashes anything: it is a label: what it is worth is what the hold of that sum in a sandbox is worth. -/
noncomputable def Try.pinned : Pinned := { name := "ytmhfkhlamnapdaa", sum := "ed89061510b405eceeff4f20670016389b51188535b1ec51bb50fb12cfa53928", checked := Try.checked }
namespace Rows
def none {H : Type} : Left H := { results := [], args := [] }

/-- 'lampboxlaw09.RelayCenters': WHATEVER THE INPUT: true; the input reads as it did. -/
def relayCentersSpec : ChangeSpec := { name := "relayCenters", fn := fun _ => fun
  | [d1, d2] => { results := [.lit (.bool true)], args := [d1, d2] }
  | _ => none }
def relayCentersRow : OpenClaim := { program := "ytmhfkhlamnapdaa", sum := "ed89061510b405eceeff4f20670016389b51188535b1ec51bb50fb12cfa53928", func := "lampbox/lampboxlaw09.RelayCenters", spec := "relayCenters", unfollowed := true, recurses := true, plainKeys := false, apart := false }
def RelayCentersSaid : Prop := relayCentersRow.holds Try.pinned (OpenSpec.ofChange relayCentersSpec)

/-- ITS FALSE NEIGHBOUR: 'it returns false'. Refute it at one input. -/
def relayCentersWrong : ChangeSpec := { name := "relayCenters", fn := fun _ => fun
  | [d1, d2] => { results := [.lit (.bool false)], args := [d1, d2] }
  | _ => none }
def RelayCentersWrongFalsely : Prop := relayCentersRow.holds Try.pinned (OpenSpec.ofChange relayCentersWrong)

/-- 'lampboxlaw09.RelayGrows': WHATEVER THE INPUT: true; the input reads as it did. -/
def relayGrowsSpec : ChangeSpec := { name := "relayGrows", fn := fun _ => fun
  | [d1, d2, d3] => { results := [.lit (.bool true)], args := [d1, d2, d3] }
  | _ => none }
def relayGrowsRow : OpenClaim := { program := "ytmhfkhlamnapdaa", sum := "ed89061510b405eceeff4f20670016389b51188535b1ec51bb50fb12cfa53928", func := "lampbox/lampboxlaw09.RelayGrows", spec := "relayGrows", unfollowed := true, recurses := true, plainKeys := false, apart := false }
def RelayGrowsSaid : Prop := relayGrowsRow.holds Try.pinned (OpenSpec.ofChange relayGrowsSpec)

/-- ITS FALSE NEIGHBOUR: 'it returns false'. Refute it at one input. -/
def relayGrowsWrong : ChangeSpec := { name := "relayGrows", fn := fun _ => fun
  | [d1, d2, d3] => { results := [.lit (.bool false)], args := [d1, d2, d3] }
  | _ => none }
def RelayGrowsWrongFalsely : Prop := relayGrowsRow.holds Try.pinned (OpenSpec.ofChange relayGrowsWrong)

/-- 'lampboxlaw09.RelayBetween': WHATEVER THE INPUT: true; the input reads as it did. -/
def relayBetweenSpec : ChangeSpec := { name := "relayBetween", fn := fun _ => fun
  | [d1, d2, d3] => { results := [.lit (.bool true)], args := [d1, d2, d3] }
  | _ => none }
def relayBetweenRow : OpenClaim := { program := "ytmhfkhlamnapdaa", sum := "ed89061510b405eceeff4f20670016389b51188535b1ec51bb50fb12cfa53928", func := "lampbox/lampboxlaw09.RelayBetween", spec := "relayBetween", unfollowed := true, recurses := true, plainKeys := false, apart := false }
def RelayBetweenSaid : Prop := relayBetweenRow.holds Try.pinned (OpenSpec.ofChange relayBetweenSpec)

/-- ITS FALSE NEIGHBOUR: 'it returns false'. Refute it at one input. -/
def relayBetweenWrong : ChangeSpec := { name := "relayBetween", fn := fun _ => fun
  | [d1, d2, d3] => { results := [.lit (.bool false)], args := [d1, d2, d3] }
  | _ => none }
def RelayBetweenWrongFalsely : Prop := relayBetweenRow.holds Try.pinned (OpenSpec.ofChange relayBetweenWrong)

/-- 'lampboxlaw09.RelayMiddle': WHATEVER THE INPUT: true; the input reads as it did. -/
def relayMiddleSpec : ChangeSpec := { name := "relayMiddle", fn := fun _ => fun
  | [d1, d2, d3] => { results := [.lit (.bool true)], args := [d1, d2, d3] }
  | _ => none }
def relayMiddleRow : OpenClaim := { program := "ytmhfkhlamnapdaa", sum := "ed89061510b405eceeff4f20670016389b51188535b1ec51bb50fb12cfa53928", func := "lampbox/lampboxlaw09.RelayMiddle", spec := "relayMiddle", unfollowed := true, recurses := true, plainKeys := false, apart := false }
def RelayMiddleSaid : Prop := relayMiddleRow.holds Try.pinned (OpenSpec.ofChange relayMiddleSpec)

/-- ITS FALSE NEIGHBOUR: 'it returns false'. Refute it at one input. -/
def relayMiddleWrong : ChangeSpec := { name := "relayMiddle", fn := fun _ => fun
  | [d1, d2, d3] => { results := [.lit (.bool false)], args := [d1, d2, d3] }
  | _ => none }
def RelayMiddleWrongFalsely : Prop := relayMiddleRow.holds Try.pinned (OpenSpec.ofChange relayMiddleWrong)

/-- 'lampboxlaw09.RelayTables': WHATEVER THE INPUT: true; the input reads as it did. -/
def relayTablesSpec : ChangeSpec := { name := "relayTables", fn := fun _ => fun
  | [d] => { results := [.lit (.bool true)], args := [d] }
  | _ => none }
def relayTablesRow : OpenClaim := { program := "ytmhfkhlamnapdaa", sum := "ed89061510b405eceeff4f20670016389b51188535b1ec51bb50fb12cfa53928", func := "lampbox/lampboxlaw09.RelayTables", spec := "relayTables", unfollowed := true, recurses := true, plainKeys := false, apart := false }
def RelayTablesSaid : Prop := relayTablesRow.holds Try.pinned (OpenSpec.ofChange relayTablesSpec)

/-- ITS FALSE NEIGHBOUR: 'it returns false'. Refute it at one input. -/
def relayTablesWrong : ChangeSpec := { name := "relayTables", fn := fun _ => fun
  | [d] => { results := [.lit (.bool false)], args := [d] }
  | _ => none }
def RelayTablesWrongFalsely : Prop := relayTablesRow.holds Try.pinned (OpenSpec.ofChange relayTablesWrong)

/-- 'lampboxlaw09.RelayChecks': WHATEVER THE INPUT: true; the input reads as it did. -/
def relayChecksSpec : ChangeSpec := { name := "relayChecks", fn := fun _ => fun
  | [d1, d2] => { results := [.lit (.bool true)], args := [d1, d2] }
  | _ => none }
def relayChecksRow : OpenClaim := { program := "ytmhfkhlamnapdaa", sum := "ed89061510b405eceeff4f20670016389b51188535b1ec51bb50fb12cfa53928", func := "lampbox/lampboxlaw09.RelayChecks", spec := "relayChecks", unfollowed := true, recurses := true, plainKeys := false, apart := false }
def RelayChecksSaid : Prop := relayChecksRow.holds Try.pinned (OpenSpec.ofChange relayChecksSpec)

/-- ITS FALSE NEIGHBOUR: 'it returns false'. Refute it at one input. -/
def relayChecksWrong : ChangeSpec := { name := "relayChecks", fn := fun _ => fun
  | [d1, d2] => { results := [.lit (.bool false)], args := [d1, d2] }
  | _ => none }
def RelayChecksWrongFalsely : Prop := relayChecksRow.holds Try.pinned (OpenSpec.ofChange relayChecksWrong)

/-- 'lampboxlaw09.RelayOwn': WHATEVER THE INPUT: true; the input reads as it did. -/
def relayOwnSpec : ChangeSpec := { name := "relayOwn", fn := fun _ => fun
  | [d1, d2, d3] => { results := [.lit (.bool true)], args := [d1, d2, d3] }
  | _ => none }
def relayOwnRow : OpenClaim := { program := "ytmhfkhlamnapdaa", sum := "ed89061510b405eceeff4f20670016389b51188535b1ec51bb50fb12cfa53928", func := "lampbox/lampboxlaw09.RelayOwn", spec := "relayOwn", unfollowed := true, recurses := true, plainKeys := false, apart := false }
def RelayOwnSaid : Prop := relayOwnRow.holds Try.pinned (OpenSpec.ofChange relayOwnSpec)

/-- ITS FALSE NEIGHBOUR: 'it returns false'. Refute it at one input. -/
def relayOwnWrong : ChangeSpec := { name := "relayOwn", fn := fun _ => fun
  | [d1, d2, d3] => { results := [.lit (.bool false)], args := [d1, d2, d3] }
  | _ => none }
def RelayOwnWrongFalsely : Prop := relayOwnRow.holds Try.pinned (OpenSpec.ofChange relayOwnWrong)

/-- 'lampboxlaw09.RelaySpreads': WHATEVER THE INPUT: true; the input reads as it did. -/
def relaySpreadsSpec : ChangeSpec := { name := "relaySpreads", fn := fun _ => fun
  | [d1, d2, d3] => { results := [.lit (.bool true)], args := [d1, d2, d3] }
  | _ => none }
def relaySpreadsRow : OpenClaim := { program := "ytmhfkhlamnapdaa", sum := "ed89061510b405eceeff4f20670016389b51188535b1ec51bb50fb12cfa53928", func := "lampbox/lampboxlaw09.RelaySpreads", spec := "relaySpreads", unfollowed := true, recurses := true, plainKeys := false, apart := false }
def RelaySpreadsSaid : Prop := relaySpreadsRow.holds Try.pinned (OpenSpec.ofChange relaySpreadsSpec)

/-- ITS FALSE NEIGHBOUR: 'it returns false'. Refute it at one input. -/
def relaySpreadsWrong : ChangeSpec := { name := "relaySpreads", fn := fun _ => fun
  | [d1, d2, d3] => { results := [.lit (.bool false)], args := [d1, d2, d3] }
  | _ => none }
def RelaySpreadsWrongFalsely : Prop := relaySpreadsRow.holds Try.pinned (OpenSpec.ofChange relaySpreadsWrong)

/-- 'lampboxlaw09.RelayFewest': WHATEVER THE INPUT: true; the input reads as it did. -/
def relayFewestSpec : ChangeSpec := { name := "relayFewest", fn := fun _ => fun
  | [d] => { results := [.lit (.bool true)], args := [d] }
  | _ => none }
def relayFewestRow : OpenClaim := { program := "ytmhfkhlamnapdaa", sum := "ed89061510b405eceeff4f20670016389b51188535b1ec51bb50fb12cfa53928", func := "lampbox/lampboxlaw09.RelayFewest", spec := "relayFewest", unfollowed := true, recurses := true, plainKeys := false, apart := false }
def RelayFewestSaid : Prop := relayFewestRow.holds Try.pinned (OpenSpec.ofChange relayFewestSpec)

/-- ITS FALSE NEIGHBOUR: 'it returns false'. Refute it at one input. -/
def relayFewestWrong : ChangeSpec := { name := "relayFewest", fn := fun _ => fun
  | [d] => { results := [.lit (.bool false)], args := [d] }
  | _ => none }
def RelayFewestWrongFalsely : Prop := relayFewestRow.holds Try.pinned (OpenSpec.ofChange relayFewestWrong)

/-- 'lampboxlaw09.RelayTimes': WHATEVER THE INPUT: true; the input reads as it did. -/
def relayTimesSpec : ChangeSpec := { name := "relayTimes", fn := fun _ => fun
  | [d1, d2, d3] => { results := [.lit (.bool true)], args := [d1, d2, d3] }
  | _ => none }
def relayTimesRow : OpenClaim := { program := "ytmhfkhlamnapdaa", sum := "ed89061510b405eceeff4f20670016389b51188535b1ec51bb50fb12cfa53928", func := "lampbox/lampboxlaw09.RelayTimes", spec := "relayTimes", unfollowed := true, recurses := true, plainKeys := false, apart := false }
def RelayTimesSaid : Prop := relayTimesRow.holds Try.pinned (OpenSpec.ofChange relayTimesSpec)

/-- ITS FALSE NEIGHBOUR: 'it returns false'. Refute it at one input. -/
def relayTimesWrong : ChangeSpec := { name := "relayTimes", fn := fun _ => fun
  | [d1, d2, d3] => { results := [.lit (.bool false)], args := [d1, d2, d3] }
  | _ => none }
def RelayTimesWrongFalsely : Prop := relayTimesRow.holds Try.pinned (OpenSpec.ofChange relayTimesWrong)

/-- 'lampboxlaw09.RelayCalls': WHATEVER THE INPUT: true; the input reads as it did. -/
def relayCallsSpec : ChangeSpec := { name := "relayCalls", fn := fun _ => fun
  | [d1, d2] => { results := [.lit (.bool true)], args := [d1, d2] }
  | _ => none }
def relayCallsRow : OpenClaim := { program := "ytmhfkhlamnapdaa", sum := "ed89061510b405eceeff4f20670016389b51188535b1ec51bb50fb12cfa53928", func := "lampbox/lampboxlaw09.RelayCalls", spec := "relayCalls", unfollowed := true, recurses := true, plainKeys := false, apart := false }
def RelayCallsSaid : Prop := relayCallsRow.holds Try.pinned (OpenSpec.ofChange relayCallsSpec)

/-- ITS FALSE NEIGHBOUR: 'it returns false'. Refute it at one input. -/
def relayCallsWrong : ChangeSpec := { name := "relayCalls", fn := fun _ => fun
  | [d1, d2] => { results := [.lit (.bool false)], args := [d1, d2] }
  | _ => none }
def RelayCallsWrongFalsely : Prop := relayCallsRow.holds Try.pinned (OpenSpec.ofChange relayCallsWrong)

/-- 'lampboxlaw09.RelayTurned': WHATEVER THE INPUT: true; the input reads as it did. -/
def relayTurnedSpec : ChangeSpec := { name := "relayTurned", fn := fun _ => fun
  | [d1, d2, d3] => { results := [.lit (.bool true)], args := [d1, d2, d3] }
  | _ => none }
def relayTurnedRow : OpenClaim := { program := "ytmhfkhlamnapdaa", sum := "ed89061510b405eceeff4f20670016389b51188535b1ec51bb50fb12cfa53928", func := "lampbox/lampboxlaw09.RelayTurned", spec := "relayTurned", unfollowed := true, recurses := true, plainKeys := false, apart := false }
def RelayTurnedSaid : Prop := relayTurnedRow.holds Try.pinned (OpenSpec.ofChange relayTurnedSpec)

/-- ITS FALSE NEIGHBOUR: 'it returns false'. Refute it at one input. -/
def relayTurnedWrong : ChangeSpec := { name := "relayTurned", fn := fun _ => fun
  | [d1, d2, d3] => { results := [.lit (.bool false)], args := [d1, d2, d3] }
  | _ => none }
def RelayTurnedWrongFalsely : Prop := relayTurnedRow.holds Try.pinned (OpenSpec.ofChange relayTurnedWrong)

/-- 'lampboxlaw09.RelayEnough': WHATEVER THE INPUT: true; the input reads as it did. -/
def relayEnoughSpec : ChangeSpec := { name := "relayEnough", fn := fun _ => fun
  | [d] => { results := [.lit (.bool true)], args := [d] }
  | _ => none }
def relayEnoughRow : OpenClaim := { program := "ytmhfkhlamnapdaa", sum := "ed89061510b405eceeff4f20670016389b51188535b1ec51bb50fb12cfa53928", func := "lampbox/lampboxlaw09.RelayEnough", spec := "relayEnough", unfollowed := true, recurses := true, plainKeys := false, apart := false }
def RelayEnoughSaid : Prop := relayEnoughRow.holds Try.pinned (OpenSpec.ofChange relayEnoughSpec)

/-- ITS FALSE NEIGHBOUR: 'it returns false'. Refute it at one input. -/
def relayEnoughWrong : ChangeSpec := { name := "relayEnough", fn := fun _ => fun
  | [d] => { results := [.lit (.bool false)], args := [d] }
  | _ => none }
def RelayEnoughWrongFalsely : Prop := relayEnoughRow.holds Try.pinned (OpenSpec.ofChange relayEnoughWrong)

/- THE SECOND FORM. 'bulk': how many values and letters a reading holds, each counted each time it is reached (what is shared counts as often as it is met; a slice's spare places count too). A statement '..UptoSaid' is the law's where the arguments, and the package variables that the reading takes, are together of bulk at most 1048576: NARROWER than '..Said'. Prove '..Said' where nothing that the law and all that it calls make is longer than what came in: it says more and counts as full. Else prove '..UptoSaid'. A law counts once. -/
mutual
def uptoBulk {H : Type} : DataW H → Nat
  | .lit (.string bytes) => bytes.length + 1
  | .lit _ => 1
  | .nil => 1
  | .ptr d => uptoBulk d + 1
  | .slice elems spare => uptoBulkAll elems + uptoBulkAll spare + 1
  | .agg parts => uptoBulkAll parts + 1
  | .iface _ d => uptoBulk d + 1
  | .map entries => uptoBulkEntries entries + 1
  | .held _ => 1
def uptoBulkAll {H : Type} : List (DataW H) → Nat
  | [] => 0
  | d :: r => uptoBulk d + uptoBulkAll r
def uptoBulkEntries {H : Type} : List (Lit × DataW H) → Nat
  | [] => 0
  | x :: r => uptoBulkEntry x + uptoBulkEntries r
def uptoBulkEntry {H : Type} : Lit × DataW H → Nat
  | (.string bytes, d) => bytes.length + uptoBulk d + 1
  | (_, d) => uptoBulk d + 1
 end
def uptoSmall : (H : Type) → List (DataW H) → Bool := fun _ ds => decide (uptoBulkAll ds ≤ 1048576)
def OpenSpec.upto (s : _root_.Go.ChangeSpec) : _root_.Go.OpenSpec := { _root_.Go.OpenSpec.ofChange s with cond := some uptoSmall }

/-- 'lampboxlaw09.RelayCenters', WHERE WHAT IT READS IS OF BULK AT MOST 1048576: true; the input reads as it did. -/
def relayCentersUptoRow : OpenClaim := { program := "ytmhfkhlamnapdaa", sum := "ed89061510b405eceeff4f20670016389b51188535b1ec51bb50fb12cfa53928", func := "lampbox/lampboxlaw09.RelayCenters", spec := "relayCenters", unfollowed := true, recurses := true, plainKeys := false, apart := false, narrowed := true }
def RelayCentersUptoSaid : Prop := relayCentersUptoRow.holds Try.pinned (OpenSpec.upto relayCentersSpec)

/-- 'lampboxlaw09.RelayGrows', WHERE WHAT IT READS IS OF BULK AT MOST 1048576: true; the input reads as it did. -/
def relayGrowsUptoRow : OpenClaim := { program := "ytmhfkhlamnapdaa", sum := "ed89061510b405eceeff4f20670016389b51188535b1ec51bb50fb12cfa53928", func := "lampbox/lampboxlaw09.RelayGrows", spec := "relayGrows", unfollowed := true, recurses := true, plainKeys := false, apart := false, narrowed := true }
def RelayGrowsUptoSaid : Prop := relayGrowsUptoRow.holds Try.pinned (OpenSpec.upto relayGrowsSpec)

/-- 'lampboxlaw09.RelayBetween', WHERE WHAT IT READS IS OF BULK AT MOST 1048576: true; the input reads as it did. -/
def relayBetweenUptoRow : OpenClaim := { program := "ytmhfkhlamnapdaa", sum := "ed89061510b405eceeff4f20670016389b51188535b1ec51bb50fb12cfa53928", func := "lampbox/lampboxlaw09.RelayBetween", spec := "relayBetween", unfollowed := true, recurses := true, plainKeys := false, apart := false, narrowed := true }
def RelayBetweenUptoSaid : Prop := relayBetweenUptoRow.holds Try.pinned (OpenSpec.upto relayBetweenSpec)

/-- 'lampboxlaw09.RelayMiddle', WHERE WHAT IT READS IS OF BULK AT MOST 1048576: true; the input reads as it did. -/
def relayMiddleUptoRow : OpenClaim := { program := "ytmhfkhlamnapdaa", sum := "ed89061510b405eceeff4f20670016389b51188535b1ec51bb50fb12cfa53928", func := "lampbox/lampboxlaw09.RelayMiddle", spec := "relayMiddle", unfollowed := true, recurses := true, plainKeys := false, apart := false, narrowed := true }
def RelayMiddleUptoSaid : Prop := relayMiddleUptoRow.holds Try.pinned (OpenSpec.upto relayMiddleSpec)

/-- 'lampboxlaw09.RelayTables', WHERE WHAT IT READS IS OF BULK AT MOST 1048576: true; the input reads as it did. -/
def relayTablesUptoRow : OpenClaim := { program := "ytmhfkhlamnapdaa", sum := "ed89061510b405eceeff4f20670016389b51188535b1ec51bb50fb12cfa53928", func := "lampbox/lampboxlaw09.RelayTables", spec := "relayTables", unfollowed := true, recurses := true, plainKeys := false, apart := false, narrowed := true }
def RelayTablesUptoSaid : Prop := relayTablesUptoRow.holds Try.pinned (OpenSpec.upto relayTablesSpec)

/-- 'lampboxlaw09.RelayChecks', WHERE WHAT IT READS IS OF BULK AT MOST 1048576: true; the input reads as it did. -/
def relayChecksUptoRow : OpenClaim := { program := "ytmhfkhlamnapdaa", sum := "ed89061510b405eceeff4f20670016389b51188535b1ec51bb50fb12cfa53928", func := "lampbox/lampboxlaw09.RelayChecks", spec := "relayChecks", unfollowed := true, recurses := true, plainKeys := false, apart := false, narrowed := true }
def RelayChecksUptoSaid : Prop := relayChecksUptoRow.holds Try.pinned (OpenSpec.upto relayChecksSpec)

/-- 'lampboxlaw09.RelayOwn', WHERE WHAT IT READS IS OF BULK AT MOST 1048576: true; the input reads as it did. -/
def relayOwnUptoRow : OpenClaim := { program := "ytmhfkhlamnapdaa", sum := "ed89061510b405eceeff4f20670016389b51188535b1ec51bb50fb12cfa53928", func := "lampbox/lampboxlaw09.RelayOwn", spec := "relayOwn", unfollowed := true, recurses := true, plainKeys := false, apart := false, narrowed := true }
def RelayOwnUptoSaid : Prop := relayOwnUptoRow.holds Try.pinned (OpenSpec.upto relayOwnSpec)

/-- 'lampboxlaw09.RelaySpreads', WHERE WHAT IT READS IS OF BULK AT MOST 1048576: true; the input reads as it did. -/
def relaySpreadsUptoRow : OpenClaim := { program := "ytmhfkhlamnapdaa", sum := "ed89061510b405eceeff4f20670016389b51188535b1ec51bb50fb12cfa53928", func := "lampbox/lampboxlaw09.RelaySpreads", spec := "relaySpreads", unfollowed := true, recurses := true, plainKeys := false, apart := false, narrowed := true }
def RelaySpreadsUptoSaid : Prop := relaySpreadsUptoRow.holds Try.pinned (OpenSpec.upto relaySpreadsSpec)

/-- 'lampboxlaw09.RelayFewest', WHERE WHAT IT READS IS OF BULK AT MOST 1048576: true; the input reads as it did. -/
def relayFewestUptoRow : OpenClaim := { program := "ytmhfkhlamnapdaa", sum := "ed89061510b405eceeff4f20670016389b51188535b1ec51bb50fb12cfa53928", func := "lampbox/lampboxlaw09.RelayFewest", spec := "relayFewest", unfollowed := true, recurses := true, plainKeys := false, apart := false, narrowed := true }
def RelayFewestUptoSaid : Prop := relayFewestUptoRow.holds Try.pinned (OpenSpec.upto relayFewestSpec)

/-- 'lampboxlaw09.RelayTimes', WHERE WHAT IT READS IS OF BULK AT MOST 1048576: true; the input reads as it did. -/
def relayTimesUptoRow : OpenClaim := { program := "ytmhfkhlamnapdaa", sum := "ed89061510b405eceeff4f20670016389b51188535b1ec51bb50fb12cfa53928", func := "lampbox/lampboxlaw09.RelayTimes", spec := "relayTimes", unfollowed := true, recurses := true, plainKeys := false, apart := false, narrowed := true }
def RelayTimesUptoSaid : Prop := relayTimesUptoRow.holds Try.pinned (OpenSpec.upto relayTimesSpec)

/-- 'lampboxlaw09.RelayCalls', WHERE WHAT IT READS IS OF BULK AT MOST 1048576: true; the input reads as it did. -/
def relayCallsUptoRow : OpenClaim := { program := "ytmhfkhlamnapdaa", sum := "ed89061510b405eceeff4f20670016389b51188535b1ec51bb50fb12cfa53928", func := "lampbox/lampboxlaw09.RelayCalls", spec := "relayCalls", unfollowed := true, recurses := true, plainKeys := false, apart := false, narrowed := true }
def RelayCallsUptoSaid : Prop := relayCallsUptoRow.holds Try.pinned (OpenSpec.upto relayCallsSpec)

/-- 'lampboxlaw09.RelayTurned', WHERE WHAT IT READS IS OF BULK AT MOST 1048576: true; the input reads as it did. -/
def relayTurnedUptoRow : OpenClaim := { program := "ytmhfkhlamnapdaa", sum := "ed89061510b405eceeff4f20670016389b51188535b1ec51bb50fb12cfa53928", func := "lampbox/lampboxlaw09.RelayTurned", spec := "relayTurned", unfollowed := true, recurses := true, plainKeys := false, apart := false, narrowed := true }
def RelayTurnedUptoSaid : Prop := relayTurnedUptoRow.holds Try.pinned (OpenSpec.upto relayTurnedSpec)

/-- 'lampboxlaw09.RelayEnough', WHERE WHAT IT READS IS OF BULK AT MOST 1048576: true; the input reads as it did. -/
def relayEnoughUptoRow : OpenClaim := { program := "ytmhfkhlamnapdaa", sum := "ed89061510b405eceeff4f20670016389b51188535b1ec51bb50fb12cfa53928", func := "lampbox/lampboxlaw09.RelayEnough", spec := "relayEnough", unfollowed := true, recurses := true, plainKeys := false, apart := false, narrowed := true }
def RelayEnoughUptoSaid : Prop := relayEnoughUptoRow.holds Try.pinned (OpenSpec.upto relayEnoughSpec)

end Rows
end Go.Proofs.Ytmhfkhlamnapdaa
