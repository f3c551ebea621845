/-
  No cell of these rows narrows 'for every input' (looked for: loops, veiled, ifaces, maps, wideKeys, modest, calm, conditions, laid).
  DERIVED. THE GIVEN ROWS OF THIS SEAT. 12 by the template 'for every input the law returns true; each argument reads behind the call as it read before'; 0 by the template 'total and deterministic' (their statements: YtlendaofkmhgmaaTotals.lean).
  GIVEN WITH THE SEED: the statements are not yours to turn. If you find one false, say at which input.
  Laid BY PROGRAM, IN A SANDBOX (cutbox-rows.mjs): the forced cells as the released guide's own fill.sh prints them over the translation 8ff292379713d9dc… (all of the seat's roots in one cut). By AI agents, Wed Nov 11 2026. No macro, syntax, notation, axiom, sorry.
-/
import Derived.Test.YtlendaofkmhgmaaChecked
import GoSem.Claim
import GoSem.ClaimJoined
import GoSem.ClaimMapViews
import Derived.JoinedTies
import Derived.KernelRfl
namespace Go.Proofs.Ytlendaofkmhgmaa
/- THE CELL 'sum', in the pinned program and in every row, IS THE sha256 OF THE DUMP (.gsa) THAT YtlendaofkmhgmaaProg.lean LOADS. Nothing in Lean hashes anything: it is a label: what it is worth is what the hold of that sum in a sandbox is worth. -/
noncomputable def Try.pinned : Pinned := { name := "ytlendaofkmhgmaa", sum := "8ff292379713d9dc9068db94376e2fda254a389881185894a59e3d8053722a7c", checked := Try.checked }
namespace Rows
def none {H : Type} : Left H := { results := [], args := [] }

/-- 'lampboxlaw08.RoundBounds': WHATEVER THE INPUT: true; the input reads as it did. -/
def roundBoundsSpec : ChangeSpec := { name := "roundBounds", fn := fun _ => fun
  | [d1, d2] => { results := [.lit (.bool true)], args := [d1, d2] }
  | _ => none }
def roundBoundsRow : OpenClaim := { program := "ytlendaofkmhgmaa", sum := "8ff292379713d9dc9068db94376e2fda254a389881185894a59e3d8053722a7c", func := "lampbox/lampboxlaw08.RoundBounds", spec := "roundBounds", unfollowed := true, recurses := true, plainKeys := false, apart := false }
def RoundBoundsSaid : Prop := roundBoundsRow.holds Try.pinned (OpenSpec.ofChange roundBoundsSpec)

/-- ITS FALSE NEIGHBOUR: 'it returns false'. Refute it at one input. -/
def roundBoundsWrong : ChangeSpec := { name := "roundBounds", fn := fun _ => fun
  | [d1, d2] => { results := [.lit (.bool false)], args := [d1, d2] }
  | _ => none }
def RoundBoundsWrongFalsely : Prop := roundBoundsRow.holds Try.pinned (OpenSpec.ofChange roundBoundsWrong)

/-- 'lampboxlaw08.RoundWays': WHATEVER THE INPUT: true; the input reads as it did. -/
def roundWaysSpec : ChangeSpec := { name := "roundWays", fn := fun _ => fun
  | [d1, d2] => { results := [.lit (.bool true)], args := [d1, d2] }
  | _ => none }
def roundWaysRow : OpenClaim := { program := "ytlendaofkmhgmaa", sum := "8ff292379713d9dc9068db94376e2fda254a389881185894a59e3d8053722a7c", func := "lampbox/lampboxlaw08.RoundWays", spec := "roundWays", unfollowed := true, recurses := true, plainKeys := false, apart := false }
def RoundWaysSaid : Prop := roundWaysRow.holds Try.pinned (OpenSpec.ofChange roundWaysSpec)

/-- ITS FALSE NEIGHBOUR: 'it returns false'. Refute it at one input. -/
def roundWaysWrong : ChangeSpec := { name := "roundWays", fn := fun _ => fun
  | [d1, d2] => { results := [.lit (.bool false)], args := [d1, d2] }
  | _ => none }
def RoundWaysWrongFalsely : Prop := roundWaysRow.holds Try.pinned (OpenSpec.ofChange roundWaysWrong)

/-- 'lampboxlaw08.RoundWhole': WHATEVER THE INPUT: true; the input reads as it did. -/
def roundWholeSpec : ChangeSpec := { name := "roundWhole", fn := fun _ => fun
  | [d] => { results := [.lit (.bool true)], args := [d] }
  | _ => none }
def roundWholeRow : OpenClaim := { program := "ytlendaofkmhgmaa", sum := "8ff292379713d9dc9068db94376e2fda254a389881185894a59e3d8053722a7c", func := "lampbox/lampboxlaw08.RoundWhole", spec := "roundWhole", unfollowed := true, recurses := true, plainKeys := false, apart := false }
def RoundWholeSaid : Prop := roundWholeRow.holds Try.pinned (OpenSpec.ofChange roundWholeSpec)

/-- ITS FALSE NEIGHBOUR: 'it returns false'. Refute it at one input. -/
def roundWholeWrong : ChangeSpec := { name := "roundWhole", fn := fun _ => fun
  | [d] => { results := [.lit (.bool false)], args := [d] }
  | _ => none }
def RoundWholeWrongFalsely : Prop := roundWholeRow.holds Try.pinned (OpenSpec.ofChange roundWholeWrong)

/-- 'lampboxlaw08.RoundClimbs': WHATEVER THE INPUT: true; the input reads as it did. -/
def roundClimbsSpec : ChangeSpec := { name := "roundClimbs", fn := fun _ => fun
  | [d1, d2] => { results := [.lit (.bool true)], args := [d1, d2] }
  | _ => none }
def roundClimbsRow : OpenClaim := { program := "ytlendaofkmhgmaa", sum := "8ff292379713d9dc9068db94376e2fda254a389881185894a59e3d8053722a7c", func := "lampbox/lampboxlaw08.RoundClimbs", spec := "roundClimbs", unfollowed := true, recurses := true, plainKeys := false, apart := false }
def RoundClimbsSaid : Prop := roundClimbsRow.holds Try.pinned (OpenSpec.ofChange roundClimbsSpec)

/-- ITS FALSE NEIGHBOUR: 'it returns false'. Refute it at one input. -/
def roundClimbsWrong : ChangeSpec := { name := "roundClimbs", fn := fun _ => fun
  | [d1, d2] => { results := [.lit (.bool false)], args := [d1, d2] }
  | _ => none }
def RoundClimbsWrongFalsely : Prop := roundClimbsRow.holds Try.pinned (OpenSpec.ofChange roundClimbsWrong)

/-- 'lampboxlaw08.RoundClimbed': WHATEVER THE INPUT: true; the input reads as it did. -/
def roundClimbedSpec : ChangeSpec := { name := "roundClimbed", fn := fun _ => fun
  | [d1, d2] => { results := [.lit (.bool true)], args := [d1, d2] }
  | _ => none }
def roundClimbedRow : OpenClaim := { program := "ytlendaofkmhgmaa", sum := "8ff292379713d9dc9068db94376e2fda254a389881185894a59e3d8053722a7c", func := "lampbox/lampboxlaw08.RoundClimbed", spec := "roundClimbed", unfollowed := true, recurses := true, plainKeys := false, apart := false }
def RoundClimbedSaid : Prop := roundClimbedRow.holds Try.pinned (OpenSpec.ofChange roundClimbedSpec)

/-- ITS FALSE NEIGHBOUR: 'it returns false'. Refute it at one input. -/
def roundClimbedWrong : ChangeSpec := { name := "roundClimbed", fn := fun _ => fun
  | [d1, d2] => { results := [.lit (.bool false)], args := [d1, d2] }
  | _ => none }
def RoundClimbedWrongFalsely : Prop := roundClimbedRow.holds Try.pinned (OpenSpec.ofChange roundClimbedWrong)

/-- 'lampboxlaw08.RoundAdds': WHATEVER THE INPUT: true; the input reads as it did. -/
def roundAddsSpec : ChangeSpec := { name := "roundAdds", fn := fun _ => fun
  | [d1, d2, d3] => { results := [.lit (.bool true)], args := [d1, d2, d3] }
  | _ => none }
def roundAddsRow : OpenClaim := { program := "ytlendaofkmhgmaa", sum := "8ff292379713d9dc9068db94376e2fda254a389881185894a59e3d8053722a7c", func := "lampbox/lampboxlaw08.RoundAdds", spec := "roundAdds", unfollowed := true, recurses := true, plainKeys := false, apart := false }
def RoundAddsSaid : Prop := roundAddsRow.holds Try.pinned (OpenSpec.ofChange roundAddsSpec)

/-- ITS FALSE NEIGHBOUR: 'it returns false'. Refute it at one input. -/
def roundAddsWrong : ChangeSpec := { name := "roundAdds", fn := fun _ => fun
  | [d1, d2, d3] => { results := [.lit (.bool false)], args := [d1, d2, d3] }
  | _ => none }
def RoundAddsWrongFalsely : Prop := roundAddsRow.holds Try.pinned (OpenSpec.ofChange roundAddsWrong)

/-- 'lampboxlaw08.RoundLeast': WHATEVER THE INPUT: true; the input reads as it did. -/
def roundLeastSpec : ChangeSpec := { name := "roundLeast", fn := fun _ => fun
  | [d1, d2, d3] => { results := [.lit (.bool true)], args := [d1, d2, d3] }
  | _ => none }
def roundLeastRow : OpenClaim := { program := "ytlendaofkmhgmaa", sum := "8ff292379713d9dc9068db94376e2fda254a389881185894a59e3d8053722a7c", func := "lampbox/lampboxlaw08.RoundLeast", spec := "roundLeast", unfollowed := true, recurses := true, plainKeys := false, apart := false }
def RoundLeastSaid : Prop := roundLeastRow.holds Try.pinned (OpenSpec.ofChange roundLeastSpec)

/-- ITS FALSE NEIGHBOUR: 'it returns false'. Refute it at one input. -/
def roundLeastWrong : ChangeSpec := { name := "roundLeast", fn := fun _ => fun
  | [d1, d2, d3] => { results := [.lit (.bool false)], args := [d1, d2, d3] }
  | _ => none }
def RoundLeastWrongFalsely : Prop := roundLeastRow.holds Try.pinned (OpenSpec.ofChange roundLeastWrong)

/-- 'lampboxlaw08.RoundTours': WHATEVER THE INPUT: true; the input reads as it did. -/
def roundToursSpec : ChangeSpec := { name := "roundTours", fn := fun _ => fun
  | [d1, d2] => { results := [.lit (.bool true)], args := [d1, d2] }
  | _ => none }
def roundToursRow : OpenClaim := { program := "ytlendaofkmhgmaa", sum := "8ff292379713d9dc9068db94376e2fda254a389881185894a59e3d8053722a7c", func := "lampbox/lampboxlaw08.RoundTours", spec := "roundTours", unfollowed := true, recurses := true, plainKeys := false, apart := false }
def RoundToursSaid : Prop := roundToursRow.holds Try.pinned (OpenSpec.ofChange roundToursSpec)

/-- ITS FALSE NEIGHBOUR: 'it returns false'. Refute it at one input. -/
def roundToursWrong : ChangeSpec := { name := "roundTours", fn := fun _ => fun
  | [d1, d2] => { results := [.lit (.bool false)], args := [d1, d2] }
  | _ => none }
def RoundToursWrongFalsely : Prop := roundToursRow.holds Try.pinned (OpenSpec.ofChange roundToursWrong)

/-- 'lampboxlaw08.RoundImproves': WHATEVER THE INPUT: true; the input reads as it did. -/
def roundImprovesSpec : ChangeSpec := { name := "roundImproves", fn := fun _ => fun
  | [d1, d2, d3] => { results := [.lit (.bool true)], args := [d1, d2, d3] }
  | _ => none }
def roundImprovesRow : OpenClaim := { program := "ytlendaofkmhgmaa", sum := "8ff292379713d9dc9068db94376e2fda254a389881185894a59e3d8053722a7c", func := "lampbox/lampboxlaw08.RoundImproves", spec := "roundImproves", unfollowed := true, recurses := true, plainKeys := false, apart := false }
def RoundImprovesSaid : Prop := roundImprovesRow.holds Try.pinned (OpenSpec.ofChange roundImprovesSpec)

/-- ITS FALSE NEIGHBOUR: 'it returns false'. Refute it at one input. -/
def roundImprovesWrong : ChangeSpec := { name := "roundImproves", fn := fun _ => fun
  | [d1, d2, d3] => { results := [.lit (.bool false)], args := [d1, d2, d3] }
  | _ => none }
def RoundImprovesWrongFalsely : Prop := roundImprovesRow.holds Try.pinned (OpenSpec.ofChange roundImprovesWrong)

/-- 'lampboxlaw08.RoundOwn': WHATEVER THE INPUT: true; the input reads as it did. -/
def roundOwnSpec : ChangeSpec := { name := "roundOwn", fn := fun _ => fun
  | [d1, d2] => { results := [.lit (.bool true)], args := [d1, d2] }
  | _ => none }
def roundOwnRow : OpenClaim := { program := "ytlendaofkmhgmaa", sum := "8ff292379713d9dc9068db94376e2fda254a389881185894a59e3d8053722a7c", func := "lampbox/lampboxlaw08.RoundOwn", spec := "roundOwn", unfollowed := true, recurses := true, plainKeys := false, apart := false }
def RoundOwnSaid : Prop := roundOwnRow.holds Try.pinned (OpenSpec.ofChange roundOwnSpec)

/-- ITS FALSE NEIGHBOUR: 'it returns false'. Refute it at one input. -/
def roundOwnWrong : ChangeSpec := { name := "roundOwn", fn := fun _ => fun
  | [d1, d2] => { results := [.lit (.bool false)], args := [d1, d2] }
  | _ => none }
def RoundOwnWrongFalsely : Prop := roundOwnRow.holds Try.pinned (OpenSpec.ofChange roundOwnWrong)

/-- 'lampboxlaw08.RoundBest': WHATEVER THE INPUT: true; the input reads as it did. -/
def roundBestSpec : ChangeSpec := { name := "roundBest", fn := fun _ => fun
  | [d] => { results := [.lit (.bool true)], args := [d] }
  | _ => none }
def roundBestRow : OpenClaim := { program := "ytlendaofkmhgmaa", sum := "8ff292379713d9dc9068db94376e2fda254a389881185894a59e3d8053722a7c", func := "lampbox/lampboxlaw08.RoundBest", spec := "roundBest", unfollowed := true, recurses := true, plainKeys := false, apart := false }
def RoundBestSaid : Prop := roundBestRow.holds Try.pinned (OpenSpec.ofChange roundBestSpec)

/-- ITS FALSE NEIGHBOUR: 'it returns false'. Refute it at one input. -/
def roundBestWrong : ChangeSpec := { name := "roundBest", fn := fun _ => fun
  | [d] => { results := [.lit (.bool false)], args := [d] }
  | _ => none }
def RoundBestWrongFalsely : Prop := roundBestRow.holds Try.pinned (OpenSpec.ofChange roundBestWrong)

/-- 'lampboxlaw08.RoundMetric': WHATEVER THE INPUT: true; the input reads as it did. -/
def roundMetricSpec : ChangeSpec := { name := "roundMetric", fn := fun _ => fun
  | [d1, d2] => { results := [.lit (.bool true)], args := [d1, d2] }
  | _ => none }
def roundMetricRow : OpenClaim := { program := "ytlendaofkmhgmaa", sum := "8ff292379713d9dc9068db94376e2fda254a389881185894a59e3d8053722a7c", func := "lampbox/lampboxlaw08.RoundMetric", spec := "roundMetric", unfollowed := true, recurses := true, plainKeys := false, apart := false }
def RoundMetricSaid : Prop := roundMetricRow.holds Try.pinned (OpenSpec.ofChange roundMetricSpec)

/-- ITS FALSE NEIGHBOUR: 'it returns false'. Refute it at one input. -/
def roundMetricWrong : ChangeSpec := { name := "roundMetric", fn := fun _ => fun
  | [d1, d2] => { results := [.lit (.bool false)], args := [d1, d2] }
  | _ => none }
def RoundMetricWrongFalsely : Prop := roundMetricRow.holds Try.pinned (OpenSpec.ofChange roundMetricWrong)

/- THE SECOND FORM. 'bulk': how many values and letters a reading holds, each counted each time it is reached (what is shared counts as often as it is met; a slice's spare places count too). A statement '..UptoSaid' is the law's where the arguments, and the package variables that the reading takes, are together of bulk at most 1048576: NARROWER than '..Said'. Prove '..Said' where nothing that the law and all that it calls make is longer than what came in: it says more and counts as full. Else prove '..UptoSaid'. A law counts once. -/
mutual
def uptoBulk {H : Type} : DataW H → Nat
  | .lit (.string bytes) => bytes.length + 1
  | .lit _ => 1
  | .nil => 1
  | .ptr d => uptoBulk d + 1
  | .slice elems spare => uptoBulkAll elems + uptoBulkAll spare + 1
  | .agg parts => uptoBulkAll parts + 1
  | .iface _ d => uptoBulk d + 1
  | .map entries => uptoBulkEntries entries + 1
  | .held _ => 1
def uptoBulkAll {H : Type} : List (DataW H) → Nat
  | [] => 0
  | d :: r => uptoBulk d + uptoBulkAll r
def uptoBulkEntries {H : Type} : List (Lit × DataW H) → Nat
  | [] => 0
  | x :: r => uptoBulkEntry x + uptoBulkEntries r
def uptoBulkEntry {H : Type} : Lit × DataW H → Nat
  | (.string bytes, d) => bytes.length + uptoBulk d + 1
  | (_, d) => uptoBulk d + 1
 end
def uptoSmall : (H : Type) → List (DataW H) → Bool := fun _ ds => decide (uptoBulkAll ds ≤ 1048576)
def OpenSpec.upto (s : _root_.Go.ChangeSpec) : _root_.Go.OpenSpec := { _root_.Go.OpenSpec.ofChange s with cond := some uptoSmall }

/-- 'lampboxlaw08.RoundBounds', WHERE WHAT IT READS IS OF BULK AT MOST 1048576: true; the input reads as it did. -/
def roundBoundsUptoRow : OpenClaim := { program := "ytlendaofkmhgmaa", sum := "8ff292379713d9dc9068db94376e2fda254a389881185894a59e3d8053722a7c", func := "lampbox/lampboxlaw08.RoundBounds", spec := "roundBounds", unfollowed := true, recurses := true, plainKeys := false, apart := false, narrowed := true }
def RoundBoundsUptoSaid : Prop := roundBoundsUptoRow.holds Try.pinned (OpenSpec.upto roundBoundsSpec)

/-- 'lampboxlaw08.RoundWays', WHERE WHAT IT READS IS OF BULK AT MOST 1048576: true; the input reads as it did. -/
def roundWaysUptoRow : OpenClaim := { program := "ytlendaofkmhgmaa", sum := "8ff292379713d9dc9068db94376e2fda254a389881185894a59e3d8053722a7c", func := "lampbox/lampboxlaw08.RoundWays", spec := "roundWays", unfollowed := true, recurses := true, plainKeys := false, apart := false, narrowed := true }
def RoundWaysUptoSaid : Prop := roundWaysUptoRow.holds Try.pinned (OpenSpec.upto roundWaysSpec)

/-- 'lampboxlaw08.RoundWhole', WHERE WHAT IT READS IS OF BULK AT MOST 1048576: true; the input reads as it did. -/
def roundWholeUptoRow : OpenClaim := { program := "ytlendaofkmhgmaa", sum := "8ff292379713d9dc9068db94376e2fda254a389881185894a59e3d8053722a7c", func := "lampbox/lampboxlaw08.RoundWhole", spec := "roundWhole", unfollowed := true, recurses := true, plainKeys := false, apart := false, narrowed := true }
def RoundWholeUptoSaid : Prop := roundWholeUptoRow.holds Try.pinned (OpenSpec.upto roundWholeSpec)

/-- 'lampboxlaw08.RoundClimbs', WHERE WHAT IT READS IS OF BULK AT MOST 1048576: true; the input reads as it did. -/
def roundClimbsUptoRow : OpenClaim := { program := "ytlendaofkmhgmaa", sum := "8ff292379713d9dc9068db94376e2fda254a389881185894a59e3d8053722a7c", func := "lampbox/lampboxlaw08.RoundClimbs", spec := "roundClimbs", unfollowed := true, recurses := true, plainKeys := false, apart := false, narrowed := true }
def RoundClimbsUptoSaid : Prop := roundClimbsUptoRow.holds Try.pinned (OpenSpec.upto roundClimbsSpec)

/-- 'lampboxlaw08.RoundClimbed', WHERE WHAT IT READS IS OF BULK AT MOST 1048576: true; the input reads as it did. -/
def roundClimbedUptoRow : OpenClaim := { program := "ytlendaofkmhgmaa", sum := "8ff292379713d9dc9068db94376e2fda254a389881185894a59e3d8053722a7c", func := "lampbox/lampboxlaw08.RoundClimbed", spec := "roundClimbed", unfollowed := true, recurses := true, plainKeys := false, apart := false, narrowed := true }
def RoundClimbedUptoSaid : Prop := roundClimbedUptoRow.holds Try.pinned (OpenSpec.upto roundClimbedSpec)

/-- 'lampboxlaw08.RoundAdds', WHERE WHAT IT READS IS OF BULK AT MOST 1048576: true; the input reads as it did. -/
def roundAddsUptoRow : OpenClaim := { program := "ytlendaofkmhgmaa", sum := "8ff292379713d9dc9068db94376e2fda254a389881185894a59e3d8053722a7c", func := "lampbox/lampboxlaw08.RoundAdds", spec := "roundAdds", unfollowed := true, recurses := true, plainKeys := false, apart := false, narrowed := true }
def RoundAddsUptoSaid : Prop := roundAddsUptoRow.holds Try.pinned (OpenSpec.upto roundAddsSpec)

/-- 'lampboxlaw08.RoundLeast', WHERE WHAT IT READS IS OF BULK AT MOST 1048576: true; the input reads as it did. -/
def roundLeastUptoRow : OpenClaim := { program := "ytlendaofkmhgmaa", sum := "8ff292379713d9dc9068db94376e2fda254a389881185894a59e3d8053722a7c", func := "lampbox/lampboxlaw08.RoundLeast", spec := "roundLeast", unfollowed := true, recurses := true, plainKeys := false, apart := false, narrowed := true }
def RoundLeastUptoSaid : Prop := roundLeastUptoRow.holds Try.pinned (OpenSpec.upto roundLeastSpec)

/-- 'lampboxlaw08.RoundTours', WHERE WHAT IT READS IS OF BULK AT MOST 1048576: true; the input reads as it did. -/
def roundToursUptoRow : OpenClaim := { program := "ytlendaofkmhgmaa", sum := "8ff292379713d9dc9068db94376e2fda254a389881185894a59e3d8053722a7c", func := "lampbox/lampboxlaw08.RoundTours", spec := "roundTours", unfollowed := true, recurses := true, plainKeys := false, apart := false, narrowed := true }
def RoundToursUptoSaid : Prop := roundToursUptoRow.holds Try.pinned (OpenSpec.upto roundToursSpec)

/-- 'lampboxlaw08.RoundImproves', WHERE WHAT IT READS IS OF BULK AT MOST 1048576: true; the input reads as it did. -/
def roundImprovesUptoRow : OpenClaim := { program := "ytlendaofkmhgmaa", sum := "8ff292379713d9dc9068db94376e2fda254a389881185894a59e3d8053722a7c", func := "lampbox/lampboxlaw08.RoundImproves", spec := "roundImproves", unfollowed := true, recurses := true, plainKeys := false, apart := false, narrowed := true }
def RoundImprovesUptoSaid : Prop := roundImprovesUptoRow.holds Try.pinned (OpenSpec.upto roundImprovesSpec)

/-- 'lampboxlaw08.RoundOwn', WHERE WHAT IT READS IS OF BULK AT MOST 1048576: true; the input reads as it did. -/
def roundOwnUptoRow : OpenClaim := { program := "ytlendaofkmhgmaa", sum := "8ff292379713d9dc9068db94376e2fda254a389881185894a59e3d8053722a7c", func := "lampbox/lampboxlaw08.RoundOwn", spec := "roundOwn", unfollowed := true, recurses := true, plainKeys := false, apart := false, narrowed := true }
def RoundOwnUptoSaid : Prop := roundOwnUptoRow.holds Try.pinned (OpenSpec.upto roundOwnSpec)

/-- 'lampboxlaw08.RoundBest', WHERE WHAT IT READS IS OF BULK AT MOST 1048576: true; the input reads as it did. -/
def roundBestUptoRow : OpenClaim := { program := "ytlendaofkmhgmaa", sum := "8ff292379713d9dc9068db94376e2fda254a389881185894a59e3d8053722a7c", func := "lampbox/lampboxlaw08.RoundBest", spec := "roundBest", unfollowed := true, recurses := true, plainKeys := false, apart := false, narrowed := true }
def RoundBestUptoSaid : Prop := roundBestUptoRow.holds Try.pinned (OpenSpec.upto roundBestSpec)

/-- 'lampboxlaw08.RoundMetric', WHERE WHAT IT READS IS OF BULK AT MOST 1048576: true; the input reads as it did. -/
def roundMetricUptoRow : OpenClaim := { program := "ytlendaofkmhgmaa", sum := "8ff292379713d9dc9068db94376e2fda254a389881185894a59e3d8053722a7c", func := "lampbox/lampboxlaw08.RoundMetric", spec := "roundMetric", unfollowed := true, recurses := true, plainKeys := false, apart := false, narrowed := true }
def RoundMetricUptoSaid : Prop := roundMetricUptoRow.holds Try.pinned (OpenSpec.upto roundMetricSpec)

end Rows
end Go.Proofs.Ytlendaofkmhgmaa
