/-
  No cell of these rows narrows 'for every input' (looked for: loops, veiled, ifaces, maps, wideKeys, modest, calm, conditions, laid).
  DERIVED. THE GIVEN ROWS OF THIS SEAT. 11 by the template 'for every input the law returns true; each argument reads behind the call as it read before'; 0 by the template 'total and deterministic' (their statements: YtaibmipamkaljaaTotals.lean).
  GIVEN WITH THE SEED: the statements are not yours to turn. If you find one false, say at which input.
  Laid BY PROGRAM, IN A SANDBOX (cutbox-rows.mjs): the forced cells as the released guide's own fill.sh prints them over the translation 628c0be61f551865… (all of the seat's roots in one cut). By AI agents, Wed Nov 11 2026. No macro, syntax, notation, axiom, sorry.
-/
import Derived.Test.YtaibmipamkaljaaChecked
import GoSem.Claim
import GoSem.ClaimJoined
import GoSem.ClaimMapViews
import Derived.JoinedTies
import Derived.KernelRfl
namespace Go.Proofs.Ytaibmipamkaljaa
/- THE CELL 'sum', in the pinned program and in every row, IS THE sha256 OF THE DUMP (.gsa) THAT YtaibmipamkaljaaProg.lean LOADS. Nothing in Lean hashes anything: it is a label: what it is worth is what the hold of that sum in a sandbox is worth. -/
noncomputable def Try.pinned : Pinned := { name := "ytaibmipamkaljaa", sum := "628c0be61f551865b86094c509af35f8bbf552215bec96596decab8cda1520b3", checked := Try.checked }
namespace Rows
def none {H : Type} : Left H := { results := [], args := [] }

/-- 'lampboxlaw05.SumsExactly': WHATEVER THE INPUT: true; the input reads as it did. -/
def sumsExactlySpec : ChangeSpec := { name := "sumsExactly", fn := fun _ => fun
  | [d1, d2] => { results := [.lit (.bool true)], args := [d1, d2] }
  | _ => none }
def sumsExactlyRow : OpenClaim := { program := "ytaibmipamkaljaa", sum := "628c0be61f551865b86094c509af35f8bbf552215bec96596decab8cda1520b3", func := "lampbox/lampboxlaw05.SumsExactly", spec := "sumsExactly", unfollowed := true, recurses := true, plainKeys := false, apart := false }
def SumsExactlySaid : Prop := sumsExactlyRow.holds Try.pinned (OpenSpec.ofChange sumsExactlySpec)

/-- ITS FALSE NEIGHBOUR: 'it returns false'. Refute it at one input. -/
def sumsExactlyWrong : ChangeSpec := { name := "sumsExactly", fn := fun _ => fun
  | [d1, d2] => { results := [.lit (.bool false)], args := [d1, d2] }
  | _ => none }
def SumsExactlyWrongFalsely : Prop := sumsExactlyRow.holds Try.pinned (OpenSpec.ofChange sumsExactlyWrong)

/-- 'lampboxlaw05.SumsBoth': WHATEVER THE INPUT: true; the input reads as it did. -/
def sumsBothSpec : ChangeSpec := { name := "sumsBoth", fn := fun _ => fun
  | [d1, d2, d3] => { results := [.lit (.bool true)], args := [d1, d2, d3] }
  | _ => none }
def sumsBothRow : OpenClaim := { program := "ytaibmipamkaljaa", sum := "628c0be61f551865b86094c509af35f8bbf552215bec96596decab8cda1520b3", func := "lampbox/lampboxlaw05.SumsBoth", spec := "sumsBoth", unfollowed := true, recurses := true, plainKeys := false, apart := false }
def SumsBothSaid : Prop := sumsBothRow.holds Try.pinned (OpenSpec.ofChange sumsBothSpec)

/-- ITS FALSE NEIGHBOUR: 'it returns false'. Refute it at one input. -/
def sumsBothWrong : ChangeSpec := { name := "sumsBoth", fn := fun _ => fun
  | [d1, d2, d3] => { results := [.lit (.bool false)], args := [d1, d2, d3] }
  | _ => none }
def SumsBothWrongFalsely : Prop := sumsBothRow.holds Try.pinned (OpenSpec.ofChange sumsBothWrong)

/-- 'lampboxlaw05.SumsAlways': WHATEVER THE INPUT: true; the input reads as it did. -/
def sumsAlwaysSpec : ChangeSpec := { name := "sumsAlways", fn := fun _ => fun
  | [d1, d2] => { results := [.lit (.bool true)], args := [d1, d2] }
  | _ => none }
def sumsAlwaysRow : OpenClaim := { program := "ytaibmipamkaljaa", sum := "628c0be61f551865b86094c509af35f8bbf552215bec96596decab8cda1520b3", func := "lampbox/lampboxlaw05.SumsAlways", spec := "sumsAlways", unfollowed := true, recurses := true, plainKeys := false, apart := false }
def SumsAlwaysSaid : Prop := sumsAlwaysRow.holds Try.pinned (OpenSpec.ofChange sumsAlwaysSpec)

/-- ITS FALSE NEIGHBOUR: 'it returns false'. Refute it at one input. -/
def sumsAlwaysWrong : ChangeSpec := { name := "sumsAlways", fn := fun _ => fun
  | [d1, d2] => { results := [.lit (.bool false)], args := [d1, d2] }
  | _ => none }
def SumsAlwaysWrongFalsely : Prop := sumsAlwaysRow.holds Try.pinned (OpenSpec.ofChange sumsAlwaysWrong)

/-- 'lampboxlaw05.SumsOrders': WHATEVER THE INPUT: true; the input reads as it did. -/
def sumsOrdersSpec : ChangeSpec := { name := "sumsOrders", fn := fun _ => fun
  | [d1, d2] => { results := [.lit (.bool true)], args := [d1, d2] }
  | _ => none }
def sumsOrdersRow : OpenClaim := { program := "ytaibmipamkaljaa", sum := "628c0be61f551865b86094c509af35f8bbf552215bec96596decab8cda1520b3", func := "lampbox/lampboxlaw05.SumsOrders", spec := "sumsOrders", unfollowed := true, recurses := true, plainKeys := false, apart := false }
def SumsOrdersSaid : Prop := sumsOrdersRow.holds Try.pinned (OpenSpec.ofChange sumsOrdersSpec)

/-- ITS FALSE NEIGHBOUR: 'it returns false'. Refute it at one input. -/
def sumsOrdersWrong : ChangeSpec := { name := "sumsOrders", fn := fun _ => fun
  | [d1, d2] => { results := [.lit (.bool false)], args := [d1, d2] }
  | _ => none }
def SumsOrdersWrongFalsely : Prop := sumsOrdersRow.holds Try.pinned (OpenSpec.ofChange sumsOrdersWrong)

/-- 'lampboxlaw05.SumsMultiples': WHATEVER THE INPUT: true; the input reads as it did. -/
def sumsMultiplesSpec : ChangeSpec := { name := "sumsMultiples", fn := fun _ => fun
  | [d1, d2, d3] => { results := [.lit (.bool true)], args := [d1, d2, d3] }
  | _ => none }
def sumsMultiplesRow : OpenClaim := { program := "ytaibmipamkaljaa", sum := "628c0be61f551865b86094c509af35f8bbf552215bec96596decab8cda1520b3", func := "lampbox/lampboxlaw05.SumsMultiples", spec := "sumsMultiples", unfollowed := true, recurses := true, plainKeys := false, apart := false }
def SumsMultiplesSaid : Prop := sumsMultiplesRow.holds Try.pinned (OpenSpec.ofChange sumsMultiplesSpec)

/-- ITS FALSE NEIGHBOUR: 'it returns false'. Refute it at one input. -/
def sumsMultiplesWrong : ChangeSpec := { name := "sumsMultiples", fn := fun _ => fun
  | [d1, d2, d3] => { results := [.lit (.bool false)], args := [d1, d2, d3] }
  | _ => none }
def SumsMultiplesWrongFalsely : Prop := sumsMultiplesRow.holds Try.pinned (OpenSpec.ofChange sumsMultiplesWrong)

/-- 'lampboxlaw05.SumsMany': WHATEVER THE INPUT: true; the input reads as it did. -/
def sumsManySpec : ChangeSpec := { name := "sumsMany", fn := fun _ => fun
  | [d1, d2, d3, d4] => { results := [.lit (.bool true)], args := [d1, d2, d3, d4] }
  | _ => none }
def sumsManyRow : OpenClaim := { program := "ytaibmipamkaljaa", sum := "628c0be61f551865b86094c509af35f8bbf552215bec96596decab8cda1520b3", func := "lampbox/lampboxlaw05.SumsMany", spec := "sumsMany", unfollowed := true, recurses := true, plainKeys := false, apart := false }
def SumsManySaid : Prop := sumsManyRow.holds Try.pinned (OpenSpec.ofChange sumsManySpec)

/-- ITS FALSE NEIGHBOUR: 'it returns false'. Refute it at one input. -/
def sumsManyWrong : ChangeSpec := { name := "sumsMany", fn := fun _ => fun
  | [d1, d2, d3, d4] => { results := [.lit (.bool false)], args := [d1, d2, d3, d4] }
  | _ => none }
def SumsManyWrongFalsely : Prop := sumsManyRow.holds Try.pinned (OpenSpec.ofChange sumsManyWrong)

/-- 'lampboxlaw05.SumsParts': WHATEVER THE INPUT: true; the input reads as it did. -/
def sumsPartsSpec : ChangeSpec := { name := "sumsParts", fn := fun _ => fun
  | [d1, d2, d3] => { results := [.lit (.bool true)], args := [d1, d2, d3] }
  | _ => none }
def sumsPartsRow : OpenClaim := { program := "ytaibmipamkaljaa", sum := "628c0be61f551865b86094c509af35f8bbf552215bec96596decab8cda1520b3", func := "lampbox/lampboxlaw05.SumsParts", spec := "sumsParts", unfollowed := true, recurses := true, plainKeys := false, apart := false }
def SumsPartsSaid : Prop := sumsPartsRow.holds Try.pinned (OpenSpec.ofChange sumsPartsSpec)

/-- ITS FALSE NEIGHBOUR: 'it returns false'. Refute it at one input. -/
def sumsPartsWrong : ChangeSpec := { name := "sumsParts", fn := fun _ => fun
  | [d1, d2, d3] => { results := [.lit (.bool false)], args := [d1, d2, d3] }
  | _ => none }
def SumsPartsWrongFalsely : Prop := sumsPartsRow.holds Try.pinned (OpenSpec.ofChange sumsPartsWrong)

/-- 'lampboxlaw05.SumsTold': WHATEVER THE INPUT: true; the input reads as it did. -/
def sumsToldSpec : ChangeSpec := { name := "sumsTold", fn := fun _ => fun
  | [d1, d2] => { results := [.lit (.bool true)], args := [d1, d2] }
  | _ => none }
def sumsToldRow : OpenClaim := { program := "ytaibmipamkaljaa", sum := "628c0be61f551865b86094c509af35f8bbf552215bec96596decab8cda1520b3", func := "lampbox/lampboxlaw05.SumsTold", spec := "sumsTold", unfollowed := true, recurses := true, plainKeys := false, apart := false }
def SumsToldSaid : Prop := sumsToldRow.holds Try.pinned (OpenSpec.ofChange sumsToldSpec)

/-- ITS FALSE NEIGHBOUR: 'it returns false'. Refute it at one input. -/
def sumsToldWrong : ChangeSpec := { name := "sumsTold", fn := fun _ => fun
  | [d1, d2] => { results := [.lit (.bool false)], args := [d1, d2] }
  | _ => none }
def SumsToldWrongFalsely : Prop := sumsToldRow.holds Try.pinned (OpenSpec.ofChange sumsToldWrong)

/-- 'lampboxlaw05.SumsBounds': WHATEVER THE INPUT: true; the input reads as it did. -/
def sumsBoundsSpec : ChangeSpec := { name := "sumsBounds", fn := fun _ => fun
  | [d1, d2, d3] => { results := [.lit (.bool true)], args := [d1, d2, d3] }
  | _ => none }
def sumsBoundsRow : OpenClaim := { program := "ytaibmipamkaljaa", sum := "628c0be61f551865b86094c509af35f8bbf552215bec96596decab8cda1520b3", func := "lampbox/lampboxlaw05.SumsBounds", spec := "sumsBounds", unfollowed := true, recurses := true, plainKeys := false, apart := false }
def SumsBoundsSaid : Prop := sumsBoundsRow.holds Try.pinned (OpenSpec.ofChange sumsBoundsSpec)

/-- ITS FALSE NEIGHBOUR: 'it returns false'. Refute it at one input. -/
def sumsBoundsWrong : ChangeSpec := { name := "sumsBounds", fn := fun _ => fun
  | [d1, d2, d3] => { results := [.lit (.bool false)], args := [d1, d2, d3] }
  | _ => none }
def SumsBoundsWrongFalsely : Prop := sumsBoundsRow.holds Try.pinned (OpenSpec.ofChange sumsBoundsWrong)

/-- 'lampboxlaw05.SumsFree': WHATEVER THE INPUT: true; the input reads as it did. -/
def sumsFreeSpec : ChangeSpec := { name := "sumsFree", fn := fun _ => fun
  | [d1, d2, d3] => { results := [.lit (.bool true)], args := [d1, d2, d3] }
  | _ => none }
def sumsFreeRow : OpenClaim := { program := "ytaibmipamkaljaa", sum := "628c0be61f551865b86094c509af35f8bbf552215bec96596decab8cda1520b3", func := "lampbox/lampboxlaw05.SumsFree", spec := "sumsFree", unfollowed := true, recurses := true, plainKeys := false, apart := false }
def SumsFreeSaid : Prop := sumsFreeRow.holds Try.pinned (OpenSpec.ofChange sumsFreeSpec)

/-- ITS FALSE NEIGHBOUR: 'it returns false'. Refute it at one input. -/
def sumsFreeWrong : ChangeSpec := { name := "sumsFree", fn := fun _ => fun
  | [d1, d2, d3] => { results := [.lit (.bool false)], args := [d1, d2, d3] }
  | _ => none }
def SumsFreeWrongFalsely : Prop := sumsFreeRow.holds Try.pinned (OpenSpec.ofChange sumsFreeWrong)

/-- 'lampboxlaw05.SumsOwn': WHATEVER THE INPUT: true; the input reads as it did. -/
def sumsOwnSpec : ChangeSpec := { name := "sumsOwn", fn := fun _ => fun
  | [d1, d2] => { results := [.lit (.bool true)], args := [d1, d2] }
  | _ => none }
def sumsOwnRow : OpenClaim := { program := "ytaibmipamkaljaa", sum := "628c0be61f551865b86094c509af35f8bbf552215bec96596decab8cda1520b3", func := "lampbox/lampboxlaw05.SumsOwn", spec := "sumsOwn", unfollowed := true, recurses := true, plainKeys := false, apart := false }
def SumsOwnSaid : Prop := sumsOwnRow.holds Try.pinned (OpenSpec.ofChange sumsOwnSpec)

/-- ITS FALSE NEIGHBOUR: 'it returns false'. Refute it at one input. -/
def sumsOwnWrong : ChangeSpec := { name := "sumsOwn", fn := fun _ => fun
  | [d1, d2] => { results := [.lit (.bool false)], args := [d1, d2] }
  | _ => none }
def SumsOwnWrongFalsely : Prop := sumsOwnRow.holds Try.pinned (OpenSpec.ofChange sumsOwnWrong)

/- THE SECOND FORM. 'bulk': how many values and letters a reading holds, each counted each time it is reached (what is shared counts as often as it is met; a slice's spare places count too). A statement '..UptoSaid' is the law's where the arguments, and the package variables that the reading takes, are together of bulk at most 1048576: NARROWER than '..Said'. Prove '..Said' where nothing that the law and all that it calls make is longer than what came in: it says more and counts as full. Else prove '..UptoSaid'. A law counts once. -/
mutual
def uptoBulk {H : Type} : DataW H → Nat
  | .lit (.string bytes) => bytes.length + 1
  | .lit _ => 1
  | .nil => 1
  | .ptr d => uptoBulk d + 1
  | .slice elems spare => uptoBulkAll elems + uptoBulkAll spare + 1
  | .agg parts => uptoBulkAll parts + 1
  | .iface _ d => uptoBulk d + 1
  | .map entries => uptoBulkEntries entries + 1
  | .held _ => 1
def uptoBulkAll {H : Type} : List (DataW H) → Nat
  | [] => 0
  | d :: r => uptoBulk d + uptoBulkAll r
def uptoBulkEntries {H : Type} : List (Lit × DataW H) → Nat
  | [] => 0
  | x :: r => uptoBulkEntry x + uptoBulkEntries r
def uptoBulkEntry {H : Type} : Lit × DataW H → Nat
  | (.string bytes, d) => bytes.length + uptoBulk d + 1
  | (_, d) => uptoBulk d + 1
 end
def uptoSmall : (H : Type) → List (DataW H) → Bool := fun _ ds => decide (uptoBulkAll ds ≤ 1048576)
def OpenSpec.upto (s : _root_.Go.ChangeSpec) : _root_.Go.OpenSpec := { _root_.Go.OpenSpec.ofChange s with cond := some uptoSmall }

/-- 'lampboxlaw05.SumsExactly', WHERE WHAT IT READS IS OF BULK AT MOST 1048576: true; the input reads as it did. -/
def sumsExactlyUptoRow : OpenClaim := { program := "ytaibmipamkaljaa", sum := "628c0be61f551865b86094c509af35f8bbf552215bec96596decab8cda1520b3", func := "lampbox/lampboxlaw05.SumsExactly", spec := "sumsExactly", unfollowed := true, recurses := true, plainKeys := false, apart := false, narrowed := true }
def SumsExactlyUptoSaid : Prop := sumsExactlyUptoRow.holds Try.pinned (OpenSpec.upto sumsExactlySpec)

/-- 'lampboxlaw05.SumsBoth', WHERE WHAT IT READS IS OF BULK AT MOST 1048576: true; the input reads as it did. -/
def sumsBothUptoRow : OpenClaim := { program := "ytaibmipamkaljaa", sum := "628c0be61f551865b86094c509af35f8bbf552215bec96596decab8cda1520b3", func := "lampbox/lampboxlaw05.SumsBoth", spec := "sumsBoth", unfollowed := true, recurses := true, plainKeys := false, apart := false, narrowed := true }
def SumsBothUptoSaid : Prop := sumsBothUptoRow.holds Try.pinned (OpenSpec.upto sumsBothSpec)

/-- 'lampboxlaw05.SumsAlways', WHERE WHAT IT READS IS OF BULK AT MOST 1048576: true; the input reads as it did. -/
def sumsAlwaysUptoRow : OpenClaim := { program := "ytaibmipamkaljaa", sum := "628c0be61f551865b86094c509af35f8bbf552215bec96596decab8cda1520b3", func := "lampbox/lampboxlaw05.SumsAlways", spec := "sumsAlways", unfollowed := true, recurses := true, plainKeys := false, apart := false, narrowed := true }
def SumsAlwaysUptoSaid : Prop := sumsAlwaysUptoRow.holds Try.pinned (OpenSpec.upto sumsAlwaysSpec)

/-- 'lampboxlaw05.SumsOrders', WHERE WHAT IT READS IS OF BULK AT MOST 1048576: true; the input reads as it did. -/
def sumsOrdersUptoRow : OpenClaim := { program := "ytaibmipamkaljaa", sum := "628c0be61f551865b86094c509af35f8bbf552215bec96596decab8cda1520b3", func := "lampbox/lampboxlaw05.SumsOrders", spec := "sumsOrders", unfollowed := true, recurses := true, plainKeys := false, apart := false, narrowed := true }
def SumsOrdersUptoSaid : Prop := sumsOrdersUptoRow.holds Try.pinned (OpenSpec.upto sumsOrdersSpec)

/-- 'lampboxlaw05.SumsMultiples', WHERE WHAT IT READS IS OF BULK AT MOST 1048576: true; the input reads as it did. -/
def sumsMultiplesUptoRow : OpenClaim := { program := "ytaibmipamkaljaa", sum := "628c0be61f551865b86094c509af35f8bbf552215bec96596decab8cda1520b3", func := "lampbox/lampboxlaw05.SumsMultiples", spec := "sumsMultiples", unfollowed := true, recurses := true, plainKeys := false, apart := false, narrowed := true }
def SumsMultiplesUptoSaid : Prop := sumsMultiplesUptoRow.holds Try.pinned (OpenSpec.upto sumsMultiplesSpec)

/-- 'lampboxlaw05.SumsMany', WHERE WHAT IT READS IS OF BULK AT MOST 1048576: true; the input reads as it did. -/
def sumsManyUptoRow : OpenClaim := { program := "ytaibmipamkaljaa", sum := "628c0be61f551865b86094c509af35f8bbf552215bec96596decab8cda1520b3", func := "lampbox/lampboxlaw05.SumsMany", spec := "sumsMany", unfollowed := true, recurses := true, plainKeys := false, apart := false, narrowed := true }
def SumsManyUptoSaid : Prop := sumsManyUptoRow.holds Try.pinned (OpenSpec.upto sumsManySpec)

/-- 'lampboxlaw05.SumsParts', WHERE WHAT IT READS IS OF BULK AT MOST 1048576: true; the input reads as it did. -/
def sumsPartsUptoRow : OpenClaim := { program := "ytaibmipamkaljaa", sum := "628c0be61f551865b86094c509af35f8bbf552215bec96596decab8cda1520b3", func := "lampbox/lampboxlaw05.SumsParts", spec := "sumsParts", unfollowed := true, recurses := true, plainKeys := false, apart := false, narrowed := true }
def SumsPartsUptoSaid : Prop := sumsPartsUptoRow.holds Try.pinned (OpenSpec.upto sumsPartsSpec)

/-- 'lampboxlaw05.SumsTold', WHERE WHAT IT READS IS OF BULK AT MOST 1048576: true; the input reads as it did. -/
def sumsToldUptoRow : OpenClaim := { program := "ytaibmipamkaljaa", sum := "628c0be61f551865b86094c509af35f8bbf552215bec96596decab8cda1520b3", func := "lampbox/lampboxlaw05.SumsTold", spec := "sumsTold", unfollowed := true, recurses := true, plainKeys := false, apart := false, narrowed := true }
def SumsToldUptoSaid : Prop := sumsToldUptoRow.holds Try.pinned (OpenSpec.upto sumsToldSpec)

/-- 'lampboxlaw05.SumsBounds', WHERE WHAT IT READS IS OF BULK AT MOST 1048576: true; the input reads as it did. -/
def sumsBoundsUptoRow : OpenClaim := { program := "ytaibmipamkaljaa", sum := "628c0be61f551865b86094c509af35f8bbf552215bec96596decab8cda1520b3", func := "lampbox/lampboxlaw05.SumsBounds", spec := "sumsBounds", unfollowed := true, recurses := true, plainKeys := false, apart := false, narrowed := true }
def SumsBoundsUptoSaid : Prop := sumsBoundsUptoRow.holds Try.pinned (OpenSpec.upto sumsBoundsSpec)

/-- 'lampboxlaw05.SumsFree', WHERE WHAT IT READS IS OF BULK AT MOST 1048576: true; the input reads as it did. -/
def sumsFreeUptoRow : OpenClaim := { program := "ytaibmipamkaljaa", sum := "628c0be61f551865b86094c509af35f8bbf552215bec96596decab8cda1520b3", func := "lampbox/lampboxlaw05.SumsFree", spec := "sumsFree", unfollowed := true, recurses := true, plainKeys := false, apart := false, narrowed := true }
def SumsFreeUptoSaid : Prop := sumsFreeUptoRow.holds Try.pinned (OpenSpec.upto sumsFreeSpec)

/-- 'lampboxlaw05.SumsOwn', WHERE WHAT IT READS IS OF BULK AT MOST 1048576: true; the input reads as it did. -/
def sumsOwnUptoRow : OpenClaim := { program := "ytaibmipamkaljaa", sum := "628c0be61f551865b86094c509af35f8bbf552215bec96596decab8cda1520b3", func := "lampbox/lampboxlaw05.SumsOwn", spec := "sumsOwn", unfollowed := true, recurses := true, plainKeys := false, apart := false, narrowed := true }
def SumsOwnUptoSaid : Prop := sumsOwnUptoRow.holds Try.pinned (OpenSpec.upto sumsOwnSpec)

end Rows
end Go.Proofs.Ytaibmipamkaljaa
