/- A part of the proof: XU. -/
import Derived.Test.YtmhfkhlamnapdaaX13c
import Derived.Test.YtmhfkhlamnapdaaX45c
set_option linter.unusedVariables false
set_option linter.unusedSimpArgs false
open Go Go.HL
namespace Go.Proofs.Ytmhfkhlamnapdaa
/-- A reading that may be taken at two places: what the check of drawn orders asks. -/
def recL (x x' : Option (HV × Heap)) (H H' : Heap) : Bool :=
  match x, x' with
  | some (v, H1), some (v', H1') => same v v' && sameH H1 H && sameH H1' H'
  | _, _ => false
/-- The policy of the law on turned calls. -/
def primU (g : FuncId) : Option (List HV → Option HV) :=
  if g == 19 then some awakeF else if g == 22 then some modF else if g == 45 then some talked45 else if g == 43 then some enough43 else if g == 33 then some fewestF else if g == 42 then some known42 else none
def polU : Pol := { pol with prim := primU }
theorem primU_ok (g : FuncId) (f : List HV → Option HV) (h : primU g = some f) : PrimOk Try.prog g f := by
  unfold primU at h
  split at h
  · rename_i hg; cases h; rw [eq_of_beq hg]; exact awake_prim
  split at h
  · rename_i hg; cases h; rw [eq_of_beq hg]; exact mod_ok
  split at h
  · rename_i hg; cases h; rw [eq_of_beq hg]; exact talked_ok
  split at h
  · rename_i hg; cases h; rw [eq_of_beq hg]; exact enough_ok
  split at h
  · rename_i hg; cases h; rw [eq_of_beq hg]; exact fewest_ok
  split at h
  · rename_i hg; cases h; rw [eq_of_beq hg]; exact known42_ok
  · cases h
theorem soundU (n : Nat) : CallSound Try.prog (callN Try.prog polU n) := sound_prim primU primU_ok n
end Go.Proofs.Ytmhfkhlamnapdaa
