/- A part of the proof: X27d. -/
import Derived.Test.YtmhfkhlamnapdaaX27c
set_option linter.unusedVariables false
set_option linter.unusedSimpArgs false
open Go Go.HL
namespace Go.Proofs.Ytmhfkhlamnapdaa
def primT (g : FuncId) : Option (List HV → Option HV) := if g == 19 then some awakeF else if g == 49 then some withinF else if g == 22 then some modF else if g == 27 then some roundsF else none
def polT : Pol := { pol with prim := primT }
theorem primT_ok (g : FuncId) (f : List HV → Option HV) (h : primT g = some f) : PrimOk Try.prog g f := by
  unfold primT at h
  split at h
  · rename_i hg; cases h; rw [eq_of_beq hg]; exact awake_prim
  split at h
  · rename_i hg; cases h; rw [eq_of_beq hg]; exact within_ok
  split at h
  · rename_i hg; cases h; rw [eq_of_beq hg]; exact mod_ok
  split at h
  · rename_i hg; cases h; rw [eq_of_beq hg]; exact rounds_ok
  · cases h
theorem soundT (n : Nat) : CallSound Try.prog (callN Try.prog polT n) := sound_prim primT primT_ok n
end Go.Proofs.Ytmhfkhlamnapdaa
