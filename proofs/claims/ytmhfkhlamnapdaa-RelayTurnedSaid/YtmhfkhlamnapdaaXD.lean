/- A part of the proof: XD. -/
import Derived.Test.YtmhfkhlamnapdaaX34c
set_option linter.unusedVariables false
set_option linter.unusedSimpArgs false
open Go Go.HL
namespace Go.Proofs.Ytmhfkhlamnapdaa
/-- The policy of the laws on calls. -/
def primC (g : FuncId) : Option (List HV → Option HV) :=
  if g == 19 then some awakeF else if g == 49 then some withinF else if g == 22 then some modF else if g == 58 then some known58 else if g == 33 then some fewestF else if g == 34 then some callsF else none
def polC : Pol := { pol with prim := primC }
theorem primC_ok (g : FuncId) (f : List HV → Option HV) (h : primC g = some f) : PrimOk Try.prog g f := by
  unfold primC at h
  split at h
  · rename_i hg; cases h; rw [eq_of_beq hg]; exact awake_prim
  split at h
  · rename_i hg; cases h; rw [eq_of_beq hg]; exact within_ok
  split at h
  · rename_i hg; cases h; rw [eq_of_beq hg]; exact mod_ok
  split at h
  · rename_i hg; cases h; rw [eq_of_beq hg]; exact known_ok
  split at h
  · rename_i hg; cases h; rw [eq_of_beq hg]; exact fewest_ok
  split at h
  · rename_i hg; cases h; rw [eq_of_beq hg]; exact calls_ok
  · cases h
theorem soundC (n : Nat) : CallSound Try.prog (callN Try.prog polC n) := sound_prim primC primC_ok n
end Go.Proofs.Ytmhfkhlamnapdaa
