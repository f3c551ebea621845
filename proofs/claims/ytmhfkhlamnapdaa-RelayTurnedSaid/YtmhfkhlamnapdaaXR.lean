/- A part of the proof: XR. -/
import Derived.Test.YtmhfkhlamnapdaaX44c
set_option linter.unusedVariables false
set_option linter.unusedSimpArgs false
open Go Go.HL
namespace Go.Proofs.Ytmhfkhlamnapdaa
/-- The policy of the reference's functions. -/
def primR (g : FuncId) : Option (List HV → Option HV) :=
  if g == 19 then some awakeF else if g == 49 then some withinF else if g == 22 then some modF else if g == 44 then some refk44 else if g == 38 then some rcalls38 else if g == 16 then some few16 else none
def polR : Pol := { pol with prim := primR }
theorem primR_ok (g : FuncId) (f : List HV → Option HV) (h : primR g = some f) : PrimOk Try.prog g f := by
  unfold primR at h
  split at h
  · rename_i hg; cases h; rw [eq_of_beq hg]; exact awake_prim
  split at h
  · rename_i hg; cases h; rw [eq_of_beq hg]; exact within_ok
  split at h
  · rename_i hg; cases h; rw [eq_of_beq hg]; exact mod_ok
  split at h
  · rename_i hg; cases h; rw [eq_of_beq hg]; exact refk_ok
  split at h
  · rename_i hg; cases h; rw [eq_of_beq hg]; exact rcalls_ok
  split at h
  · rename_i hg; cases h; rw [eq_of_beq hg]; exact few_ok
  · cases h
theorem soundR (n : Nat) : CallSound Try.prog (callN Try.prog polR n) := sound_prim primR primR_ok n
end Go.Proofs.Ytmhfkhlamnapdaa
