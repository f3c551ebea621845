/- A part of the proof: XE. -/
import Derived.Test.YtmhfkhlamnapdaaX43c
set_option linter.unusedVariables false
set_option linter.unusedSimpArgs false
open Go Go.HL
namespace Go.Proofs.Ytmhfkhlamnapdaa
def primD (g : FuncId) : Option (List HV → Option HV) := if g == 43 then some enough43 else primC g
def polD : Pol := { pol with prim := primD }
theorem primD_ok (g : FuncId) (f : List HV → Option HV) (h : primD g = some f) : PrimOk Try.prog g f := by
  unfold primD at h
  split at h
  · rename_i hg; cases h; rw [eq_of_beq hg]; exact enough_ok
  · exact primC_ok g f h
theorem soundD (n : Nat) : CallSound Try.prog (callN Try.prog polD n) := sound_prim primD primD_ok n
end Go.Proofs.Ytmhfkhlamnapdaa
