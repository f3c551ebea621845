/- A part of the proof: XF. -/
import Derived.Test.YtmhfkhlamnapdaaXM
import Derived.Test.YtmhfkhlamnapdaaX34c
import Derived.Test.YtmhfkhlamnapdaaX35c
set_option linter.unusedVariables false
set_option linter.unusedSimpArgs false
open Go Go.HL
namespace Go.Proofs.Ytmhfkhlamnapdaa
theorem res37 : Try.f37.results.toList = [.tmp 2] := by kernel_rfl
def refFewest37 : List HV → Option HV
  | [.int .i64 n] => if 1 ≤ n ∧ n ≤ 20 then some (.int .i64 (fewestN n)) else none
  | _ => none
theorem refFewest_ok : PrimOk Try.prog 37 refFewest37 := by
  refine primOk_pure (pol := pol) (fn := Try.f37) (cd := B37) follows_mixed sound (by kernel_rfl) (by kernel_rfl) (fnok pol.prim _ _ (by kernel_rfl)) (by kernel_rfl) ?_
  intro args res h
  unfold refFewest37 at h
  split at h
  · rename_i n
    split at h
    · rename_i g0
      cases h
      by_cases g1 : n < 4
      · refine ⟨_, _, _, _, rf_0 n g1, by simp, by simp only [resultsV, res37]; rfl, ?_⟩
        have h1 : n = 1 ∨ n = 2 ∨ n = 3 := by omega
        rcases h1 with rfl | rfl | rfl <;> rfl
      · refine ⟨_, _, _, _, rf_1 n g1, by simp, by simp only [resultsV, res37]; rfl, ?_⟩
        have : IntKind.i64.wrap (IntKind.i64.wrap (2 * n) - 4) = fewestN n := by rw [fewestN, if_neg g1, wrapI64, wrapI64]; omega
        show some (HV.int .i64 (IntKind.i64.wrap (IntKind.i64.wrap (2 * n) - 4))) = _
        rw [this]
    · cases h
  · cases h
/-- The policy of the law on Fewest. -/
def primQ (g : FuncId) : Option (List HV → Option HV) :=
  if g == 19 then some awakeF else if g == 33 then some fewestF else if g == 34 then some callsF else if g == 27 then some roundsF else if g == 36 then some refRounds36 else if g == 35 then some rounds35
  else if g == 37 then some refFewest37 else if g == 38 then some rcalls38 else if g == 39 then some rEnough39 else none
def polQ : Pol := { pol with prim := primQ }
theorem primQ_ok (g : FuncId) (f : List HV → Option HV) (h : primQ g = some f) : PrimOk Try.prog g f := by
  unfold primQ at h
  split at h
  · rename_i hg; cases h; rw [eq_of_beq hg]; exact awake_prim
  split at h
  · rename_i hg; cases h; rw [eq_of_beq hg]; exact fewest_ok
  split at h
  · rename_i hg; cases h; rw [eq_of_beq hg]; exact calls_ok
  split at h
  · rename_i hg; cases h; rw [eq_of_beq hg]; exact rounds_ok
  split at h
  · rename_i hg; cases h; rw [eq_of_beq hg]; exact refRounds_ok
  split at h
  · rename_i hg; cases h; rw [eq_of_beq hg]; exact roundsEq_ok
  split at h
  · rename_i hg; cases h; rw [eq_of_beq hg]; exact refFewest_ok
  split at h
  · rename_i hg; cases h; rw [eq_of_beq hg]; exact rcalls_ok
  split at h
  · rename_i hg; cases h; rw [eq_of_beq hg]; exact renough_ok
  · cases h
theorem soundQ (n : Nat) : CallSound Try.prog (callN Try.prog polQ n) := sound_prim primQ primQ_ok n
end Go.Proofs.Ytmhfkhlamnapdaa
