/- A part of the proof: XC. -/
import Derived.Test.YtmhfkhlamnapdaaX58c
import Derived.Test.YtmhfkhlamnapdaaXW
set_option linter.unusedVariables false
set_option linter.unusedSimpArgs false
open Go Go.HL
namespace Go.Proofs.Ytmhfkhlamnapdaa
theorem fnok (F : FuncId → Option (List HV → Option HV)) (g : FuncId) (fn : Func) (h : Try.prog.funcs[g]? = some fn) : fnOk { pol with prim := F } g fn = true := by
  rw [fnOk_prim]
  exact List.all_eq_true.1 fns_ok (fn, g) (by
    rw [List.mem_zipIdx_iff_getElem?]
    simpa using h)

theorem within_ok : PrimOk Try.prog 49 withinF := by
  refine primOk_pure (pol := pol) (fn := Try.f49) (cd := B49) follows_mixed sound (by kernel_rfl) (by kernel_rfl) (fnok pol.prim _ _ (by kernel_rfl)) (by kernel_rfl) ?_
  intro args res h
  unfold withinF at h
  split at h
  · rename_i n lo hi
    cases h
    have hr : Try.f49.results.toList = [.tmp 6] := by kernel_rfl
    by_cases g0 : lo ≤ n
    · by_cases g1 : n ≤ hi
      · exact ⟨_, _, _, _, w49_0 n lo hi g0 g1, by simp, by simp only [resultsV, hr]; rfl, by rw [decide_eq_true ⟨g0, g1⟩]; rfl⟩
      · exact ⟨_, _, _, _, w49_1 n lo hi g0 g1, by simp, by simp only [resultsV, hr]; rfl, by rw [decide_eq_false (fun h => g1 h.2)]; rfl⟩
    · exact ⟨_, _, _, _, w49_2 n lo hi g0, by simp, by simp only [resultsV, hr]; rfl, by rw [decide_eq_false (fun h => g0 h.1)]; rfl⟩
  · cases h

def modF : List HV → Option HV
  | [.int .i64 a, .int .i64 n] => if 0 < n ∧ n < 9223372036854775808 then some (.int .i64 (modW a n)) else none
  | _ => none
theorem mod_ok : PrimOk Try.prog 22 modF := by
  refine primOk_pure (pol := pol) (fn := Try.f22) (cd := B22) follows_mixed sound (by kernel_rfl) (by kernel_rfl) (fnok pol.prim _ _ (by kernel_rfl)) (by kernel_rfl) ?_
  intro args res h
  unfold modF at h
  split at h
  · rename_i a n
    split at h
    · rename_i hn
      cases h
      have hr : Try.f22.results.toList = [.tmp 4] := by kernel_rfl
      refine ⟨_, _, _, _, m22_0 a n ?_, by simp, by simp only [resultsV, hr]; rfl, rfl⟩
      have : IntKind.u64.wrap n ≠ 0 := by rw [wrapU64]; omega
      simp only [binV, intBin, if_neg this, if_true]
    · cases h
  · cases h

/-- The policy whose 'awake' and 'within' are known: sound. -/
theorem soundB (n : Nat) : CallSound Try.prog (callN Try.prog polB n) := sound_prim _ (fun g f h => by
  split at h
  · rename_i hg
    cases h
    rw [eq_of_beq hg]
    exact awake_prim
  · split at h
    · rename_i hg
      cases h
      rw [eq_of_beq hg]
      exact within_ok
    · cases h) n

theorem known_ok : PrimOk Try.prog 58 known58 := by
  refine primOk_pure (pol := polB) (fn := Try.f58) (cd := B58) follows_mixed soundB (by kernel_rfl) (by kernel_rfl) (fnok polB.prim _ _ (by kernel_rfl)) (by kernel_rfl) ?_
  intro args res h
  unfold known58 at h
  split at h
  · rename_i n lc
    split at h
    · rename_i l hl
      cases h
      rw [mapO_inv decP_inv hl]
      obtain ⟨E, H, v, h1, h2, h3⟩ := known_run n l
      exact ⟨_, E, H, v, h1, by simp, h2, h3⟩
    · cases h
  · cases h

def fewestN (n : Int) : Int := if n < 4 then (n * (n - 1)).tdiv 2 else 2 * n - 4
def fewestF : List HV → Option HV
  | [.int .i64 n] => some (if 1 ≤ n ∧ n ≤ 20 then .tuple [.int .i64 (fewestN n), .int .i64 0] else .tuple [.int .i64 0, .int .i64 2])
  | _ => none
theorem fewest_ok : PrimOk Try.prog 33 fewestF := by
  refine primOk_pure (pol := polB) (fn := Try.f33) (cd := B33) follows_mixed soundB (by kernel_rfl) (by kernel_rfl) (fnok polB.prim _ _ (by kernel_rfl)) (by kernel_rfl) ?_
  intro args res h
  unfold fewestF at h
  split at h
  · rename_i n
    cases h
    have hr : Try.f33.results.toList = [.tmp 2, .tmp 3] := by kernel_rfl
    by_cases g0 : 1 ≤ n ∧ n ≤ 20
    · rw [if_pos g0]
      by_cases g1 : n < 4
      · refine ⟨_, _, _, _, f33_0 n g0 g1, by simp, by simp only [resultsV, hr]; rfl, ?_⟩
        have h1 : n = 1 ∨ n = 2 ∨ n = 3 := by omega
        rcases h1 with rfl | rfl | rfl <;> rfl
      · refine ⟨_, _, _, _, f33_1 n g0 g1, by simp, by simp only [resultsV, hr]; rfl, ?_⟩
        have : IntKind.i64.wrap (IntKind.i64.wrap (2 * n) - 4) = fewestN n := by rw [fewestN, if_neg g1, wrapI64, wrapI64]; omega
        show some (HV.tuple [.int .i64 (IntKind.i64.wrap (IntKind.i64.wrap (2 * n) - 4)), .int .i64 0]) = _
        rw [this]
    · rw [if_neg g0]
      exact ⟨_, _, _, _, f33_2 n g0, by simp, by simp only [resultsV, hr]; rfl, rfl⟩
  · cases h
end Go.Proofs.Ytmhfkhlamnapdaa
