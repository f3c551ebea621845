/- A part of the proof: X34c. -/
import Derived.Test.YtmhfkhlamnapdaaX34
import Derived.Test.YtmhfkhlamnapdaaXC
set_option linter.unusedVariables false
set_option linter.unusedSimpArgs false
open Go Go.HL
namespace Go.Proofs.Ytmhfkhlamnapdaa
def callsL (m : Nat) : List (Int × Int) :=
  if m < 4 then (List.range m).flatMap fun (b : Nat) => (List.range b).map fun (a : Nat) => ((a : Int), (b : Int))
  else ((List.range (m - 4)).map fun (v : Nat) => ((0 : Int), ((v + 4 : Nat) : Int))) ++ [(0, 1), (2, 3), (0, 2), (1, 3)] ++ ((List.range (m - 4)).map fun (v : Nat) => ((0 : Int), ((v + 4 : Nat) : Int)))
def callsR (n : Int) : HV := if 1 ≤ n ∧ n ≤ 20 then .tuple [.own 2 ((callsL n.toNat).map encP), .int .i64 0] else .tuple [.own 2 [], .int .i64 2]
def callsF : List HV → Option HV
  | [.int .i64 n] => some (callsR n)
  | _ => none
noncomputable def callsOkB (i : Nat) : Bool :=
  (match callNF Try.prog polB 100 34 [.int .i64 (i : Int)] [] with
  | some (v, H) => (match toRes H false v with | some r => same r (callsR (i : Int)) | none => false)
  | none => false)
set_option maxRecDepth 100000
theorem calls_1 : callsOkB 1 = true := by kernel_rfl
theorem calls_2 : callsOkB 2 = true := by kernel_rfl
theorem calls_3 : callsOkB 3 = true := by kernel_rfl
theorem calls_4 : callsOkB 4 = true := by kernel_rfl
theorem calls_5 : callsOkB 5 = true := by kernel_rfl
theorem calls_6 : callsOkB 6 = true := by kernel_rfl
theorem calls_7 : callsOkB 7 = true := by kernel_rfl
theorem calls_8 : callsOkB 8 = true := by kernel_rfl
theorem calls_9 : callsOkB 9 = true := by kernel_rfl
theorem calls_10 : callsOkB 10 = true := by kernel_rfl
theorem calls_11 : callsOkB 11 = true := by kernel_rfl
theorem calls_12 : callsOkB 12 = true := by kernel_rfl
theorem calls_13 : callsOkB 13 = true := by kernel_rfl
theorem calls_14 : callsOkB 14 = true := by kernel_rfl
theorem calls_15 : callsOkB 15 = true := by kernel_rfl
theorem calls_16 : callsOkB 16 = true := by kernel_rfl
theorem calls_17 : callsOkB 17 = true := by kernel_rfl
theorem calls_18 : callsOkB 18 = true := by kernel_rfl
theorem calls_19 : callsOkB 19 = true := by kernel_rfl
theorem calls_20 : callsOkB 20 = true := by kernel_rfl
theorem calls_ok : PrimOk Try.prog 34 callsF := by
  refine primOk_of (pol := polB) soundB (by kernel_rfl) fun args res h => ?_
  unfold callsF at h
  split at h
  · rename_i n
    cases h
    by_cases hn : 1 ≤ n ∧ n ≤ 20
    · have key : ∀ i : Nat, callsOkB i = true → ∃ n r H' deep, callN Try.prog polB n 34 [.int .i64 (i : Int)] [] = some (r, H') ∧ toRes H' deep r = some (callsR (i : Int)) := by
        intro i hi
        unfold callsOkB at hi
        split at hi
        · rename_i v H hc
          split at hi
          · rename_i r hr
            refine ⟨100, v, H, false, ?_, ?_⟩
            · rw [← callNF_eq]; exact hc
            · rw [hr, same_eq _ _ hi]
          · cases hi
        · cases hi
      obtain ⟨i, rfl⟩ : ∃ i : Nat, n = (i : Int) := ⟨n.toNat, by omega⟩
      have hi : i = 1 ∨ i = 2 ∨ i = 3 ∨ i = 4 ∨ i = 5 ∨ i = 6 ∨ i = 7 ∨ i = 8 ∨ i = 9 ∨ i = 10 ∨ i = 11 ∨ i = 12 ∨ i = 13 ∨ i = 14 ∨ i = 15 ∨ i = 16 ∨ i = 17 ∨ i = 18 ∨ i = 19 ∨ i = 20 := by omega
      apply key
      rcases hi with rfl | rfl | rfl | rfl | rfl | rfl | rfl | rfl | rfl | rfl | rfl | rfl | rfl | rfl | rfl | rfl | rfl | rfl | rfl | rfl
      · exact calls_1
      · exact calls_2
      · exact calls_3
      · exact calls_4
      · exact calls_5
      · exact calls_6
      · exact calls_7
      · exact calls_8
      · exact calls_9
      · exact calls_10
      · exact calls_11
      · exact calls_12
      · exact calls_13
      · exact calls_14
      · exact calls_15
      · exact calls_16
      · exact calls_17
      · exact calls_18
      · exact calls_19
      · exact calls_20
    · have t := RunsTo.seq (c_a_0 n) (RunsTo.seq_out (c_b_1 n hn) (by simp) (c := sub [1] B34) (b := sub [1, 1] B34) (by kernel_rfl)) (c := B34) (by kernel_rfl) (by kernel_rfl)
      have hr : Try.f34.results.toList = [.tmp 2, .tmp 3] := by kernel_rfl
      obtain ⟨m, h⟩ := CallsTo.pure (pol := polB) (g := 34) (fn := Try.f34) (cd := B34) (args := [.int .i64 n]) (rs := [.int .i64 n]) (H := []) (v := .tuple [.imm .lit 2 [], .int .i64 2]) (r := .tuple [.own 2 [], .int .i64 2]) (by kernel_rfl) (by kernel_rfl) (by kernel_rfl) (by kernel_rfl) (by kernel_rfl) rfl t (by kernel_rfl) (by simp) (by simp only [resultsV, hr]; rfl) rfl
      refine ⟨m, _, _, false, h m (Nat.le_refl m), ?_⟩
      rw [callsR, if_neg hn]
      rfl
  · cases h
end Go.Proofs.Ytmhfkhlamnapdaa
