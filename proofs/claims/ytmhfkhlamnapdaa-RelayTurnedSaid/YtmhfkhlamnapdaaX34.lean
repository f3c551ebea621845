/- A part of the proof: X34. -/
import Derived.Test.YtmhfkhlamnapdaaRBase
import Derived.Test.YtmhfkhlamnapdaaHlF
set_option linter.unusedVariables false
set_option linter.unusedSimpArgs false
open Go Go.HL
namespace Go.Proofs.Ytmhfkhlamnapdaa
set_option maxRecDepth 100000
noncomputable def B34 : Code := Try.f34.body.getD .skip
abbrev env34 (v0 v1 v2 v3 v4 v5 v6 v7 v13 v14 v17 v18 : HV) : Env := [(0, v0), (1, v1), (2, v2), (3, v3), (4, v4), (5, v5), (6, v6), (7, v7), (13, v13), (14, v14), (17, v17), (18, v18)]
theorem c_a_0 (n : Int)   : RunsTo Try.prog polB 34 (sub [0] B34) [(0, .int .i64 n)] [] (.normal) (polB.keys 34) (env34 (.int .i64 n) (.ptr 0 0 0 1) (.imm .lit 2 []) (.int .i64 0) .undef .undef .undef .undef .undef .undef .undef .undef) [.arr 1 [.int .i64 n] true 0] :=
  RunsTo.hint 1 60 [] fun k hk => by
    obtain ⟨k, rfl⟩ : ∃ n, k = n + 1 := ⟨k - 1, by omega⟩
    exact ⟨[], by kernel_rfl, Obls.nil⟩

theorem c_b_0 (n : Int)  (g0 : (1 : Int) ≤ n ∧ n ≤ (20 : Int)) : RunsTo Try.prog polB 34 (sub [1, 0] B34) (env34 (.int .i64 n) (.ptr 0 0 0 1) (.imm .lit 2 []) (.int .i64 0) .undef .undef .undef .undef .undef .undef .undef .undef) [.arr 1 [.int .i64 n] true 0] (.normal) (polB.keys 34) (env34 (.int .i64 n) (.ptr 0 0 0 1) (.imm .lit 2 []) (.int .i64 0) .undef .undef .undef .undef .undef .undef .undef .undef) [.arr 1 [.int .i64 n] true 0] :=
  RunsTo.hint 1 60 [⟨1, 1, .bool true, [.arr 1 [.int .i64 n] true 0]⟩] fun k hk => by
    obtain ⟨k, rfl⟩ : ∃ n, k = n + 1 := ⟨k - 1, by omega⟩
    exact ⟨[some (HV.bool (decide ((1 : Int) ≤ n ∧ n ≤ (20 : Int))), ([.arr 1 [.int .i64 n] true 0] : Heap)) = some (.bool true, [.arr 1 [.int .i64 n] true 0])], by kernel_rfl, Obls.cons (hintB (decide_eq_true g0)) Obls.nil⟩

theorem c_b_1 (n : Int)  (g0 : ¬ ((1 : Int) ≤ n ∧ n ≤ (20 : Int))) : RunsTo Try.prog polB 34 (sub [1, 0] B34) (env34 (.int .i64 n) (.ptr 0 0 0 1) (.imm .lit 2 []) (.int .i64 0) .undef .undef .undef .undef .undef .undef .undef .undef) [.arr 1 [.int .i64 n] true 0] (.ret) (polB.keys 34) (env34 (.int .i64 n) (.ptr 0 0 0 1) (.imm .lit 2 []) (.int .i64 2) .undef .undef .undef .undef .undef .undef .undef .undef) [.arr 1 [.int .i64 n] true 0] :=
  RunsTo.hint 1 60 [⟨1, 1, .bool false, [.arr 1 [.int .i64 n] true 0]⟩] fun k hk => by
    obtain ⟨k, rfl⟩ : ∃ n, k = n + 1 := ⟨k - 1, by omega⟩
    exact ⟨[some (HV.bool (decide ((1 : Int) ≤ n ∧ n ≤ (20 : Int))), ([.arr 1 [.int .i64 n] true 0] : Heap)) = some (.bool false, [.arr 1 [.int .i64 n] true 0])], by kernel_rfl, Obls.cons (hintB (decide_eq_false g0)) Obls.nil⟩

end Go.Proofs.Ytmhfkhlamnapdaa
