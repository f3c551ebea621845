/- A part of the proof: X15. -/
import Derived.Test.YtmhfkhlamnapdaaXE
set_option linter.unusedVariables false
set_option linter.unusedSimpArgs false
open Go Go.HL
namespace Go.Proofs.Ytmhfkhlamnapdaa
set_option maxRecDepth 100000
noncomputable def B15 : Code := Try.f15.body.getD .skip
abbrev env15 (v0 v2 v3 v4 v5 v6 : HV) : Env := [(0, v0), (2, v2), (3, v3), (4, v4), (5, v5), (6, v6)]
theorem l15_a_0 (a : Int)   : RunsTo Try.prog polD 15 (sub [0] B15) [(0, .int .i64 a)] [] (.normal) (polD.keys 15) (env15 (.int .i64 a) (.bool false) .undef .undef .undef .undef) [] :=
  RunsTo.hint 1 60 [] fun k hk => by
    obtain ⟨k, rfl⟩ : ∃ n, k = n + 1 := ⟨k - 1, by omega⟩
    exact ⟨[], by kernel_rfl, Obls.nil⟩

theorem l15_b_0 (a : Int)   : RunsTo Try.prog polD 15 (sub [1, 0] B15) (env15 (.int .i64 a) (.bool false) .undef .undef .undef .undef) [] (.normal) (polD.keys 15) (env15 (.int .i64 (IntKind.i64.wrap (2 + (modW a 19)))) (.bool false) .undef .undef .undef .undef) [] :=
  RunsTo.hint 1 60 [] fun k hk => by
    obtain ⟨k, rfl⟩ : ∃ n, k = n + 1 := ⟨k - 1, by omega⟩
    exact ⟨[], by kernel_rfl, Obls.nil⟩

theorem l15_c_0 (n : Int) (w : Nat) (m : Nat) (els : List HV) (c : Int) (r0 : Int) (r1 : Int) (g0 : ∀ k, callN Try.prog polD (k + 1) 34 [.int .i64 n] [] = some (.tuple [.sl 0 0 m none m 2, .int .i64 0], [.arr 2 els true 0])) (g1 : ∀ k, callN Try.prog polD (k + 1) 33 [.int .i64 n] [.arr 2 els true 0] = some (.tuple [.int .i64 c, .int .i64 0], [.arr 2 els true 0])) (g2 : (m : Int) = c) (g3 : 1 ≤ c) (g4 : ∀ k, callN Try.prog polD (k + 1) 43 [.int .i64 n, .sl 0 0 m none m 2] [.arr 2 els true 0] = some (.int .i64 r0, [.arr 2 els true 0])) (g5 : r0 = 0) (g6 : sliceV Try.prog 22 (.sl 0 0 m none m 2) none (some (.int .i64 (IntKind.i64.wrap (c - 1)))) none = some (.sl 0 0 w none m 2)) (g7 : ∀ k, callN Try.prog polD (k + 1) 43 [.int .i64 n, .sl 0 0 w none m 2] [.arr 2 els true 0] = some (.int .i64 r1, [.arr 2 els true 0])) (g8 : r1 = 10) : RunsTo Try.prog polD 15 (sub [1, 1] B15) (env15 (.int .i64 n) (.bool false) .undef .undef .undef .undef) [] (.ret) (polD.keys 15) (env15 (.int .i64 n) (.bool true) (.sl 0 0 m none m 2) (.int .i64 0) (.int .i64 c) (.int .i64 0)) [.arr 2 els true 0] :=
  RunsTo.hint 1 60 [⟨2, 1, .tuple [.sl 0 0 m none m 2, .int .i64 0], [.arr 2 els true 0]⟩, ⟨3, 1, .tuple [.int .i64 c, .int .i64 0], [.arr 2 els true 0]⟩, ⟨4, 10, .bool true, [.arr 2 els true 0]⟩, ⟨4, 14, .bool true, [.arr 2 els true 0]⟩, ⟨4, 19, .int .i64 r0, [.arr 2 els true 0]⟩, ⟨4, 20, .bool true, [.arr 2 els true 0]⟩, ⟨4, 27, .sl 0 0 w none m 2, [.arr 2 els true 0]⟩, ⟨4, 28, .int .i64 r1, [.arr 2 els true 0]⟩, ⟨4, 29, .bool true, [.arr 2 els true 0]⟩] fun k hk => by
    obtain ⟨k, rfl⟩ : ∃ n, k = n + 1 := ⟨k - 1, by omega⟩
    exact ⟨[callN Try.prog polD (k + 1) 34 [.int .i64 n] [] = some (.tuple [.sl 0 0 m none m 2, .int .i64 0], [.arr 2 els true 0]), callN Try.prog polD (k + 1) 33 [.int .i64 n] [.arr 2 els true 0] = some (.tuple [.int .i64 c, .int .i64 0], [.arr 2 els true 0]), some (HV.bool (decide ((m : Int) = c)), ([.arr 2 els true 0] : Heap)) = some (.bool true, [.arr 2 els true 0]), some (HV.bool (decide (1 ≤ c)), ([.arr 2 els true 0] : Heap)) = some (.bool true, [.arr 2 els true 0]), callN Try.prog polD (k + 1) 43 [.int .i64 n, .sl 0 0 m none m 2] [.arr 2 els true 0] = some (.int .i64 r0, [.arr 2 els true 0]), some (HV.bool (decide (r0 = 0)), ([.arr 2 els true 0] : Heap)) = some (.bool true, [.arr 2 els true 0]), (sliceV Try.prog 22 (.sl 0 0 m none m 2) none (some (.int .i64 (IntKind.i64.wrap (c - 1)))) none).map (fun v => (v, ([.arr 2 els true 0] : Heap))) = some (.sl 0 0 w none m 2, [.arr 2 els true 0]), callN Try.prog polD (k + 1) 43 [.int .i64 n, .sl 0 0 w none m 2] [.arr 2 els true 0] = some (.int .i64 r1, [.arr 2 els true 0]), some (HV.bool (decide (r1 = 10)), ([.arr 2 els true 0] : Heap)) = some (.bool true, [.arr 2 els true 0])], by kernel_rfl, Obls.cons (g0 k) (Obls.cons (g1 k) (Obls.cons (hintB (decide_eq_true g2)) (Obls.cons (hintB (decide_eq_true g3)) (Obls.cons (g4 k) (Obls.cons (hintB (decide_eq_true g5)) (Obls.cons (hintOp g6) (Obls.cons (g7 k) (Obls.cons (hintB (decide_eq_true g8)) Obls.nil))))))))⟩

end Go.Proofs.Ytmhfkhlamnapdaa
