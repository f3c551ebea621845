/- A part of the proof: XW. -/
import Derived.Test.YtmhfkhlamnapdaaRBase
import Derived.Test.YtmhfkhlamnapdaaHlF
set_option linter.unusedVariables false
set_option linter.unusedSimpArgs false
open Go Go.HL
namespace Go.Proofs.Ytmhfkhlamnapdaa
set_option maxRecDepth 100000
noncomputable def B49 : Code := Try.f49.body.getD .skip
abbrev env49 (v0 v1 v2 v6 : HV) : Env := [(0, v0), (1, v1), (2, v2), (6, v6)]
theorem w49_0 (n lo hi : Int)  (g0 : lo ≤ n) (g1 : n ≤ hi) : RunsTo Try.prog pol 49 (sub [] B49) [(0, .int .i64 n), (1, .int .i64 lo), (2, .int .i64 hi)] [] (.ret) (pol.keys 49) (env49 (.int .i64 n) (.int .i64 lo) (.int .i64 hi) (.bool true)) [] :=
  RunsTo.hint 1 60 [⟨1, 2, .bool true, []⟩, ⟨1, 6, .bool true, []⟩] fun k hk => by
    obtain ⟨k, rfl⟩ : ∃ n, k = n + 1 := ⟨k - 1, by omega⟩
    exact ⟨[some (HV.bool (decide (lo ≤ n)), ([] : Heap)) = some (.bool true, []), some (HV.bool (decide (n ≤ hi)), ([] : Heap)) = some (.bool true, [])], by kernel_rfl, Obls.cons (hintB (decide_eq_true g0)) (Obls.cons (hintB (decide_eq_true g1)) Obls.nil)⟩

theorem w49_1 (n lo hi : Int)  (g0 : lo ≤ n) (g1 : ¬ (n ≤ hi)) : RunsTo Try.prog pol 49 (sub [] B49) [(0, .int .i64 n), (1, .int .i64 lo), (2, .int .i64 hi)] [] (.ret) (pol.keys 49) (env49 (.int .i64 n) (.int .i64 lo) (.int .i64 hi) (.bool false)) [] :=
  RunsTo.hint 1 60 [⟨1, 2, .bool true, []⟩, ⟨1, 6, .bool false, []⟩] fun k hk => by
    obtain ⟨k, rfl⟩ : ∃ n, k = n + 1 := ⟨k - 1, by omega⟩
    exact ⟨[some (HV.bool (decide (lo ≤ n)), ([] : Heap)) = some (.bool true, []), some (HV.bool (decide (n ≤ hi)), ([] : Heap)) = some (.bool false, [])], by kernel_rfl, Obls.cons (hintB (decide_eq_true g0)) (Obls.cons (hintB (decide_eq_false g1)) Obls.nil)⟩

theorem w49_2 (n lo hi : Int)  (g0 : ¬ (lo ≤ n)) : RunsTo Try.prog pol 49 (sub [] B49) [(0, .int .i64 n), (1, .int .i64 lo), (2, .int .i64 hi)] [] (.ret) (pol.keys 49) (env49 (.int .i64 n) (.int .i64 lo) (.int .i64 hi) (.bool false)) [] :=
  RunsTo.hint 1 60 [⟨1, 2, .bool false, []⟩] fun k hk => by
    obtain ⟨k, rfl⟩ : ∃ n, k = n + 1 := ⟨k - 1, by omega⟩
    exact ⟨[some (HV.bool (decide (lo ≤ n)), ([] : Heap)) = some (.bool false, [])], by kernel_rfl, Obls.cons (hintB (decide_eq_false g0)) Obls.nil⟩

noncomputable def B22 : Code := Try.f22.body.getD .skip
abbrev env22 (v0 v1 v4 : HV) : Env := [(0, v0), (1, v1), (4, v4)]
theorem m22_0 (a n : Int)  (g0 : binV Try.prog .rem 76 (.int .u64 (IntKind.u64.wrap a)) (.int .u64 (IntKind.u64.wrap n)) = some (.int .u64 ((IntKind.u64.wrap a : Int).tmod (IntKind.u64.wrap n)))) : RunsTo Try.prog pol 22 (sub [] B22) [(0, .int .i64 a), (1, .int .i64 n)] [] (.ret) (pol.keys 22) (env22 (.int .i64 a) (.int .i64 n) (.int .i64 (IntKind.i64.wrap ((IntKind.u64.wrap a : Int).tmod (IntKind.u64.wrap n))))) [] :=
  RunsTo.hint 1 60 [⟨1, 4, .int .u64 ((IntKind.u64.wrap a : Int).tmod (IntKind.u64.wrap n)), []⟩] fun k hk => by
    obtain ⟨k, rfl⟩ : ∃ n, k = n + 1 := ⟨k - 1, by omega⟩
    exact ⟨[(binV Try.prog .rem 76 (.int .u64 (IntKind.u64.wrap a)) (.int .u64 (IntKind.u64.wrap n))).map (fun v => (v, ([] : Heap))) = some (.int .u64 ((IntKind.u64.wrap a : Int).tmod (IntKind.u64.wrap n)), [])], by kernel_rfl, Obls.cons (hintOp g0) Obls.nil⟩

noncomputable def B33 : Code := Try.f33.body.getD .skip
abbrev env33 (v0 v2 v3 : HV) : Env := [(0, v0), (2, v2), (3, v3)]
theorem f33_0 (n : Int)  (g0 : (1 : Int) ≤ n ∧ n ≤ (20 : Int)) (g1 : n < 4) : RunsTo Try.prog polB 33 (sub [] B33) [(0, .int .i64 n)] [] (.ret) (polB.keys 33) (env33 (.int .i64 n) (.int .i64 (IntKind.i64.wrap ((IntKind.i64.wrap (n * IntKind.i64.wrap (n - 1)) : Int).tdiv 2))) (.int .i64 0)) [] :=
  RunsTo.hint 1 60 [⟨1, 1, .bool true, []⟩, ⟨3, 1, .bool true, []⟩] fun k hk => by
    obtain ⟨k, rfl⟩ : ∃ n, k = n + 1 := ⟨k - 1, by omega⟩
    exact ⟨[some (HV.bool (decide ((1 : Int) ≤ n ∧ n ≤ (20 : Int))), ([] : Heap)) = some (.bool true, []), some (HV.bool (decide (n < 4)), ([] : Heap)) = some (.bool true, [])], by kernel_rfl, Obls.cons (hintB (decide_eq_true g0)) (Obls.cons (hintB (decide_eq_true g1)) Obls.nil)⟩

theorem f33_1 (n : Int)  (g0 : (1 : Int) ≤ n ∧ n ≤ (20 : Int)) (g1 : ¬ (n < 4)) : RunsTo Try.prog polB 33 (sub [] B33) [(0, .int .i64 n)] [] (.ret) (polB.keys 33) (env33 (.int .i64 n) (.int .i64 (IntKind.i64.wrap (IntKind.i64.wrap (2 * n) - 4))) (.int .i64 0)) [] :=
  RunsTo.hint 1 60 [⟨1, 1, .bool true, []⟩, ⟨3, 1, .bool false, []⟩] fun k hk => by
    obtain ⟨k, rfl⟩ : ∃ n, k = n + 1 := ⟨k - 1, by omega⟩
    exact ⟨[some (HV.bool (decide ((1 : Int) ≤ n ∧ n ≤ (20 : Int))), ([] : Heap)) = some (.bool true, []), some (HV.bool (decide (n < 4)), ([] : Heap)) = some (.bool false, [])], by kernel_rfl, Obls.cons (hintB (decide_eq_true g0)) (Obls.cons (hintB (decide_eq_false g1)) Obls.nil)⟩

theorem f33_2 (n : Int)  (g0 : ¬ ((1 : Int) ≤ n ∧ n ≤ (20 : Int))) : RunsTo Try.prog polB 33 (sub [] B33) [(0, .int .i64 n)] [] (.ret) (polB.keys 33) (env33 (.int .i64 n) (.int .i64 0) (.int .i64 2)) [] :=
  RunsTo.hint 1 60 [⟨1, 1, .bool false, []⟩] fun k hk => by
    obtain ⟨k, rfl⟩ : ∃ n, k = n + 1 := ⟨k - 1, by omega⟩
    exact ⟨[some (HV.bool (decide ((1 : Int) ≤ n ∧ n ≤ (20 : Int))), ([] : Heap)) = some (.bool false, [])], by kernel_rfl, Obls.cons (hintB (decide_eq_false g0)) Obls.nil⟩

end Go.Proofs.Ytmhfkhlamnapdaa
