/- A part of the proof: X39. -/
import Derived.Test.YtmhfkhlamnapdaaXR
set_option linter.unusedVariables false
set_option linter.unusedSimpArgs false
open Go Go.HL
namespace Go.Proofs.Ytmhfkhlamnapdaa
set_option maxRecDepth 100000
noncomputable def B39 : Code := Try.f39.body.getD .skip
abbrev env39 (v0 v1 v4 v5 v6 : HV) : Env := [(0, v0), (1, v1), (4, v4), (5, v5), (6, v6)]
theorem re_a_0 (n : Int) (lc : List HV)   : RunsTo Try.prog polR 39 (sub [0] B39) [(0, .int .i64 n), (1, .imm .arg 2 lc)] [] (.normal) (polR.keys 39) (env39 (.int .i64 n) (.imm .arg 2 lc) (.bool false) .undef .undef) [] :=
  RunsTo.hint 1 60 [] fun kf hk => by
    obtain ⟨kf, rfl⟩ : ∃ n, kf = n + 1 := ⟨kf - 1, by omega⟩
    exact ⟨[], by kernel_rfl, Obls.nil⟩

theorem re_b_0 (n : Int) (lc : List HV) (R : Nat) (rws : List HV) (g0 : ∀ kf, callN Try.prog polR (kf + 1) 44 [.int .i64 n, .imm .arg 2 lc] [] = some (.sl 0 0 R none R 1, [.arr 1 rws true 0])) : RunsTo Try.prog polR 39 (sub [1, 0] B39) (env39 (.int .i64 n) (.imm .arg 2 lc) (.bool false) .undef .undef) [] (.normal) (polR.keys 39) (env39 (.int .i64 n) (.imm .arg 2 lc) (.bool false) (.sl 0 0 R none R 1) .undef) [.arr 1 rws true 0] :=
  RunsTo.hint 1 60 [⟨1, 2, .sl 0 0 R none R 1, [.arr 1 rws true 0]⟩] fun kf hk => by
    obtain ⟨kf, rfl⟩ : ∃ n, kf = n + 1 := ⟨kf - 1, by omega⟩
    exact ⟨[callN Try.prog polR (kf + 1) 44 [.int .i64 n, .imm .arg 2 lc] [] = some (.sl 0 0 R none R 1, [.arr 1 rws true 0])], by kernel_rfl, Obls.cons (g0 kf) Obls.nil⟩

theorem re_c_0 (n : Int) (lc : List HV) (R : Nat) (rws : List HV)   : RunsTo Try.prog polR 39 (sub [1, 1, 0, 0] B39) (env39 (.int .i64 n) (.imm .arg 2 lc) (.bool false) (.sl 0 0 R none R 1) .undef) [.arr 1 rws true 0] (.normal) (polR.keys 39) (env39 (.int .i64 n) (.imm .arg 2 lc) (.bool false) (.sl 0 0 R none R 1) (.int .i64 0)) [.arr 1 rws true 0] :=
  RunsTo.hint 1 60 [] fun kf hk => by
    obtain ⟨kf, rfl⟩ : ∃ n, kf = n + 1 := ⟨kf - 1, by omega⟩
    exact ⟨[], by kernel_rfl, Obls.nil⟩

theorem re_l_0 (n : Int) (lc : List HV) (R : Nat) (rws : List HV) (j : Nat) (l0 : List HV) (g0 : (j : Int) < n) (g1 : idxV Try.prog 55 (.sl 0 0 R none R 1) (.int .i64 (j : Int)) = some (.ptr 0 j 0 R)) (g2 : loadV Try.prog [.arr 1 rws true 0] 24 (.ptr 0 j 0 R) = some (.imm .own 1 l0)) (g3 : (l0.length : Int) < n) : RunsTo Try.prog polR 39 (sub [1, 1, 0, 1, 0, 0] B39) (env39 (.int .i64 n) (.imm .arg 2 lc) (.bool false) (.sl 0 0 R none R 1) (.int .i64 (j : Int))) [.arr 1 rws true 0] (.ret) (polR.keys 39) (env39 (.int .i64 n) (.imm .arg 2 lc) (.bool false) (.sl 0 0 R none R 1) (.int .i64 (j : Int))) [.arr 1 rws true 0] :=
  RunsTo.hint 1 60 [⟨3, 2, .bool true, [.arr 1 rws true 0]⟩, ⟨5, 2, .ptr 0 j 0 R, [.arr 1 rws true 0]⟩, ⟨5, 3, .imm .own 1 l0, [.arr 1 rws true 0]⟩, ⟨5, 6, .bool true, [.arr 1 rws true 0]⟩] fun kf hk => by
    obtain ⟨kf, rfl⟩ : ∃ n, kf = n + 1 := ⟨kf - 1, by omega⟩
    exact ⟨[some (HV.bool (decide ((j : Int) < n)), ([.arr 1 rws true 0] : Heap)) = some (.bool true, [.arr 1 rws true 0]), (idxV Try.prog 55 (.sl 0 0 R none R 1) (.int .i64 (j : Int))).map (fun v => (v, ([.arr 1 rws true 0] : Heap))) = some (.ptr 0 j 0 R, [.arr 1 rws true 0]), (loadV Try.prog [.arr 1 rws true 0] 24 (.ptr 0 j 0 R)).map (fun v => (v, ([.arr 1 rws true 0] : Heap))) = some (.imm .own 1 l0, [.arr 1 rws true 0]), some (HV.bool (decide ((l0.length : Int) < n)), ([.arr 1 rws true 0] : Heap)) = some (.bool true, [.arr 1 rws true 0])], by kernel_rfl, Obls.cons (hintB (decide_eq_true g0)) (Obls.cons (hintOp g1) (Obls.cons (hintOp g2) (Obls.cons (hintB (decide_eq_true g3)) Obls.nil)))⟩

theorem re_l_1 (n : Int) (lc : List HV) (R : Nat) (rws : List HV) (j : Nat) (l0 : List HV) (g0 : (j : Int) < n) (g1 : idxV Try.prog 55 (.sl 0 0 R none R 1) (.int .i64 (j : Int)) = some (.ptr 0 j 0 R)) (g2 : loadV Try.prog [.arr 1 rws true 0] 24 (.ptr 0 j 0 R) = some (.imm .own 1 l0)) (g3 : ¬ ((l0.length : Int) < n)) : RunsTo Try.prog polR 39 (sub [1, 1, 0, 1, 0, 0] B39) (env39 (.int .i64 n) (.imm .arg 2 lc) (.bool false) (.sl 0 0 R none R 1) (.int .i64 (j : Int))) [.arr 1 rws true 0] (.normal) (polR.keys 39) (env39 (.int .i64 n) (.imm .arg 2 lc) (.bool false) (.sl 0 0 R none R 1) (.int .i64 (IntKind.i64.wrap ((j : Int) + 1)))) [.arr 1 rws true 0] :=
  RunsTo.hint 1 60 [⟨3, 2, .bool true, [.arr 1 rws true 0]⟩, ⟨5, 2, .ptr 0 j 0 R, [.arr 1 rws true 0]⟩, ⟨5, 3, .imm .own 1 l0, [.arr 1 rws true 0]⟩, ⟨5, 6, .bool false, [.arr 1 rws true 0]⟩] fun kf hk => by
    obtain ⟨kf, rfl⟩ : ∃ n, kf = n + 1 := ⟨kf - 1, by omega⟩
    exact ⟨[some (HV.bool (decide ((j : Int) < n)), ([.arr 1 rws true 0] : Heap)) = some (.bool true, [.arr 1 rws true 0]), (idxV Try.prog 55 (.sl 0 0 R none R 1) (.int .i64 (j : Int))).map (fun v => (v, ([.arr 1 rws true 0] : Heap))) = some (.ptr 0 j 0 R, [.arr 1 rws true 0]), (loadV Try.prog [.arr 1 rws true 0] 24 (.ptr 0 j 0 R)).map (fun v => (v, ([.arr 1 rws true 0] : Heap))) = some (.imm .own 1 l0, [.arr 1 rws true 0]), some (HV.bool (decide ((l0.length : Int) < n)), ([.arr 1 rws true 0] : Heap)) = some (.bool false, [.arr 1 rws true 0])], by kernel_rfl, Obls.cons (hintB (decide_eq_true g0)) (Obls.cons (hintOp g1) (Obls.cons (hintOp g2) (Obls.cons (hintB (decide_eq_false g3)) Obls.nil)))⟩

theorem re_l_2 (n : Int) (lc : List HV) (R : Nat) (rws : List HV) (j : Nat)  (g0 : ¬ ((j : Int) < n)) : RunsTo Try.prog polR 39 (sub [1, 1, 0, 1, 0, 0] B39) (env39 (.int .i64 n) (.imm .arg 2 lc) (.bool false) (.sl 0 0 R none R 1) (.int .i64 (j : Int))) [.arr 1 rws true 0] (.exit 0) (polR.keys 39) (env39 (.int .i64 n) (.imm .arg 2 lc) (.bool false) (.sl 0 0 R none R 1) (.int .i64 (j : Int))) [.arr 1 rws true 0] :=
  RunsTo.hint 1 60 [⟨3, 2, .bool false, [.arr 1 rws true 0]⟩] fun kf hk => by
    obtain ⟨kf, rfl⟩ : ∃ n, kf = n + 1 := ⟨kf - 1, by omega⟩
    exact ⟨[some (HV.bool (decide ((j : Int) < n)), ([.arr 1 rws true 0] : Heap)) = some (.bool false, [.arr 1 rws true 0])], by kernel_rfl, Obls.cons (hintB (decide_eq_false g0)) Obls.nil⟩

theorem re_z_0 (n : Int) (lc : List HV) (R : Nat) (rws : List HV) (j : Nat)   : RunsTo Try.prog polR 39 (sub [1, 1, 1] B39) (env39 (.int .i64 n) (.imm .arg 2 lc) (.bool false) (.sl 0 0 R none R 1) (.int .i64 (j : Int))) [.arr 1 rws true 0] (.ret) (polR.keys 39) (env39 (.int .i64 n) (.imm .arg 2 lc) (.bool true) (.sl 0 0 R none R 1) (.int .i64 (j : Int))) [.arr 1 rws true 0] :=
  RunsTo.hint 1 60 [] fun kf hk => by
    obtain ⟨kf, rfl⟩ : ∃ n, kf = n + 1 := ⟨kf - 1, by omega⟩
    exact ⟨[], by kernel_rfl, Obls.nil⟩

end Go.Proofs.Ytmhfkhlamnapdaa
