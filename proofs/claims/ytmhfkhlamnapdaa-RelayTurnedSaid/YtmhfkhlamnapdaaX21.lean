/- A part of the proof: X21. -/
import Derived.Test.YtmhfkhlamnapdaaRBase
import Derived.Test.YtmhfkhlamnapdaaHlF
set_option linter.unusedVariables false
set_option linter.unusedSimpArgs false
open Go Go.HL
namespace Go.Proofs.Ytmhfkhlamnapdaa
set_option maxRecDepth 100000
noncomputable def B21 : Code := Try.f21.body.getD .skip
abbrev env21 (v0 v1 v4 v5 : HV) : Env := [(0, v0), (1, v1), (4, v4), (5, v5)]
theorem r21_a_0 (la lb : List HV)   : RunsTo Try.prog pol 21 (sub [0] B21) [(0, .imm .arg 1 la), (1, .imm .arg 1 lb)] [] (.normal) (pol.keys 21) (env21 (.imm .arg 1 la) (.imm .arg 1 lb) (.bool false) .undef) [] :=
  RunsTo.hint 1 60 [] fun kf hk => by
    obtain ⟨kf, rfl⟩ : ∃ n, kf = n + 1 := ⟨kf - 1, by omega⟩
    exact ⟨[], by kernel_rfl, Obls.nil⟩

theorem r21_b_0 (la lb : List HV)  (g0 : (la.length : Int) = (lb.length : Int)) : RunsTo Try.prog pol 21 (sub [1, 0] B21) (env21 (.imm .arg 1 la) (.imm .arg 1 lb) (.bool false) .undef) [] (.normal) (pol.keys 21) (env21 (.imm .arg 1 la) (.imm .arg 1 lb) (.bool false) .undef) [] :=
  RunsTo.hint 1 60 [⟨1, 4, .bool false, []⟩] fun kf hk => by
    obtain ⟨kf, rfl⟩ : ∃ n, kf = n + 1 := ⟨kf - 1, by omega⟩
    exact ⟨[some (HV.bool (!decide ((la.length : Int) = (lb.length : Int))), ([] : Heap)) = some (.bool false, [])], by kernel_rfl, Obls.cons (hintB (congrArg not (decide_eq_true g0))) Obls.nil⟩

theorem r21_b_1 (la lb : List HV)  (g0 : ¬ ((la.length : Int) = (lb.length : Int))) : RunsTo Try.prog pol 21 (sub [1, 0] B21) (env21 (.imm .arg 1 la) (.imm .arg 1 lb) (.bool false) .undef) [] (.ret) (pol.keys 21) (env21 (.imm .arg 1 la) (.imm .arg 1 lb) (.bool false) .undef) [] :=
  RunsTo.hint 1 60 [⟨1, 4, .bool true, []⟩] fun kf hk => by
    obtain ⟨kf, rfl⟩ : ∃ n, kf = n + 1 := ⟨kf - 1, by omega⟩
    exact ⟨[some (HV.bool (!decide ((la.length : Int) = (lb.length : Int))), ([] : Heap)) = some (.bool true, [])], by kernel_rfl, Obls.cons (hintB (congrArg not (decide_eq_false g0))) Obls.nil⟩

theorem r21_c_0 (la lb : List HV)   : RunsTo Try.prog pol 21 (sub [1, 1, 0, 0] B21) (env21 (.imm .arg 1 la) (.imm .arg 1 lb) (.bool false) .undef) [] (.normal) (pol.keys 21) (env21 (.imm .arg 1 la) (.imm .arg 1 lb) (.bool false) (.int .i64 0)) [] :=
  RunsTo.hint 1 60 [] fun kf hk => by
    obtain ⟨kf, rfl⟩ : ∃ n, kf = n + 1 := ⟨kf - 1, by omega⟩
    exact ⟨[], by kernel_rfl, Obls.nil⟩

theorem r21_l_0 (la lb : List HV) (j : Nat) (x0 : Int) (x1 : Int) (g0 : (j : Int) < (la.length : Int)) (g1 : idxV Try.prog 24 (.imm .arg 1 la) (.int .i64 (j : Int)) = some (.vptr (.int .i64 x0))) (g2 : idxV Try.prog 24 (.imm .arg 1 lb) (.int .i64 (j : Int)) = some (.vptr (.int .i64 x1))) (g3 : x0 = x1) : RunsTo Try.prog pol 21 (sub [1, 1, 0, 1, 0, 0] B21) (env21 (.imm .arg 1 la) (.imm .arg 1 lb) (.bool false) (.int .i64 (j : Int))) [] (.normal) (pol.keys 21) (env21 (.imm .arg 1 la) (.imm .arg 1 lb) (.bool false) (.int .i64 (IntKind.i64.wrap ((j : Int) + 1)))) [] :=
  RunsTo.hint 1 60 [⟨4, 3, .bool true, []⟩, ⟨6, 2, .vptr (.int .i64 x0), []⟩, ⟨6, 6, .vptr (.int .i64 x1), []⟩, ⟨6, 8, .bool false, []⟩] fun kf hk => by
    obtain ⟨kf, rfl⟩ : ∃ n, kf = n + 1 := ⟨kf - 1, by omega⟩
    exact ⟨[some (HV.bool (decide ((j : Int) < (la.length : Int))), ([] : Heap)) = some (.bool true, []), (idxV Try.prog 24 (.imm .arg 1 la) (.int .i64 (j : Int))).map (fun v => (v, ([] : Heap))) = some (.vptr (.int .i64 x0), []), (idxV Try.prog 24 (.imm .arg 1 lb) (.int .i64 (j : Int))).map (fun v => (v, ([] : Heap))) = some (.vptr (.int .i64 x1), []), some (HV.bool (!decide (x0 = x1)), ([] : Heap)) = some (.bool false, [])], by kernel_rfl, Obls.cons (hintB (decide_eq_true g0)) (Obls.cons (hintOp g1) (Obls.cons (hintOp g2) (Obls.cons (hintB (congrArg not (decide_eq_true g3))) Obls.nil)))⟩

theorem r21_l_1 (la lb : List HV) (j : Nat) (x0 : Int) (x1 : Int) (g0 : (j : Int) < (la.length : Int)) (g1 : idxV Try.prog 24 (.imm .arg 1 la) (.int .i64 (j : Int)) = some (.vptr (.int .i64 x0))) (g2 : idxV Try.prog 24 (.imm .arg 1 lb) (.int .i64 (j : Int)) = some (.vptr (.int .i64 x1))) (g3 : ¬ (x0 = x1)) : RunsTo Try.prog pol 21 (sub [1, 1, 0, 1, 0, 0] B21) (env21 (.imm .arg 1 la) (.imm .arg 1 lb) (.bool false) (.int .i64 (j : Int))) [] (.ret) (pol.keys 21) (env21 (.imm .arg 1 la) (.imm .arg 1 lb) (.bool false) (.int .i64 (j : Int))) [] :=
  RunsTo.hint 1 60 [⟨4, 3, .bool true, []⟩, ⟨6, 2, .vptr (.int .i64 x0), []⟩, ⟨6, 6, .vptr (.int .i64 x1), []⟩, ⟨6, 8, .bool true, []⟩] fun kf hk => by
    obtain ⟨kf, rfl⟩ : ∃ n, kf = n + 1 := ⟨kf - 1, by omega⟩
    exact ⟨[some (HV.bool (decide ((j : Int) < (la.length : Int))), ([] : Heap)) = some (.bool true, []), (idxV Try.prog 24 (.imm .arg 1 la) (.int .i64 (j : Int))).map (fun v => (v, ([] : Heap))) = some (.vptr (.int .i64 x0), []), (idxV Try.prog 24 (.imm .arg 1 lb) (.int .i64 (j : Int))).map (fun v => (v, ([] : Heap))) = some (.vptr (.int .i64 x1), []), some (HV.bool (!decide (x0 = x1)), ([] : Heap)) = some (.bool true, [])], by kernel_rfl, Obls.cons (hintB (decide_eq_true g0)) (Obls.cons (hintOp g1) (Obls.cons (hintOp g2) (Obls.cons (hintB (congrArg not (decide_eq_false g3))) Obls.nil)))⟩

theorem r21_l_2 (la lb : List HV) (j : Nat)  (g0 : ¬ ((j : Int) < (la.length : Int))) : RunsTo Try.prog pol 21 (sub [1, 1, 0, 1, 0, 0] B21) (env21 (.imm .arg 1 la) (.imm .arg 1 lb) (.bool false) (.int .i64 (j : Int))) [] (.exit 0) (pol.keys 21) (env21 (.imm .arg 1 la) (.imm .arg 1 lb) (.bool false) (.int .i64 (j : Int))) [] :=
  RunsTo.hint 1 60 [⟨4, 3, .bool false, []⟩] fun kf hk => by
    obtain ⟨kf, rfl⟩ : ∃ n, kf = n + 1 := ⟨kf - 1, by omega⟩
    exact ⟨[some (HV.bool (decide ((j : Int) < (la.length : Int))), ([] : Heap)) = some (.bool false, [])], by kernel_rfl, Obls.cons (hintB (decide_eq_false g0)) Obls.nil⟩

theorem r21_z_0 (la lb : List HV) (j : Nat)   : RunsTo Try.prog pol 21 (sub [1, 1, 1] B21) (env21 (.imm .arg 1 la) (.imm .arg 1 lb) (.bool false) (.int .i64 (j : Int))) [] (.ret) (pol.keys 21) (env21 (.imm .arg 1 la) (.imm .arg 1 lb) (.bool true) (.int .i64 (j : Int))) [] :=
  RunsTo.hint 1 60 [] fun kf hk => by
    obtain ⟨kf, rfl⟩ : ∃ n, kf = n + 1 := ⟨kf - 1, by omega⟩
    exact ⟨[], by kernel_rfl, Obls.nil⟩

end Go.Proofs.Ytmhfkhlamnapdaa
