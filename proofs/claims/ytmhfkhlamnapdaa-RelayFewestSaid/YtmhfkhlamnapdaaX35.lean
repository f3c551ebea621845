/- A part of the proof: X35. -/
import Derived.Test.YtmhfkhlamnapdaaX32c
set_option linter.unusedVariables false
set_option linter.unusedSimpArgs false
open Go Go.HL
namespace Go.Proofs.Ytmhfkhlamnapdaa
set_option maxRecDepth 100000
noncomputable def B35 : Code := Try.f35.body.getD .skip
abbrev env35 (v0 v1 v4 v5 : HV) : Env := [(0, v0), (1, v1), (4, v4), (5, v5)]
theorem pr_a_0 (la lb : List HV)   : RunsTo Try.prog polP 35 (sub [0] B35) [(0, .imm .arg 1 la), (1, .imm .arg 1 lb)] [] (.normal) (polP.keys 35) (env35 (.imm .arg 1 la) (.imm .arg 1 lb) (.bool false) .undef) [] :=
  RunsTo.hint 1 60 [] fun kf hk => by
    obtain ⟨kf, rfl⟩ : ∃ n, kf = n + 1 := ⟨kf - 1, by omega⟩
    exact ⟨[], by kernel_rfl, Obls.nil⟩

theorem pr_b_0 (la lb : List HV)  (g0 : (la.length : Int) = (lb.length : Int)) : RunsTo Try.prog polP 35 (sub [1, 0] B35) (env35 (.imm .arg 1 la) (.imm .arg 1 lb) (.bool false) .undef) [] (.normal) (polP.keys 35) (env35 (.imm .arg 1 la) (.imm .arg 1 lb) (.bool false) .undef) [] :=
  RunsTo.hint 1 60 [⟨1, 4, .bool false, []⟩] fun kf hk => by
    obtain ⟨kf, rfl⟩ : ∃ n, kf = n + 1 := ⟨kf - 1, by omega⟩
    exact ⟨[some (HV.bool (!decide ((la.length : Int) = (lb.length : Int))), ([] : Heap)) = some (.bool false, [])], by kernel_rfl, Obls.cons (hintB (congrArg not (decide_eq_true g0))) Obls.nil⟩

theorem pr_b_1 (la lb : List HV)  (g0 : ¬ ((la.length : Int) = (lb.length : Int))) : RunsTo Try.prog polP 35 (sub [1, 0] B35) (env35 (.imm .arg 1 la) (.imm .arg 1 lb) (.bool false) .undef) [] (.ret) (polP.keys 35) (env35 (.imm .arg 1 la) (.imm .arg 1 lb) (.bool false) .undef) [] :=
  RunsTo.hint 1 60 [⟨1, 4, .bool true, []⟩] fun kf hk => by
    obtain ⟨kf, rfl⟩ : ∃ n, kf = n + 1 := ⟨kf - 1, by omega⟩
    exact ⟨[some (HV.bool (!decide ((la.length : Int) = (lb.length : Int))), ([] : Heap)) = some (.bool true, [])], by kernel_rfl, Obls.cons (hintB (congrArg not (decide_eq_false g0))) Obls.nil⟩

theorem pr_c_0 (la lb : List HV)   : RunsTo Try.prog polP 35 (sub [1, 1, 0, 0] B35) (env35 (.imm .arg 1 la) (.imm .arg 1 lb) (.bool false) .undef) [] (.normal) (polP.keys 35) (env35 (.imm .arg 1 la) (.imm .arg 1 lb) (.bool false) (.int .i64 0)) [] :=
  RunsTo.hint 1 60 [] fun kf hk => by
    obtain ⟨kf, rfl⟩ : ∃ n, kf = n + 1 := ⟨kf - 1, by omega⟩
    exact ⟨[], by kernel_rfl, Obls.nil⟩

theorem pr_l_0 (la lb : List HV) (j : Nat) (l0 : List HV) (l1 : List HV) (g0 : (j : Int) < (la.length : Int)) (g1 : idxV Try.prog 44 (.imm .arg 1 la) (.int .i64 (j : Int)) = some (.vptr (.imm .arg 2 l0))) (g2 : idxV Try.prog 44 (.imm .arg 1 lb) (.int .i64 (j : Int)) = some (.vptr (.imm .arg 2 l1))) (g3 : ∀ kf, callN Try.prog polP (kf + 1) 32 [.imm .arg 2 l0, .imm .arg 2 l1] [] = some (.bool true, [])) : RunsTo Try.prog polP 35 (sub [1, 1, 0, 1, 0, 0] B35) (env35 (.imm .arg 1 la) (.imm .arg 1 lb) (.bool false) (.int .i64 (j : Int))) [] (.normal) (polP.keys 35) (env35 (.imm .arg 1 la) (.imm .arg 1 lb) (.bool false) (.int .i64 (IntKind.i64.wrap ((j : Int) + 1)))) [] :=
  RunsTo.hint 1 60 [⟨4, 3, .bool true, []⟩, ⟨6, 2, .vptr (.imm .arg 2 l0), []⟩, ⟨6, 6, .vptr (.imm .arg 2 l1), []⟩, ⟨6, 8, .bool true, []⟩] fun kf hk => by
    obtain ⟨kf, rfl⟩ : ∃ n, kf = n + 1 := ⟨kf - 1, by omega⟩
    exact ⟨[some (HV.bool (decide ((j : Int) < (la.length : Int))), ([] : Heap)) = some (.bool true, []), (idxV Try.prog 44 (.imm .arg 1 la) (.int .i64 (j : Int))).map (fun v => (v, ([] : Heap))) = some (.vptr (.imm .arg 2 l0), []), (idxV Try.prog 44 (.imm .arg 1 lb) (.int .i64 (j : Int))).map (fun v => (v, ([] : Heap))) = some (.vptr (.imm .arg 2 l1), []), callN Try.prog polP (kf + 1) 32 [.imm .arg 2 l0, .imm .arg 2 l1] [] = some (.bool true, [])], by kernel_rfl, Obls.cons (hintB (decide_eq_true g0)) (Obls.cons (hintOp g1) (Obls.cons (hintOp g2) (Obls.cons (g3 kf) Obls.nil)))⟩

theorem pr_l_1 (la lb : List HV) (j : Nat) (l0 : List HV) (l1 : List HV) (g0 : (j : Int) < (la.length : Int)) (g1 : idxV Try.prog 44 (.imm .arg 1 la) (.int .i64 (j : Int)) = some (.vptr (.imm .arg 2 l0))) (g2 : idxV Try.prog 44 (.imm .arg 1 lb) (.int .i64 (j : Int)) = some (.vptr (.imm .arg 2 l1))) (g3 : ∀ kf, callN Try.prog polP (kf + 1) 32 [.imm .arg 2 l0, .imm .arg 2 l1] [] = some (.bool false, [])) : RunsTo Try.prog polP 35 (sub [1, 1, 0, 1, 0, 0] B35) (env35 (.imm .arg 1 la) (.imm .arg 1 lb) (.bool false) (.int .i64 (j : Int))) [] (.ret) (polP.keys 35) (env35 (.imm .arg 1 la) (.imm .arg 1 lb) (.bool false) (.int .i64 (j : Int))) [] :=
  RunsTo.hint 1 60 [⟨4, 3, .bool true, []⟩, ⟨6, 2, .vptr (.imm .arg 2 l0), []⟩, ⟨6, 6, .vptr (.imm .arg 2 l1), []⟩, ⟨6, 8, .bool false, []⟩] fun kf hk => by
    obtain ⟨kf, rfl⟩ : ∃ n, kf = n + 1 := ⟨kf - 1, by omega⟩
    exact ⟨[some (HV.bool (decide ((j : Int) < (la.length : Int))), ([] : Heap)) = some (.bool true, []), (idxV Try.prog 44 (.imm .arg 1 la) (.int .i64 (j : Int))).map (fun v => (v, ([] : Heap))) = some (.vptr (.imm .arg 2 l0), []), (idxV Try.prog 44 (.imm .arg 1 lb) (.int .i64 (j : Int))).map (fun v => (v, ([] : Heap))) = some (.vptr (.imm .arg 2 l1), []), callN Try.prog polP (kf + 1) 32 [.imm .arg 2 l0, .imm .arg 2 l1] [] = some (.bool false, [])], by kernel_rfl, Obls.cons (hintB (decide_eq_true g0)) (Obls.cons (hintOp g1) (Obls.cons (hintOp g2) (Obls.cons (g3 kf) Obls.nil)))⟩

theorem pr_l_2 (la lb : List HV) (j : Nat)  (g0 : ¬ ((j : Int) < (la.length : Int))) : RunsTo Try.prog polP 35 (sub [1, 1, 0, 1, 0, 0] B35) (env35 (.imm .arg 1 la) (.imm .arg 1 lb) (.bool false) (.int .i64 (j : Int))) [] (.exit 0) (polP.keys 35) (env35 (.imm .arg 1 la) (.imm .arg 1 lb) (.bool false) (.int .i64 (j : Int))) [] :=
  RunsTo.hint 1 60 [⟨4, 3, .bool false, []⟩] fun kf hk => by
    obtain ⟨kf, rfl⟩ : ∃ n, kf = n + 1 := ⟨kf - 1, by omega⟩
    exact ⟨[some (HV.bool (decide ((j : Int) < (la.length : Int))), ([] : Heap)) = some (.bool false, [])], by kernel_rfl, Obls.cons (hintB (decide_eq_false g0)) Obls.nil⟩

theorem pr_z_0 (la lb : List HV) (j : Nat)   : RunsTo Try.prog polP 35 (sub [1, 1, 1] B35) (env35 (.imm .arg 1 la) (.imm .arg 1 lb) (.bool false) (.int .i64 (j : Int))) [] (.ret) (polP.keys 35) (env35 (.imm .arg 1 la) (.imm .arg 1 lb) (.bool true) (.int .i64 (j : Int))) [] :=
  RunsTo.hint 1 60 [] fun kf hk => by
    obtain ⟨kf, rfl⟩ : ∃ n, kf = n + 1 := ⟨kf - 1, by omega⟩
    exact ⟨[], by kernel_rfl, Obls.nil⟩

end Go.Proofs.Ytmhfkhlamnapdaa
