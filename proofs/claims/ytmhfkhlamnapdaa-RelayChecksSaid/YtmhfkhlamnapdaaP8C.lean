/- A part of the proof. -/
import Derived.Test.YtmhfkhlamnapdaaP8B
set_option linter.unusedVariables false
set_option linter.unusedSimpArgs false
section
open Go Go.HL
namespace Go.Proofs.Ytmhfkhlamnapdaa
set_option maxRecDepth 100000
noncomputable def B30 : Code := Try.f30.body.getD .skip
abbrev env30 (v0 v1 v2 v3 v8 v9 v10 v11 v12 v13 v14 v15 v16 v17 : HV) : Env := [(0, v0), (1, v1), (2, v2), (3, v3), (8, v8), (9, v9), (10, v10), (11, v11), (12, v12), (13, v13), (14, v14), (15, v15), (16, v16), (17, v17)]
theorem cp_a_0 (n : Int) (lc : List HV) (x : Int) (rds : List HV)   : RunsTo Try.prog polY 30 (sub [0] B30) [(0, .int .i64 n), (1, .imm .arg 2 lc), (2, .int .i64 x), (3, .imm .arg 1 rds)] [] (.normal) (polY.keys 30) (env30 (.int .i64 n) (.imm .arg 2 lc) (.int .i64 x) (.imm .arg 1 rds) (.bool false) .undef .undef .undef .undef .undef .undef .undef .undef .undef) [] :=
  RunsTo.hint 1 60 [] fun kf hk => by
    obtain ⟨kf, rfl⟩ : ∃ n, kf = n + 1 := ⟨kf - 1, by omega⟩
    exact ⟨[], by kernel_rfl, Obls.nil⟩
theorem cp_b_0 (n : Int) (lc : List HV) (x : Int) (rds : List HV) (m : Nat)  (g0 : makeV Try.prog false 43 (.int .i64 n) (.int .i64 n) [] = some (.sl 0 0 m (some m) m 1, [.arr 1 (List.replicate m (.bool false)) true 0])) : RunsTo Try.prog polY 30 (sub [1, 0] B30) (env30 (.int .i64 n) (.imm .arg 2 lc) (.int .i64 x) (.imm .arg 1 rds) (.bool false) .undef .undef .undef .undef .undef .undef .undef .undef .undef) [] (.normal) (polY.keys 30) (env30 (.int .i64 n) (.imm .arg 2 lc) (.int .i64 x) (.imm .arg 1 rds) (.bool false) (.sl 0 0 m (some m) m 1) .undef .undef .undef .undef .undef .undef .undef .undef) [.arr 1 (List.replicate m (.bool false)) true 0] :=
  RunsTo.hint 1 60 [⟨1, 1, .sl 0 0 m (some m) m 1, [.arr 1 (List.replicate m (.bool false)) true 0]⟩] fun kf hk => by
    obtain ⟨kf, rfl⟩ : ∃ n, kf = n + 1 := ⟨kf - 1, by omega⟩
    exact ⟨[makeV Try.prog false 43 (.int .i64 n) (.int .i64 n) [] = some (.sl 0 0 m (some m) m 1, [.arr 1 (List.replicate m (.bool false)) true 0])], by kernel_rfl, Obls.cons (g0) Obls.nil⟩
theorem cp_c_0 (n : Int) (lc : List HV) (x : Int) (rds : List HV) (m : Nat) (kn : List HV) (el0 : List HV) (g0 : idxV Try.prog 43 (.sl 0 0 m (some m) m 1) (.int .i64 x) = some (.ptr 0 ((x).toNat) 0 m)) (g1 : storeV Try.prog [.arr 1 kn true 0] 4 (.ptr 0 ((x).toNat) 0 m) (.bool true) = some [.arr 1 el0 true 0]) : RunsTo Try.prog polY 30 (sub [1, 1, 0] B30) (env30 (.int .i64 n) (.imm .arg 2 lc) (.int .i64 x) (.imm .arg 1 rds) (.bool false) (.sl 0 0 m (some m) m 1) .undef .undef .undef .undef .undef .undef .undef .undef) [.arr 1 kn true 0] (.normal) (polY.keys 30) (env30 (.int .i64 n) (.imm .arg 2 lc) (.int .i64 x) (.imm .arg 1 rds) (.bool false) (.sl 0 0 m (some m) m 1) .undef .undef .undef .undef .undef .undef .undef .undef) [.arr 1 el0 true 0] :=
  RunsTo.hint 1 60 [⟨2, 2, .ptr 0 ((x).toNat) 0 m, [.arr 1 kn true 0]⟩, ⟨2, 3, .tuple [], [.arr 1 el0 true 0]⟩] fun kf hk => by
    obtain ⟨kf, rfl⟩ : ∃ n, kf = n + 1 := ⟨kf - 1, by omega⟩
    exact ⟨[(idxV Try.prog 43 (.sl 0 0 m (some m) m 1) (.int .i64 x)).map (fun v => (v, ([.arr 1 kn true 0] : Heap))) = some (.ptr 0 ((x).toNat) 0 m, [.arr 1 kn true 0]), (storeV Try.prog [.arr 1 kn true 0] 4 (.ptr 0 ((x).toNat) 0 m) (.bool true)).map (fun H => (HV.tuple [], H)) = some (.tuple [], [.arr 1 el0 true 0])], by kernel_rfl, Obls.cons (hintOp g0) (Obls.cons (hintSt g1) Obls.nil)⟩
theorem cp_d_0 (n : Int) (lc : List HV) (x : Int) (rds : List HV) (m : Nat) (kn : List HV)   : RunsTo Try.prog polY 30 (sub [1, 1, 1, 0] B30) (env30 (.int .i64 n) (.imm .arg 2 lc) (.int .i64 x) (.imm .arg 1 rds) (.bool false) (.sl 0 0 m (some m) m 1) .undef .undef .undef .undef .undef .undef .undef .undef) [.arr 1 kn true 0] (.normal) (polY.keys 30) (env30 (.int .i64 n) (.imm .arg 2 lc) (.int .i64 x) (.imm .arg 1 rds) (.bool false) (.sl 0 0 m (some m) m 1) (.int .i64 1) .undef .undef .undef .undef .undef .undef .undef) [.arr 1 kn true 0] :=
  RunsTo.hint 1 60 [] fun kf hk => by
    obtain ⟨kf, rfl⟩ : ∃ n, kf = n + 1 := ⟨kf - 1, by omega⟩
    exact ⟨[], by kernel_rfl, Obls.nil⟩
theorem cp_e_0 (n : Int) (lc : List HV) (x : Int) (rds : List HV) (m : Nat) (kn : List HV) (q : Nat)   : RunsTo Try.prog polY 30 (sub [1, 1, 1, 1, 0, 0] B30) (env30 (.int .i64 n) (.imm .arg 2 lc) (.int .i64 x) (.imm .arg 1 rds) (.bool false) (.sl 0 0 m (some m) m 1) (.int .i64 (q : Int)) .undef .undef .undef .undef .undef .undef .undef) [.arr 1 kn true 0] (.normal) (polY.keys 30) (env30 (.int .i64 n) (.imm .arg 2 lc) (.int .i64 x) (.imm .arg 1 rds) (.bool false) (.sl 0 0 m (some m) m 1) (.int .i64 (q : Int)) (.int .i64 0) .undef .undef .undef .undef .undef .undef) [.arr 1 kn true 0] :=
  RunsTo.hint 1 60 [] fun kf hk => by
    obtain ⟨kf, rfl⟩ : ∃ n, kf = n + 1 := ⟨kf - 1, by omega⟩
    exact ⟨[], by kernel_rfl, Obls.nil⟩
theorem cp_f_0 (n : Int) (lc : List HV) (x : Int) (rds : List HV) (m : Nat) (kn : List HV) (q : Nat) (i : Nat)  (g0 : (i : Int) < (rds.length : Int)) : RunsTo Try.prog polY 30 (sub [1, 1, 1, 1, 0, 1, 0, 0, 0] B30) (env30 (.int .i64 n) (.imm .arg 2 lc) (.int .i64 x) (.imm .arg 1 rds) (.bool false) (.sl 0 0 m (some m) m 1) (.int .i64 (q : Int)) (.int .i64 (i : Int)) .undef .undef .undef .undef .undef .undef) [.arr 1 kn true 0] (.normal) (polY.keys 30) (env30 (.int .i64 n) (.imm .arg 2 lc) (.int .i64 x) (.imm .arg 1 rds) (.bool false) (.sl 0 0 m (some m) m 1) (.int .i64 (q : Int)) (.int .i64 (i : Int)) .undef .undef .undef .undef .undef .undef) [.arr 1 kn true 0] :=
  RunsTo.hint 1 60 [⟨5, 3, .bool true, [.arr 1 kn true 0]⟩] fun kf hk => by
    obtain ⟨kf, rfl⟩ : ∃ n, kf = n + 1 := ⟨kf - 1, by omega⟩
    exact ⟨[some (HV.bool (decide ((i : Int) < (rds.length : Int))), ([.arr 1 kn true 0] : Heap)) = some (.bool true, [.arr 1 kn true 0])], by kernel_rfl, Obls.cons (hintB (decide_eq_true g0)) Obls.nil⟩
theorem cp_f_1 (n : Int) (lc : List HV) (x : Int) (rds : List HV) (m : Nat) (kn : List HV) (q : Nat) (i : Nat)  (g0 : ¬ ((i : Int) < (rds.length : Int))) : RunsTo Try.prog polY 30 (sub [1, 1, 1, 1, 0, 1, 0, 0, 0] B30) (env30 (.int .i64 n) (.imm .arg 2 lc) (.int .i64 x) (.imm .arg 1 rds) (.bool false) (.sl 0 0 m (some m) m 1) (.int .i64 (q : Int)) (.int .i64 (i : Int)) .undef .undef .undef .undef .undef .undef) [.arr 1 kn true 0] (.exit 0) (polY.keys 30) (env30 (.int .i64 n) (.imm .arg 2 lc) (.int .i64 x) (.imm .arg 1 rds) (.bool false) (.sl 0 0 m (some m) m 1) (.int .i64 (q : Int)) (.int .i64 (i : Int)) .undef .undef .undef .undef .undef .undef) [.arr 1 kn true 0] :=
  RunsTo.hint 1 60 [⟨5, 3, .bool false, [.arr 1 kn true 0]⟩] fun kf hk => by
    obtain ⟨kf, rfl⟩ : ∃ n, kf = n + 1 := ⟨kf - 1, by omega⟩
    exact ⟨[some (HV.bool (decide ((i : Int) < (rds.length : Int))), ([.arr 1 kn true 0] : Heap)) = some (.bool false, [.arr 1 kn true 0])], by kernel_rfl, Obls.cons (hintB (decide_eq_false g0)) Obls.nil⟩
theorem cp_g_0 (n : Int) (lc : List HV) (x : Int) (rds : List HV) (m : Nat) (kn : List HV) (q : Nat) (i : Nat)  (g0 : makeV Try.prog false 43 (.int .i64 n) (.int .i64 n) [.arr 1 kn true 0] = some (.sl 1 0 m (some m) m 1, [.arr 1 kn true 0, .arr 1 (List.replicate m (.bool false)) true 0])) : RunsTo Try.prog polY 30 (sub [1, 1, 1, 1, 0, 1, 0, 0, 1, 0, 0, 0] B30) (env30 (.int .i64 n) (.imm .arg 2 lc) (.int .i64 x) (.imm .arg 1 rds) (.bool false) (.sl 0 0 m (some m) m 1) (.int .i64 (q : Int)) (.int .i64 (i : Int)) .undef .undef .undef .undef .undef .undef) [.arr 1 kn true 0] (.normal) (polY.keys 30) (env30 (.int .i64 n) (.imm .arg 2 lc) (.int .i64 x) (.imm .arg 1 rds) (.bool false) (.sl 0 0 m (some m) m 1) (.int .i64 (q : Int)) (.int .i64 (i : Int)) (.sl 1 0 m (some m) m 1) .undef .undef .undef .undef .undef) [.arr 1 kn true 0, .arr 1 (List.replicate m (.bool false)) true 0] :=
  RunsTo.hint 1 60 [⟨7, 1, .sl 1 0 m (some m) m 1, [.arr 1 kn true 0, .arr 1 (List.replicate m (.bool false)) true 0]⟩] fun kf hk => by
    obtain ⟨kf, rfl⟩ : ∃ n, kf = n + 1 := ⟨kf - 1, by omega⟩
    exact ⟨[makeV Try.prog false 43 (.int .i64 n) (.int .i64 n) [.arr 1 kn true 0] = some (.sl 1 0 m (some m) m 1, [.arr 1 kn true 0, .arr 1 (List.replicate m (.bool false)) true 0])], by kernel_rfl, Obls.cons (g0) Obls.nil⟩
theorem cp_h_0 (n : Int) (lc : List HV) (x : Int) (rds : List HV) (m : Nat) (kn : List HV) (q : Nat) (i : Nat) (bz : List HV) (l0 : List HV) (g0 : idxV Try.prog 44 (.imm .arg 1 rds) (.int .i64 (i : Int)) = some (.vptr (.imm .arg 2 l0))) : RunsTo Try.prog polY 30 (sub [1, 1, 1, 1, 0, 1, 0, 0, 1, 0, 0, 1, 0] B30) (env30 (.int .i64 n) (.imm .arg 2 lc) (.int .i64 x) (.imm .arg 1 rds) (.bool false) (.sl 0 0 m (some m) m 1) (.int .i64 (q : Int)) (.int .i64 (i : Int)) (.sl 1 0 m (some m) m 1) .undef .undef .undef .undef .undef) [.arr 1 kn true 0, .arr 1 bz true 0] (.normal) (polY.keys 30) (env30 (.int .i64 n) (.imm .arg 2 lc) (.int .i64 x) (.imm .arg 1 rds) (.bool false) (.sl 0 0 m (some m) m 1) (.int .i64 (q : Int)) (.int .i64 (i : Int)) (.sl 1 0 m (some m) m 1) (.imm .arg 2 l0) .undef .undef .undef .undef) [.arr 1 kn true 0, .arr 1 bz true 0] :=
  RunsTo.hint 1 60 [⟨8, 2, .vptr (.imm .arg 2 l0), [.arr 1 kn true 0, .arr 1 bz true 0]⟩] fun kf hk => by
    obtain ⟨kf, rfl⟩ : ∃ n, kf = n + 1 := ⟨kf - 1, by omega⟩
    exact ⟨[(idxV Try.prog 44 (.imm .arg 1 rds) (.int .i64 (i : Int))).map (fun v => (v, ([.arr 1 kn true 0, .arr 1 bz true 0] : Heap))) = some (.vptr (.imm .arg 2 l0), [.arr 1 kn true 0, .arr 1 bz true 0])], by kernel_rfl, Obls.cons (hintOp g0) Obls.nil⟩
theorem cp_i_0 (n : Int) (lc : List HV) (x : Int) (rds : List HV) (m : Nat) (kn : List HV) (q : Nat) (i : Nat) (bz : List HV) (r : List HV)   : RunsTo Try.prog polY 30 (sub [1, 1, 1, 1, 0, 1, 0, 0, 1, 0, 0, 1, 1, 0, 0] B30) (env30 (.int .i64 n) (.imm .arg 2 lc) (.int .i64 x) (.imm .arg 1 rds) (.bool false) (.sl 0 0 m (some m) m 1) (.int .i64 (q : Int)) (.int .i64 (i : Int)) (.sl 1 0 m (some m) m 1) (.imm .arg 2 r) .undef .undef .undef .undef) [.arr 1 kn true 0, .arr 1 bz true 0] (.normal) (polY.keys 30) (env30 (.int .i64 n) (.imm .arg 2 lc) (.int .i64 x) (.imm .arg 1 rds) (.bool false) (.sl 0 0 m (some m) m 1) (.int .i64 (q : Int)) (.int .i64 (i : Int)) (.sl 1 0 m (some m) m 1) (.imm .arg 2 r) (.int .i64 0) .undef .undef .undef) [.arr 1 kn true 0, .arr 1 bz true 0] :=
  RunsTo.hint 1 60 [] fun kf hk => by
    obtain ⟨kf, rfl⟩ : ∃ n, kf = n + 1 := ⟨kf - 1, by omega⟩
    exact ⟨[], by kernel_rfl, Obls.nil⟩
theorem cp_l_0 (n : Int) (lc : List HV) (x : Int) (rds : List HV) (m : Nat) (kn : List HV) (q : Nat) (i : Nat) (bz : List HV) (r : List HV) (j : Nat) (x0 : Int) (x1 : Int) (x2 : Int) (x3 : Int) (g0 : (j : Int) < (r.length : Int)) (g1 : idxV Try.prog 22 (.imm .arg 2 r) (.int .i64 (j : Int)) = some (.vptr (.agg [.int .i64 x0, .int .i64 x1]))) (g2 : idxV Try.prog 22 (.imm .arg 2 r) (.int .i64 (j : Int)) = some (.vptr (.agg [.int .i64 x2, .int .i64 x3]))) (g3 : x0 < 0) : RunsTo Try.prog polY 30 (sub [1, 1, 1, 1, 0, 1, 0, 0, 1, 0, 0, 1, 1, 0, 1, 0, 0] B30) (env30 (.int .i64 n) (.imm .arg 2 lc) (.int .i64 x) (.imm .arg 1 rds) (.bool false) (.sl 0 0 m (some m) m 1) (.int .i64 (q : Int)) (.int .i64 (i : Int)) (.sl 1 0 m (some m) m 1) (.imm .arg 2 r) (.int .i64 (j : Int)) .undef .undef .undef) [.arr 1 kn true 0, .arr 1 bz true 0] (.ret) (polY.keys 30) (env30 (.int .i64 n) (.imm .arg 2 lc) (.int .i64 x) (.imm .arg 1 rds) (.bool false) (.sl 0 0 m (some m) m 1) (.int .i64 (q : Int)) (.int .i64 (i : Int)) (.sl 1 0 m (some m) m 1) (.imm .arg 2 r) (.int .i64 (j : Int)) (.int .i64 x0) (.int .i64 x3) .undef) [.arr 1 kn true 0, .arr 1 bz true 0] :=
  RunsTo.hint 1 60 [⟨10, 3, .bool true, [.arr 1 kn true 0, .arr 1 bz true 0]⟩, ⟨12, 2, .vptr (.agg [.int .i64 x0, .int .i64 x1]), [.arr 1 kn true 0, .arr 1 bz true 0]⟩, ⟨12, 7, .vptr (.agg [.int .i64 x2, .int .i64 x3]), [.arr 1 kn true 0, .arr 1 bz true 0]⟩, ⟨13, 1, .bool true, [.arr 1 kn true 0, .arr 1 bz true 0]⟩] fun kf hk => by
    obtain ⟨kf, rfl⟩ : ∃ n, kf = n + 1 := ⟨kf - 1, by omega⟩
    exact ⟨[some (HV.bool (decide ((j : Int) < (r.length : Int))), ([.arr 1 kn true 0, .arr 1 bz true 0] : Heap)) = some (.bool true, [.arr 1 kn true 0, .arr 1 bz true 0]), (idxV Try.prog 22 (.imm .arg 2 r) (.int .i64 (j : Int))).map (fun v => (v, ([.arr 1 kn true 0, .arr 1 bz true 0] : Heap))) = some (.vptr (.agg [.int .i64 x0, .int .i64 x1]), [.arr 1 kn true 0, .arr 1 bz true 0]), (idxV Try.prog 22 (.imm .arg 2 r) (.int .i64 (j : Int))).map (fun v => (v, ([.arr 1 kn true 0, .arr 1 bz true 0] : Heap))) = some (.vptr (.agg [.int .i64 x2, .int .i64 x3]), [.arr 1 kn true 0, .arr 1 bz true 0]), some (HV.bool (decide (x0 < 0)), ([.arr 1 kn true 0, .arr 1 bz true 0] : Heap)) = some (.bool true, [.arr 1 kn true 0, .arr 1 bz true 0])], by kernel_rfl, Obls.cons (hintB (decide_eq_true g0)) (Obls.cons (hintOp g1) (Obls.cons (hintOp g2) (Obls.cons (hintB (decide_eq_true g3)) Obls.nil)))⟩
theorem cp_l_1 (n : Int) (lc : List HV) (x : Int) (rds : List HV) (m : Nat) (kn : List HV) (q : Nat) (i : Nat) (bz : List HV) (r : List HV) (j : Nat) (x0 : Int) (x1 : Int) (x2 : Int) (x3 : Int) (g0 : (j : Int) < (r.length : Int)) (g1 : idxV Try.prog 22 (.imm .arg 2 r) (.int .i64 (j : Int)) = some (.vptr (.agg [.int .i64 x0, .int .i64 x1]))) (g2 : idxV Try.prog 22 (.imm .arg 2 r) (.int .i64 (j : Int)) = some (.vptr (.agg [.int .i64 x2, .int .i64 x3]))) (g3 : ¬ (x0 < 0)) (g4 : n ≤ x0) : RunsTo Try.prog polY 30 (sub [1, 1, 1, 1, 0, 1, 0, 0, 1, 0, 0, 1, 1, 0, 1, 0, 0] B30) (env30 (.int .i64 n) (.imm .arg 2 lc) (.int .i64 x) (.imm .arg 1 rds) (.bool false) (.sl 0 0 m (some m) m 1) (.int .i64 (q : Int)) (.int .i64 (i : Int)) (.sl 1 0 m (some m) m 1) (.imm .arg 2 r) (.int .i64 (j : Int)) .undef .undef .undef) [.arr 1 kn true 0, .arr 1 bz true 0] (.ret) (polY.keys 30) (env30 (.int .i64 n) (.imm .arg 2 lc) (.int .i64 x) (.imm .arg 1 rds) (.bool false) (.sl 0 0 m (some m) m 1) (.int .i64 (q : Int)) (.int .i64 (i : Int)) (.sl 1 0 m (some m) m 1) (.imm .arg 2 r) (.int .i64 (j : Int)) (.int .i64 x0) (.int .i64 x3) .undef) [.arr 1 kn true 0, .arr 1 bz true 0] :=
  RunsTo.hint 1 60 [⟨10, 3, .bool true, [.arr 1 kn true 0, .arr 1 bz true 0]⟩, ⟨12, 2, .vptr (.agg [.int .i64 x0, .int .i64 x1]), [.arr 1 kn true 0, .arr 1 bz true 0]⟩, ⟨12, 7, .vptr (.agg [.int .i64 x2, .int .i64 x3]), [.arr 1 kn true 0, .arr 1 bz true 0]⟩, ⟨13, 1, .bool false, [.arr 1 kn true 0, .arr 1 bz true 0]⟩, ⟨13, 5, .bool true, [.arr 1 kn true 0, .arr 1 bz true 0]⟩] fun kf hk => by
    obtain ⟨kf, rfl⟩ : ∃ n, kf = n + 1 := ⟨kf - 1, by omega⟩
    exact ⟨[some (HV.bool (decide ((j : Int) < (r.length : Int))), ([.arr 1 kn true 0, .arr 1 bz true 0] : Heap)) = some (.bool true, [.arr 1 kn true 0, .arr 1 bz true 0]), (idxV Try.prog 22 (.imm .arg 2 r) (.int .i64 (j : Int))).map (fun v => (v, ([.arr 1 kn true 0, .arr 1 bz true 0] : Heap))) = some (.vptr (.agg [.int .i64 x0, .int .i64 x1]), [.arr 1 kn true 0, .arr 1 bz true 0]), (idxV Try.prog 22 (.imm .arg 2 r) (.int .i64 (j : Int))).map (fun v => (v, ([.arr 1 kn true 0, .arr 1 bz true 0] : Heap))) = some (.vptr (.agg [.int .i64 x2, .int .i64 x3]), [.arr 1 kn true 0, .arr 1 bz true 0]), some (HV.bool (decide (x0 < 0)), ([.arr 1 kn true 0, .arr 1 bz true 0] : Heap)) = some (.bool false, [.arr 1 kn true 0, .arr 1 bz true 0]), some (HV.bool (decide (n ≤ x0)), ([.arr 1 kn true 0, .arr 1 bz true 0] : Heap)) = some (.bool true, [.arr 1 kn true 0, .arr 1 bz true 0])], by kernel_rfl, Obls.cons (hintB (decide_eq_true g0)) (Obls.cons (hintOp g1) (Obls.cons (hintOp g2) (Obls.cons (hintB (decide_eq_false g3)) (Obls.cons (hintB (decide_eq_true g4)) Obls.nil))))⟩
theorem cp_l_2 (n : Int) (lc : List HV) (x : Int) (rds : List HV) (m : Nat) (kn : List HV) (q : Nat) (i : Nat) (bz : List HV) (r : List HV) (j : Nat) (x0 : Int) (x1 : Int) (x2 : Int) (x3 : Int) (g0 : (j : Int) < (r.length : Int)) (g1 : idxV Try.prog 22 (.imm .arg 2 r) (.int .i64 (j : Int)) = some (.vptr (.agg [.int .i64 x0, .int .i64 x1]))) (g2 : idxV Try.prog 22 (.imm .arg 2 r) (.int .i64 (j : Int)) = some (.vptr (.agg [.int .i64 x2, .int .i64 x3]))) (g3 : ¬ (x0 < 0)) (g4 : ¬ (n ≤ x0)) (g5 : x3 < 0) : RunsTo Try.prog polY 30 (sub [1, 1, 1, 1, 0, 1, 0, 0, 1, 0, 0, 1, 1, 0, 1, 0, 0] B30) (env30 (.int .i64 n) (.imm .arg 2 lc) (.int .i64 x) (.imm .arg 1 rds) (.bool false) (.sl 0 0 m (some m) m 1) (.int .i64 (q : Int)) (.int .i64 (i : Int)) (.sl 1 0 m (some m) m 1) (.imm .arg 2 r) (.int .i64 (j : Int)) .undef .undef .undef) [.arr 1 kn true 0, .arr 1 bz true 0] (.ret) (polY.keys 30) (env30 (.int .i64 n) (.imm .arg 2 lc) (.int .i64 x) (.imm .arg 1 rds) (.bool false) (.sl 0 0 m (some m) m 1) (.int .i64 (q : Int)) (.int .i64 (i : Int)) (.sl 1 0 m (some m) m 1) (.imm .arg 2 r) (.int .i64 (j : Int)) (.int .i64 x0) (.int .i64 x3) .undef) [.arr 1 kn true 0, .arr 1 bz true 0] :=
  RunsTo.hint 1 60 [⟨10, 3, .bool true, [.arr 1 kn true 0, .arr 1 bz true 0]⟩, ⟨12, 2, .vptr (.agg [.int .i64 x0, .int .i64 x1]), [.arr 1 kn true 0, .arr 1 bz true 0]⟩, ⟨12, 7, .vptr (.agg [.int .i64 x2, .int .i64 x3]), [.arr 1 kn true 0, .arr 1 bz true 0]⟩, ⟨13, 1, .bool false, [.arr 1 kn true 0, .arr 1 bz true 0]⟩, ⟨13, 5, .bool false, [.arr 1 kn true 0, .arr 1 bz true 0]⟩, ⟨13, 9, .bool true, [.arr 1 kn true 0, .arr 1 bz true 0]⟩] fun kf hk => by
    obtain ⟨kf, rfl⟩ : ∃ n, kf = n + 1 := ⟨kf - 1, by omega⟩
    exact ⟨[some (HV.bool (decide ((j : Int) < (r.length : Int))), ([.arr 1 kn true 0, .arr 1 bz true 0] : Heap)) = some (.bool true, [.arr 1 kn true 0, .arr 1 bz true 0]), (idxV Try.prog 22 (.imm .arg 2 r) (.int .i64 (j : Int))).map (fun v => (v, ([.arr 1 kn true 0, .arr 1 bz true 0] : Heap))) = some (.vptr (.agg [.int .i64 x0, .int .i64 x1]), [.arr 1 kn true 0, .arr 1 bz true 0]), (idxV Try.prog 22 (.imm .arg 2 r) (.int .i64 (j : Int))).map (fun v => (v, ([.arr 1 kn true 0, .arr 1 bz true 0] : Heap))) = some (.vptr (.agg [.int .i64 x2, .int .i64 x3]), [.arr 1 kn true 0, .arr 1 bz true 0]), some (HV.bool (decide (x0 < 0)), ([.arr 1 kn true 0, .arr 1 bz true 0] : Heap)) = some (.bool false, [.arr 1 kn true 0, .arr 1 bz true 0]), some (HV.bool (decide (n ≤ x0)), ([.arr 1 kn true 0, .arr 1 bz true 0] : Heap)) = some (.bool false, [.arr 1 kn true 0, .arr 1 bz true 0]), some (HV.bool (decide (x3 < 0)), ([.arr 1 kn true 0, .arr 1 bz true 0] : Heap)) = some (.bool true, [.arr 1 kn true 0, .arr 1 bz true 0])], by kernel_rfl, Obls.cons (hintB (decide_eq_true g0)) (Obls.cons (hintOp g1) (Obls.cons (hintOp g2) (Obls.cons (hintB (decide_eq_false g3)) (Obls.cons (hintB (decide_eq_false g4)) (Obls.cons (hintB (decide_eq_true g5)) Obls.nil)))))⟩
theorem cp_l_3 (n : Int) (lc : List HV) (x : Int) (rds : List HV) (m : Nat) (kn : List HV) (q : Nat) (i : Nat) (bz : List HV) (r : List HV) (j : Nat) (x0 : Int) (x1 : Int) (x2 : Int) (x3 : Int) (g0 : (j : Int) < (r.length : Int)) (g1 : idxV Try.prog 22 (.imm .arg 2 r) (.int .i64 (j : Int)) = some (.vptr (.agg [.int .i64 x0, .int .i64 x1]))) (g2 : idxV Try.prog 22 (.imm .arg 2 r) (.int .i64 (j : Int)) = some (.vptr (.agg [.int .i64 x2, .int .i64 x3]))) (g3 : ¬ (x0 < 0)) (g4 : ¬ (n ≤ x0)) (g5 : ¬ (x3 < 0)) (g6 : n ≤ x3) : RunsTo Try.prog polY 30 (sub [1, 1, 1, 1, 0, 1, 0, 0, 1, 0, 0, 1, 1, 0, 1, 0, 0] B30) (env30 (.int .i64 n) (.imm .arg 2 lc) (.int .i64 x) (.imm .arg 1 rds) (.bool false) (.sl 0 0 m (some m) m 1) (.int .i64 (q : Int)) (.int .i64 (i : Int)) (.sl 1 0 m (some m) m 1) (.imm .arg 2 r) (.int .i64 (j : Int)) .undef .undef .undef) [.arr 1 kn true 0, .arr 1 bz true 0] (.ret) (polY.keys 30) (env30 (.int .i64 n) (.imm .arg 2 lc) (.int .i64 x) (.imm .arg 1 rds) (.bool false) (.sl 0 0 m (some m) m 1) (.int .i64 (q : Int)) (.int .i64 (i : Int)) (.sl 1 0 m (some m) m 1) (.imm .arg 2 r) (.int .i64 (j : Int)) (.int .i64 x0) (.int .i64 x3) .undef) [.arr 1 kn true 0, .arr 1 bz true 0] :=
  RunsTo.hint 1 60 [⟨10, 3, .bool true, [.arr 1 kn true 0, .arr 1 bz true 0]⟩, ⟨12, 2, .vptr (.agg [.int .i64 x0, .int .i64 x1]), [.arr 1 kn true 0, .arr 1 bz true 0]⟩, ⟨12, 7, .vptr (.agg [.int .i64 x2, .int .i64 x3]), [.arr 1 kn true 0, .arr 1 bz true 0]⟩, ⟨13, 1, .bool false, [.arr 1 kn true 0, .arr 1 bz true 0]⟩, ⟨13, 5, .bool false, [.arr 1 kn true 0, .arr 1 bz true 0]⟩, ⟨13, 9, .bool false, [.arr 1 kn true 0, .arr 1 bz true 0]⟩, ⟨13, 14, .bool true, [.arr 1 kn true 0, .arr 1 bz true 0]⟩] fun kf hk => by
    obtain ⟨kf, rfl⟩ : ∃ n, kf = n + 1 := ⟨kf - 1, by omega⟩
    exact ⟨[some (HV.bool (decide ((j : Int) < (r.length : Int))), ([.arr 1 kn true 0, .arr 1 bz true 0] : Heap)) = some (.bool true, [.arr 1 kn true 0, .arr 1 bz true 0]), (idxV Try.prog 22 (.imm .arg 2 r) (.int .i64 (j : Int))).map (fun v => (v, ([.arr 1 kn true 0, .arr 1 bz true 0] : Heap))) = some (.vptr (.agg [.int .i64 x0, .int .i64 x1]), [.arr 1 kn true 0, .arr 1 bz true 0]), (idxV Try.prog 22 (.imm .arg 2 r) (.int .i64 (j : Int))).map (fun v => (v, ([.arr 1 kn true 0, .arr 1 bz true 0] : Heap))) = some (.vptr (.agg [.int .i64 x2, .int .i64 x3]), [.arr 1 kn true 0, .arr 1 bz true 0]), some (HV.bool (decide (x0 < 0)), ([.arr 1 kn true 0, .arr 1 bz true 0] : Heap)) = some (.bool false, [.arr 1 kn true 0, .arr 1 bz true 0]), some (HV.bool (decide (n ≤ x0)), ([.arr 1 kn true 0, .arr 1 bz true 0] : Heap)) = some (.bool false, [.arr 1 kn true 0, .arr 1 bz true 0]), some (HV.bool (decide (x3 < 0)), ([.arr 1 kn true 0, .arr 1 bz true 0] : Heap)) = some (.bool false, [.arr 1 kn true 0, .arr 1 bz true 0]), some (HV.bool (decide (n ≤ x3)), ([.arr 1 kn true 0, .arr 1 bz true 0] : Heap)) = some (.bool true, [.arr 1 kn true 0, .arr 1 bz true 0])], by kernel_rfl, Obls.cons (hintB (decide_eq_true g0)) (Obls.cons (hintOp g1) (Obls.cons (hintOp g2) (Obls.cons (hintB (decide_eq_false g3)) (Obls.cons (hintB (decide_eq_false g4)) (Obls.cons (hintB (decide_eq_false g5)) (Obls.cons (hintB (decide_eq_true g6)) Obls.nil))))))⟩
theorem cp_l_4 (n : Int) (lc : List HV) (x : Int) (rds : List HV) (m : Nat) (kn : List HV) (q : Nat) (i : Nat) (bz : List HV) (r : List HV) (j : Nat) (x0 : Int) (x1 : Int) (x2 : Int) (x3 : Int) (g0 : (j : Int) < (r.length : Int)) (g1 : idxV Try.prog 22 (.imm .arg 2 r) (.int .i64 (j : Int)) = some (.vptr (.agg [.int .i64 x0, .int .i64 x1]))) (g2 : idxV Try.prog 22 (.imm .arg 2 r) (.int .i64 (j : Int)) = some (.vptr (.agg [.int .i64 x2, .int .i64 x3]))) (g3 : ¬ (x0 < 0)) (g4 : ¬ (n ≤ x0)) (g5 : ¬ (x3 < 0)) (g6 : ¬ (n ≤ x3)) (g7 : idxV Try.prog 43 (.sl 0 0 m (some m) m 1) (.int .i64 x0) = some (.ptr 0 ((x0).toNat) 0 m)) (g8 : loadV Try.prog [.arr 1 kn true 0, .arr 1 bz true 0] 4 (.ptr 0 ((x0).toNat) 0 m) = some (.bool true)) (g9 : idxV Try.prog 43 (.sl 0 0 m (some m) m 1) (.int .i64 x3) = some (.ptr 0 ((x3).toNat) 0 m)) (g10 : loadV Try.prog [.arr 1 kn true 0, .arr 1 bz true 0] 4 (.ptr 0 ((x3).toNat) 0 m) = some (.bool true)) : RunsTo Try.prog polY 30 (sub [1, 1, 1, 1, 0, 1, 0, 0, 1, 0, 0, 1, 1, 0, 1, 0, 0] B30) (env30 (.int .i64 n) (.imm .arg 2 lc) (.int .i64 x) (.imm .arg 1 rds) (.bool false) (.sl 0 0 m (some m) m 1) (.int .i64 (q : Int)) (.int .i64 (i : Int)) (.sl 1 0 m (some m) m 1) (.imm .arg 2 r) (.int .i64 (j : Int)) .undef .undef .undef) [.arr 1 kn true 0, .arr 1 bz true 0] (.ret) (polY.keys 30) (env30 (.int .i64 n) (.imm .arg 2 lc) (.int .i64 x) (.imm .arg 1 rds) (.bool false) (.sl 0 0 m (some m) m 1) (.int .i64 (q : Int)) (.int .i64 (i : Int)) (.sl 1 0 m (some m) m 1) (.imm .arg 2 r) (.int .i64 (j : Int)) (.int .i64 x0) (.int .i64 x3) .undef) [.arr 1 kn true 0, .arr 1 bz true 0] :=
  RunsTo.hint 1 60 [⟨10, 3, .bool true, [.arr 1 kn true 0, .arr 1 bz true 0]⟩, ⟨12, 2, .vptr (.agg [.int .i64 x0, .int .i64 x1]), [.arr 1 kn true 0, .arr 1 bz true 0]⟩, ⟨12, 7, .vptr (.agg [.int .i64 x2, .int .i64 x3]), [.arr 1 kn true 0, .arr 1 bz true 0]⟩, ⟨13, 1, .bool false, [.arr 1 kn true 0, .arr 1 bz true 0]⟩, ⟨13, 5, .bool false, [.arr 1 kn true 0, .arr 1 bz true 0]⟩, ⟨13, 9, .bool false, [.arr 1 kn true 0, .arr 1 bz true 0]⟩, ⟨13, 14, .bool false, [.arr 1 kn true 0, .arr 1 bz true 0]⟩, ⟨13, 19, .ptr 0 ((x0).toNat) 0 m, [.arr 1 kn true 0, .arr 1 bz true 0]⟩, ⟨13, 20, .bool true, [.arr 1 kn true 0, .arr 1 bz true 0]⟩, ⟨13, 26, .ptr 0 ((x3).toNat) 0 m, [.arr 1 kn true 0, .arr 1 bz true 0]⟩, ⟨13, 27, .bool true, [.arr 1 kn true 0, .arr 1 bz true 0]⟩] fun kf hk => by
    obtain ⟨kf, rfl⟩ : ∃ n, kf = n + 1 := ⟨kf - 1, by omega⟩
    exact ⟨[some (HV.bool (decide ((j : Int) < (r.length : Int))), ([.arr 1 kn true 0, .arr 1 bz true 0] : Heap)) = some (.bool true, [.arr 1 kn true 0, .arr 1 bz true 0]), (idxV Try.prog 22 (.imm .arg 2 r) (.int .i64 (j : Int))).map (fun v => (v, ([.arr 1 kn true 0, .arr 1 bz true 0] : Heap))) = some (.vptr (.agg [.int .i64 x0, .int .i64 x1]), [.arr 1 kn true 0, .arr 1 bz true 0]), (idxV Try.prog 22 (.imm .arg 2 r) (.int .i64 (j : Int))).map (fun v => (v, ([.arr 1 kn true 0, .arr 1 bz true 0] : Heap))) = some (.vptr (.agg [.int .i64 x2, .int .i64 x3]), [.arr 1 kn true 0, .arr 1 bz true 0]), some (HV.bool (decide (x0 < 0)), ([.arr 1 kn true 0, .arr 1 bz true 0] : Heap)) = some (.bool false, [.arr 1 kn true 0, .arr 1 bz true 0]), some (HV.bool (decide (n ≤ x0)), ([.arr 1 kn true 0, .arr 1 bz true 0] : Heap)) = some (.bool false, [.arr 1 kn true 0, .arr 1 bz true 0]), some (HV.bool (decide (x3 < 0)), ([.arr 1 kn true 0, .arr 1 bz true 0] : Heap)) = some (.bool false, [.arr 1 kn true 0, .arr 1 bz true 0]), some (HV.bool (decide (n ≤ x3)), ([.arr 1 kn true 0, .arr 1 bz true 0] : Heap)) = some (.bool false, [.arr 1 kn true 0, .arr 1 bz true 0]), (idxV Try.prog 43 (.sl 0 0 m (some m) m 1) (.int .i64 x0)).map (fun v => (v, ([.arr 1 kn true 0, .arr 1 bz true 0] : Heap))) = some (.ptr 0 ((x0).toNat) 0 m, [.arr 1 kn true 0, .arr 1 bz true 0]), (loadV Try.prog [.arr 1 kn true 0, .arr 1 bz true 0] 4 (.ptr 0 ((x0).toNat) 0 m)).map (fun v => (v, ([.arr 1 kn true 0, .arr 1 bz true 0] : Heap))) = some (.bool true, [.arr 1 kn true 0, .arr 1 bz true 0]), (idxV Try.prog 43 (.sl 0 0 m (some m) m 1) (.int .i64 x3)).map (fun v => (v, ([.arr 1 kn true 0, .arr 1 bz true 0] : Heap))) = some (.ptr 0 ((x3).toNat) 0 m, [.arr 1 kn true 0, .arr 1 bz true 0]), (loadV Try.prog [.arr 1 kn true 0, .arr 1 bz true 0] 4 (.ptr 0 ((x3).toNat) 0 m)).map (fun v => (v, ([.arr 1 kn true 0, .arr 1 bz true 0] : Heap))) = some (.bool true, [.arr 1 kn true 0, .arr 1 bz true 0])], by kernel_rfl, Obls.cons (hintB (decide_eq_true g0)) (Obls.cons (hintOp g1) (Obls.cons (hintOp g2) (Obls.cons (hintB (decide_eq_false g3)) (Obls.cons (hintB (decide_eq_false g4)) (Obls.cons (hintB (decide_eq_false g5)) (Obls.cons (hintB (decide_eq_false g6)) (Obls.cons (hintOp g7) (Obls.cons (hintOp g8) (Obls.cons (hintOp g9) (Obls.cons (hintOp g10) Obls.nil))))))))))⟩
theorem cp_l_5 (n : Int) (lc : List HV) (x : Int) (rds : List HV) (m : Nat) (kn : List HV) (q : Nat) (i : Nat) (bz : List HV) (r : List HV) (j : Nat) (x0 : Int) (x1 : Int) (x2 : Int) (x3 : Int) (g0 : (j : Int) < (r.length : Int)) (g1 : idxV Try.prog 22 (.imm .arg 2 r) (.int .i64 (j : Int)) = some (.vptr (.agg [.int .i64 x0, .int .i64 x1]))) (g2 : idxV Try.prog 22 (.imm .arg 2 r) (.int .i64 (j : Int)) = some (.vptr (.agg [.int .i64 x2, .int .i64 x3]))) (g3 : ¬ (x0 < 0)) (g4 : ¬ (n ≤ x0)) (g5 : ¬ (x3 < 0)) (g6 : ¬ (n ≤ x3)) (g7 : idxV Try.prog 43 (.sl 0 0 m (some m) m 1) (.int .i64 x0) = some (.ptr 0 ((x0).toNat) 0 m)) (g8 : loadV Try.prog [.arr 1 kn true 0, .arr 1 bz true 0] 4 (.ptr 0 ((x0).toNat) 0 m) = some (.bool true)) (g9 : idxV Try.prog 43 (.sl 0 0 m (some m) m 1) (.int .i64 x3) = some (.ptr 0 ((x3).toNat) 0 m)) (g10 : loadV Try.prog [.arr 1 kn true 0, .arr 1 bz true 0] 4 (.ptr 0 ((x3).toNat) 0 m) = some (.bool false)) (g11 : idxV Try.prog 43 (.sl 1 0 m (some m) m 1) (.int .i64 x0) = some (.ptr 1 ((x0).toNat) 0 m)) (g12 : loadV Try.prog [.arr 1 kn true 0, .arr 1 bz true 0] 4 (.ptr 1 ((x0).toNat) 0 m) = some (.bool true)) : RunsTo Try.prog polY 30 (sub [1, 1, 1, 1, 0, 1, 0, 0, 1, 0, 0, 1, 1, 0, 1, 0, 0] B30) (env30 (.int .i64 n) (.imm .arg 2 lc) (.int .i64 x) (.imm .arg 1 rds) (.bool false) (.sl 0 0 m (some m) m 1) (.int .i64 (q : Int)) (.int .i64 (i : Int)) (.sl 1 0 m (some m) m 1) (.imm .arg 2 r) (.int .i64 (j : Int)) .undef .undef .undef) [.arr 1 kn true 0, .arr 1 bz true 0] (.ret) (polY.keys 30) (env30 (.int .i64 n) (.imm .arg 2 lc) (.int .i64 x) (.imm .arg 1 rds) (.bool false) (.sl 0 0 m (some m) m 1) (.int .i64 (q : Int)) (.int .i64 (i : Int)) (.sl 1 0 m (some m) m 1) (.imm .arg 2 r) (.int .i64 (j : Int)) (.int .i64 x0) (.int .i64 x3) .undef) [.arr 1 kn true 0, .arr 1 bz true 0] :=
  RunsTo.hint 1 60 [⟨10, 3, .bool true, [.arr 1 kn true 0, .arr 1 bz true 0]⟩, ⟨12, 2, .vptr (.agg [.int .i64 x0, .int .i64 x1]), [.arr 1 kn true 0, .arr 1 bz true 0]⟩, ⟨12, 7, .vptr (.agg [.int .i64 x2, .int .i64 x3]), [.arr 1 kn true 0, .arr 1 bz true 0]⟩, ⟨13, 1, .bool false, [.arr 1 kn true 0, .arr 1 bz true 0]⟩, ⟨13, 5, .bool false, [.arr 1 kn true 0, .arr 1 bz true 0]⟩, ⟨13, 9, .bool false, [.arr 1 kn true 0, .arr 1 bz true 0]⟩, ⟨13, 14, .bool false, [.arr 1 kn true 0, .arr 1 bz true 0]⟩, ⟨13, 19, .ptr 0 ((x0).toNat) 0 m, [.arr 1 kn true 0, .arr 1 bz true 0]⟩, ⟨13, 20, .bool true, [.arr 1 kn true 0, .arr 1 bz true 0]⟩, ⟨13, 26, .ptr 0 ((x3).toNat) 0 m, [.arr 1 kn true 0, .arr 1 bz true 0]⟩, ⟨13, 27, .bool false, [.arr 1 kn true 0, .arr 1 bz true 0]⟩, ⟨13, 32, .ptr 1 ((x0).toNat) 0 m, [.arr 1 kn true 0, .arr 1 bz true 0]⟩, ⟨13, 33, .bool true, [.arr 1 kn true 0, .arr 1 bz true 0]⟩] fun kf hk => by
    obtain ⟨kf, rfl⟩ : ∃ n, kf = n + 1 := ⟨kf - 1, by omega⟩
    exact ⟨[some (HV.bool (decide ((j : Int) < (r.length : Int))), ([.arr 1 kn true 0, .arr 1 bz true 0] : Heap)) = some (.bool true, [.arr 1 kn true 0, .arr 1 bz true 0]), (idxV Try.prog 22 (.imm .arg 2 r) (.int .i64 (j : Int))).map (fun v => (v, ([.arr 1 kn true 0, .arr 1 bz true 0] : Heap))) = some (.vptr (.agg [.int .i64 x0, .int .i64 x1]), [.arr 1 kn true 0, .arr 1 bz true 0]), (idxV Try.prog 22 (.imm .arg 2 r) (.int .i64 (j : Int))).map (fun v => (v, ([.arr 1 kn true 0, .arr 1 bz true 0] : Heap))) = some (.vptr (.agg [.int .i64 x2, .int .i64 x3]), [.arr 1 kn true 0, .arr 1 bz true 0]), some (HV.bool (decide (x0 < 0)), ([.arr 1 kn true 0, .arr 1 bz true 0] : Heap)) = some (.bool false, [.arr 1 kn true 0, .arr 1 bz true 0]), some (HV.bool (decide (n ≤ x0)), ([.arr 1 kn true 0, .arr 1 bz true 0] : Heap)) = some (.bool false, [.arr 1 kn true 0, .arr 1 bz true 0]), some (HV.bool (decide (x3 < 0)), ([.arr 1 kn true 0, .arr 1 bz true 0] : Heap)) = some (.bool false, [.arr 1 kn true 0, .arr 1 bz true 0]), some (HV.bool (decide (n ≤ x3)), ([.arr 1 kn true 0, .arr 1 bz true 0] : Heap)) = some (.bool false, [.arr 1 kn true 0, .arr 1 bz true 0]), (idxV Try.prog 43 (.sl 0 0 m (some m) m 1) (.int .i64 x0)).map (fun v => (v, ([.arr 1 kn true 0, .arr 1 bz true 0] : Heap))) = some (.ptr 0 ((x0).toNat) 0 m, [.arr 1 kn true 0, .arr 1 bz true 0]), (loadV Try.prog [.arr 1 kn true 0, .arr 1 bz true 0] 4 (.ptr 0 ((x0).toNat) 0 m)).map (fun v => (v, ([.arr 1 kn true 0, .arr 1 bz true 0] : Heap))) = some (.bool true, [.arr 1 kn true 0, .arr 1 bz true 0]), (idxV Try.prog 43 (.sl 0 0 m (some m) m 1) (.int .i64 x3)).map (fun v => (v, ([.arr 1 kn true 0, .arr 1 bz true 0] : Heap))) = some (.ptr 0 ((x3).toNat) 0 m, [.arr 1 kn true 0, .arr 1 bz true 0]), (loadV Try.prog [.arr 1 kn true 0, .arr 1 bz true 0] 4 (.ptr 0 ((x3).toNat) 0 m)).map (fun v => (v, ([.arr 1 kn true 0, .arr 1 bz true 0] : Heap))) = some (.bool false, [.arr 1 kn true 0, .arr 1 bz true 0]), (idxV Try.prog 43 (.sl 1 0 m (some m) m 1) (.int .i64 x0)).map (fun v => (v, ([.arr 1 kn true 0, .arr 1 bz true 0] : Heap))) = some (.ptr 1 ((x0).toNat) 0 m, [.arr 1 kn true 0, .arr 1 bz true 0]), (loadV Try.prog [.arr 1 kn true 0, .arr 1 bz true 0] 4 (.ptr 1 ((x0).toNat) 0 m)).map (fun v => (v, ([.arr 1 kn true 0, .arr 1 bz true 0] : Heap))) = some (.bool true, [.arr 1 kn true 0, .arr 1 bz true 0])], by kernel_rfl, Obls.cons (hintB (decide_eq_true g0)) (Obls.cons (hintOp g1) (Obls.cons (hintOp g2) (Obls.cons (hintB (decide_eq_false g3)) (Obls.cons (hintB (decide_eq_false g4)) (Obls.cons (hintB (decide_eq_false g5)) (Obls.cons (hintB (decide_eq_false g6)) (Obls.cons (hintOp g7) (Obls.cons (hintOp g8) (Obls.cons (hintOp g9) (Obls.cons (hintOp g10) (Obls.cons (hintOp g11) (Obls.cons (hintOp g12) Obls.nil))))))))))))⟩
theorem cp_l_6 (n : Int) (lc : List HV) (x : Int) (rds : List HV) (m : Nat) (kn : List HV) (q : Nat) (i : Nat) (bz : List HV) (r : List HV) (j : Nat) (x0 : Int) (x1 : Int) (x2 : Int) (x3 : Int) (g0 : (j : Int) < (r.length : Int)) (g1 : idxV Try.prog 22 (.imm .arg 2 r) (.int .i64 (j : Int)) = some (.vptr (.agg [.int .i64 x0, .int .i64 x1]))) (g2 : idxV Try.prog 22 (.imm .arg 2 r) (.int .i64 (j : Int)) = some (.vptr (.agg [.int .i64 x2, .int .i64 x3]))) (g3 : ¬ (x0 < 0)) (g4 : ¬ (n ≤ x0)) (g5 : ¬ (x3 < 0)) (g6 : ¬ (n ≤ x3)) (g7 : idxV Try.prog 43 (.sl 0 0 m (some m) m 1) (.int .i64 x0) = some (.ptr 0 ((x0).toNat) 0 m)) (g8 : loadV Try.prog [.arr 1 kn true 0, .arr 1 bz true 0] 4 (.ptr 0 ((x0).toNat) 0 m) = some (.bool true)) (g9 : idxV Try.prog 43 (.sl 0 0 m (some m) m 1) (.int .i64 x3) = some (.ptr 0 ((x3).toNat) 0 m)) (g10 : loadV Try.prog [.arr 1 kn true 0, .arr 1 bz true 0] 4 (.ptr 0 ((x3).toNat) 0 m) = some (.bool false)) (g11 : idxV Try.prog 43 (.sl 1 0 m (some m) m 1) (.int .i64 x0) = some (.ptr 1 ((x0).toNat) 0 m)) (g12 : loadV Try.prog [.arr 1 kn true 0, .arr 1 bz true 0] 4 (.ptr 1 ((x0).toNat) 0 m) = some (.bool false)) (g13 : idxV Try.prog 43 (.sl 1 0 m (some m) m 1) (.int .i64 x3) = some (.ptr 1 ((x3).toNat) 0 m)) (g14 : loadV Try.prog [.arr 1 kn true 0, .arr 1 bz true 0] 4 (.ptr 1 ((x3).toNat) 0 m) = some (.bool true)) : RunsTo Try.prog polY 30 (sub [1, 1, 1, 1, 0, 1, 0, 0, 1, 0, 0, 1, 1, 0, 1, 0, 0] B30) (env30 (.int .i64 n) (.imm .arg 2 lc) (.int .i64 x) (.imm .arg 1 rds) (.bool false) (.sl 0 0 m (some m) m 1) (.int .i64 (q : Int)) (.int .i64 (i : Int)) (.sl 1 0 m (some m) m 1) (.imm .arg 2 r) (.int .i64 (j : Int)) .undef .undef .undef) [.arr 1 kn true 0, .arr 1 bz true 0] (.ret) (polY.keys 30) (env30 (.int .i64 n) (.imm .arg 2 lc) (.int .i64 x) (.imm .arg 1 rds) (.bool false) (.sl 0 0 m (some m) m 1) (.int .i64 (q : Int)) (.int .i64 (i : Int)) (.sl 1 0 m (some m) m 1) (.imm .arg 2 r) (.int .i64 (j : Int)) (.int .i64 x0) (.int .i64 x3) .undef) [.arr 1 kn true 0, .arr 1 bz true 0] :=
  RunsTo.hint 1 60 [⟨10, 3, .bool true, [.arr 1 kn true 0, .arr 1 bz true 0]⟩, ⟨12, 2, .vptr (.agg [.int .i64 x0, .int .i64 x1]), [.arr 1 kn true 0, .arr 1 bz true 0]⟩, ⟨12, 7, .vptr (.agg [.int .i64 x2, .int .i64 x3]), [.arr 1 kn true 0, .arr 1 bz true 0]⟩, ⟨13, 1, .bool false, [.arr 1 kn true 0, .arr 1 bz true 0]⟩, ⟨13, 5, .bool false, [.arr 1 kn true 0, .arr 1 bz true 0]⟩, ⟨13, 9, .bool false, [.arr 1 kn true 0, .arr 1 bz true 0]⟩, ⟨13, 14, .bool false, [.arr 1 kn true 0, .arr 1 bz true 0]⟩, ⟨13, 19, .ptr 0 ((x0).toNat) 0 m, [.arr 1 kn true 0, .arr 1 bz true 0]⟩, ⟨13, 20, .bool true, [.arr 1 kn true 0, .arr 1 bz true 0]⟩, ⟨13, 26, .ptr 0 ((x3).toNat) 0 m, [.arr 1 kn true 0, .arr 1 bz true 0]⟩, ⟨13, 27, .bool false, [.arr 1 kn true 0, .arr 1 bz true 0]⟩, ⟨13, 32, .ptr 1 ((x0).toNat) 0 m, [.arr 1 kn true 0, .arr 1 bz true 0]⟩, ⟨13, 33, .bool false, [.arr 1 kn true 0, .arr 1 bz true 0]⟩, ⟨13, 38, .ptr 1 ((x3).toNat) 0 m, [.arr 1 kn true 0, .arr 1 bz true 0]⟩, ⟨13, 39, .bool true, [.arr 1 kn true 0, .arr 1 bz true 0]⟩] fun kf hk => by
    obtain ⟨kf, rfl⟩ : ∃ n, kf = n + 1 := ⟨kf - 1, by omega⟩
    exact ⟨[some (HV.bool (decide ((j : Int) < (r.length : Int))), ([.arr 1 kn true 0, .arr 1 bz true 0] : Heap)) = some (.bool true, [.arr 1 kn true 0, .arr 1 bz true 0]), (idxV Try.prog 22 (.imm .arg 2 r) (.int .i64 (j : Int))).map (fun v => (v, ([.arr 1 kn true 0, .arr 1 bz true 0] : Heap))) = some (.vptr (.agg [.int .i64 x0, .int .i64 x1]), [.arr 1 kn true 0, .arr 1 bz true 0]), (idxV Try.prog 22 (.imm .arg 2 r) (.int .i64 (j : Int))).map (fun v => (v, ([.arr 1 kn true 0, .arr 1 bz true 0] : Heap))) = some (.vptr (.agg [.int .i64 x2, .int .i64 x3]), [.arr 1 kn true 0, .arr 1 bz true 0]), some (HV.bool (decide (x0 < 0)), ([.arr 1 kn true 0, .arr 1 bz true 0] : Heap)) = some (.bool false, [.arr 1 kn true 0, .arr 1 bz true 0]), some (HV.bool (decide (n ≤ x0)), ([.arr 1 kn true 0, .arr 1 bz true 0] : Heap)) = some (.bool false, [.arr 1 kn true 0, .arr 1 bz true 0]), some (HV.bool (decide (x3 < 0)), ([.arr 1 kn true 0, .arr 1 bz true 0] : Heap)) = some (.bool false, [.arr 1 kn true 0, .arr 1 bz true 0]), some (HV.bool (decide (n ≤ x3)), ([.arr 1 kn true 0, .arr 1 bz true 0] : Heap)) = some (.bool false, [.arr 1 kn true 0, .arr 1 bz true 0]), (idxV Try.prog 43 (.sl 0 0 m (some m) m 1) (.int .i64 x0)).map (fun v => (v, ([.arr 1 kn true 0, .arr 1 bz true 0] : Heap))) = some (.ptr 0 ((x0).toNat) 0 m, [.arr 1 kn true 0, .arr 1 bz true 0]), (loadV Try.prog [.arr 1 kn true 0, .arr 1 bz true 0] 4 (.ptr 0 ((x0).toNat) 0 m)).map (fun v => (v, ([.arr 1 kn true 0, .arr 1 bz true 0] : Heap))) = some (.bool true, [.arr 1 kn true 0, .arr 1 bz true 0]), (idxV Try.prog 43 (.sl 0 0 m (some m) m 1) (.int .i64 x3)).map (fun v => (v, ([.arr 1 kn true 0, .arr 1 bz true 0] : Heap))) = some (.ptr 0 ((x3).toNat) 0 m, [.arr 1 kn true 0, .arr 1 bz true 0]), (loadV Try.prog [.arr 1 kn true 0, .arr 1 bz true 0] 4 (.ptr 0 ((x3).toNat) 0 m)).map (fun v => (v, ([.arr 1 kn true 0, .arr 1 bz true 0] : Heap))) = some (.bool false, [.arr 1 kn true 0, .arr 1 bz true 0]), (idxV Try.prog 43 (.sl 1 0 m (some m) m 1) (.int .i64 x0)).map (fun v => (v, ([.arr 1 kn true 0, .arr 1 bz true 0] : Heap))) = some (.ptr 1 ((x0).toNat) 0 m, [.arr 1 kn true 0, .arr 1 bz true 0]), (loadV Try.prog [.arr 1 kn true 0, .arr 1 bz true 0] 4 (.ptr 1 ((x0).toNat) 0 m)).map (fun v => (v, ([.arr 1 kn true 0, .arr 1 bz true 0] : Heap))) = some (.bool false, [.arr 1 kn true 0, .arr 1 bz true 0]), (idxV Try.prog 43 (.sl 1 0 m (some m) m 1) (.int .i64 x3)).map (fun v => (v, ([.arr 1 kn true 0, .arr 1 bz true 0] : Heap))) = some (.ptr 1 ((x3).toNat) 0 m, [.arr 1 kn true 0, .arr 1 bz true 0]), (loadV Try.prog [.arr 1 kn true 0, .arr 1 bz true 0] 4 (.ptr 1 ((x3).toNat) 0 m)).map (fun v => (v, ([.arr 1 kn true 0, .arr 1 bz true 0] : Heap))) = some (.bool true, [.arr 1 kn true 0, .arr 1 bz true 0])], by kernel_rfl, Obls.cons (hintB (decide_eq_true g0)) (Obls.cons (hintOp g1) (Obls.cons (hintOp g2) (Obls.cons (hintB (decide_eq_false g3)) (Obls.cons (hintB (decide_eq_false g4)) (Obls.cons (hintB (decide_eq_false g5)) (Obls.cons (hintB (decide_eq_false g6)) (Obls.cons (hintOp g7) (Obls.cons (hintOp g8) (Obls.cons (hintOp g9) (Obls.cons (hintOp g10) (Obls.cons (hintOp g11) (Obls.cons (hintOp g12) (Obls.cons (hintOp g13) (Obls.cons (hintOp g14) Obls.nil))))))))))))))⟩
theorem cp_l_7 (n : Int) (lc : List HV) (x : Int) (rds : List HV) (m : Nat) (kn : List HV) (q : Nat) (i : Nat) (bz : List HV) (r : List HV) (j : Nat) (x0 : Int) (x1 : Int) (x2 : Int) (x3 : Int) (el0 : List HV) (el1 : List HV) (g0 : (j : Int) < (r.length : Int)) (g1 : idxV Try.prog 22 (.imm .arg 2 r) (.int .i64 (j : Int)) = some (.vptr (.agg [.int .i64 x0, .int .i64 x1]))) (g2 : idxV Try.prog 22 (.imm .arg 2 r) (.int .i64 (j : Int)) = some (.vptr (.agg [.int .i64 x2, .int .i64 x3]))) (g3 : ¬ (x0 < 0)) (g4 : ¬ (n ≤ x0)) (g5 : ¬ (x3 < 0)) (g6 : ¬ (n ≤ x3)) (g7 : idxV Try.prog 43 (.sl 0 0 m (some m) m 1) (.int .i64 x0) = some (.ptr 0 ((x0).toNat) 0 m)) (g8 : loadV Try.prog [.arr 1 kn true 0, .arr 1 bz true 0] 4 (.ptr 0 ((x0).toNat) 0 m) = some (.bool true)) (g9 : idxV Try.prog 43 (.sl 0 0 m (some m) m 1) (.int .i64 x3) = some (.ptr 0 ((x3).toNat) 0 m)) (g10 : loadV Try.prog [.arr 1 kn true 0, .arr 1 bz true 0] 4 (.ptr 0 ((x3).toNat) 0 m) = some (.bool false)) (g11 : idxV Try.prog 43 (.sl 1 0 m (some m) m 1) (.int .i64 x0) = some (.ptr 1 ((x0).toNat) 0 m)) (g12 : loadV Try.prog [.arr 1 kn true 0, .arr 1 bz true 0] 4 (.ptr 1 ((x0).toNat) 0 m) = some (.bool false)) (g13 : idxV Try.prog 43 (.sl 1 0 m (some m) m 1) (.int .i64 x3) = some (.ptr 1 ((x3).toNat) 0 m)) (g14 : loadV Try.prog [.arr 1 kn true 0, .arr 1 bz true 0] 4 (.ptr 1 ((x3).toNat) 0 m) = some (.bool false)) (g15 : ∀ kf, callN Try.prog polY (kf + 1) 53 [.imm .arg 2 lc, .int .i64 x0, .int .i64 x3] [.arr 1 kn true 0, .arr 1 bz true 0] = some (.bool true, [.arr 1 kn true 0, .arr 1 bz true 0])) (g16 : idxV Try.prog 43 (.sl 1 0 m (some m) m 1) (.int .i64 x0) = some (.ptr 1 ((x0).toNat) 0 m)) (g17 : storeV Try.prog [.arr 1 kn true 0, .arr 1 bz true 0] 4 (.ptr 1 ((x0).toNat) 0 m) (.bool true) = some [.arr 1 kn true 0, .arr 1 el0 true 0]) (g18 : idxV Try.prog 43 (.sl 1 0 m (some m) m 1) (.int .i64 x3) = some (.ptr 1 ((x3).toNat) 0 m)) (g19 : storeV Try.prog [.arr 1 kn true 0, .arr 1 el0 true 0] 4 (.ptr 1 ((x3).toNat) 0 m) (.bool true) = some [.arr 1 kn true 0, .arr 1 el1 true 0]) : RunsTo Try.prog polY 30 (sub [1, 1, 1, 1, 0, 1, 0, 0, 1, 0, 0, 1, 1, 0, 1, 0, 0] B30) (env30 (.int .i64 n) (.imm .arg 2 lc) (.int .i64 x) (.imm .arg 1 rds) (.bool false) (.sl 0 0 m (some m) m 1) (.int .i64 (q : Int)) (.int .i64 (i : Int)) (.sl 1 0 m (some m) m 1) (.imm .arg 2 r) (.int .i64 (j : Int)) .undef .undef .undef) [.arr 1 kn true 0, .arr 1 bz true 0] (.normal) (polY.keys 30) (env30 (.int .i64 n) (.imm .arg 2 lc) (.int .i64 x) (.imm .arg 1 rds) (.bool false) (.sl 0 0 m (some m) m 1) (.int .i64 (q : Int)) (.int .i64 (i : Int)) (.sl 1 0 m (some m) m 1) (.imm .arg 2 r) (.int .i64 (IntKind.i64.wrap ((j : Int) + 1))) (.int .i64 x0) (.int .i64 x3) .undef) [.arr 1 kn true 0, .arr 1 el1 true 0] :=
  RunsTo.hint 1 60 [⟨10, 3, .bool true, [.arr 1 kn true 0, .arr 1 bz true 0]⟩, ⟨12, 2, .vptr (.agg [.int .i64 x0, .int .i64 x1]), [.arr 1 kn true 0, .arr 1 bz true 0]⟩, ⟨12, 7, .vptr (.agg [.int .i64 x2, .int .i64 x3]), [.arr 1 kn true 0, .arr 1 bz true 0]⟩, ⟨13, 1, .bool false, [.arr 1 kn true 0, .arr 1 bz true 0]⟩, ⟨13, 5, .bool false, [.arr 1 kn true 0, .arr 1 bz true 0]⟩, ⟨13, 9, .bool false, [.arr 1 kn true 0, .arr 1 bz true 0]⟩, ⟨13, 14, .bool false, [.arr 1 kn true 0, .arr 1 bz true 0]⟩, ⟨13, 19, .ptr 0 ((x0).toNat) 0 m, [.arr 1 kn true 0, .arr 1 bz true 0]⟩, ⟨13, 20, .bool true, [.arr 1 kn true 0, .arr 1 bz true 0]⟩, ⟨13, 26, .ptr 0 ((x3).toNat) 0 m, [.arr 1 kn true 0, .arr 1 bz true 0]⟩, ⟨13, 27, .bool false, [.arr 1 kn true 0, .arr 1 bz true 0]⟩, ⟨13, 32, .ptr 1 ((x0).toNat) 0 m, [.arr 1 kn true 0, .arr 1 bz true 0]⟩, ⟨13, 33, .bool false, [.arr 1 kn true 0, .arr 1 bz true 0]⟩, ⟨13, 38, .ptr 1 ((x3).toNat) 0 m, [.arr 1 kn true 0, .arr 1 bz true 0]⟩, ⟨13, 39, .bool false, [.arr 1 kn true 0, .arr 1 bz true 0]⟩, ⟨13, 45, .bool true, [.arr 1 kn true 0, .arr 1 bz true 0]⟩, ⟨15, 2, .ptr 1 ((x0).toNat) 0 m, [.arr 1 kn true 0, .arr 1 bz true 0]⟩, ⟨15, 3, .tuple [], [.arr 1 kn true 0, .arr 1 el0 true 0]⟩, ⟨16, 2, .ptr 1 ((x3).toNat) 0 m, [.arr 1 kn true 0, .arr 1 el0 true 0]⟩, ⟨16, 3, .tuple [], [.arr 1 kn true 0, .arr 1 el1 true 0]⟩] fun kf hk => by
    obtain ⟨kf, rfl⟩ : ∃ n, kf = n + 1 := ⟨kf - 1, by omega⟩
    exact ⟨[some (HV.bool (decide ((j : Int) < (r.length : Int))), ([.arr 1 kn true 0, .arr 1 bz true 0] : Heap)) = some (.bool true, [.arr 1 kn true 0, .arr 1 bz true 0]), (idxV Try.prog 22 (.imm .arg 2 r) (.int .i64 (j : Int))).map (fun v => (v, ([.arr 1 kn true 0, .arr 1 bz true 0] : Heap))) = some (.vptr (.agg [.int .i64 x0, .int .i64 x1]), [.arr 1 kn true 0, .arr 1 bz true 0]), (idxV Try.prog 22 (.imm .arg 2 r) (.int .i64 (j : Int))).map (fun v => (v, ([.arr 1 kn true 0, .arr 1 bz true 0] : Heap))) = some (.vptr (.agg [.int .i64 x2, .int .i64 x3]), [.arr 1 kn true 0, .arr 1 bz true 0]), some (HV.bool (decide (x0 < 0)), ([.arr 1 kn true 0, .arr 1 bz true 0] : Heap)) = some (.bool false, [.arr 1 kn true 0, .arr 1 bz true 0]), some (HV.bool (decide (n ≤ x0)), ([.arr 1 kn true 0, .arr 1 bz true 0] : Heap)) = some (.bool false, [.arr 1 kn true 0, .arr 1 bz true 0]), some (HV.bool (decide (x3 < 0)), ([.arr 1 kn true 0, .arr 1 bz true 0] : Heap)) = some (.bool false, [.arr 1 kn true 0, .arr 1 bz true 0]), some (HV.bool (decide (n ≤ x3)), ([.arr 1 kn true 0, .arr 1 bz true 0] : Heap)) = some (.bool false, [.arr 1 kn true 0, .arr 1 bz true 0]), (idxV Try.prog 43 (.sl 0 0 m (some m) m 1) (.int .i64 x0)).map (fun v => (v, ([.arr 1 kn true 0, .arr 1 bz true 0] : Heap))) = some (.ptr 0 ((x0).toNat) 0 m, [.arr 1 kn true 0, .arr 1 bz true 0]), (loadV Try.prog [.arr 1 kn true 0, .arr 1 bz true 0] 4 (.ptr 0 ((x0).toNat) 0 m)).map (fun v => (v, ([.arr 1 kn true 0, .arr 1 bz true 0] : Heap))) = some (.bool true, [.arr 1 kn true 0, .arr 1 bz true 0]), (idxV Try.prog 43 (.sl 0 0 m (some m) m 1) (.int .i64 x3)).map (fun v => (v, ([.arr 1 kn true 0, .arr 1 bz true 0] : Heap))) = some (.ptr 0 ((x3).toNat) 0 m, [.arr 1 kn true 0, .arr 1 bz true 0]), (loadV Try.prog [.arr 1 kn true 0, .arr 1 bz true 0] 4 (.ptr 0 ((x3).toNat) 0 m)).map (fun v => (v, ([.arr 1 kn true 0, .arr 1 bz true 0] : Heap))) = some (.bool false, [.arr 1 kn true 0, .arr 1 bz true 0]), (idxV Try.prog 43 (.sl 1 0 m (some m) m 1) (.int .i64 x0)).map (fun v => (v, ([.arr 1 kn true 0, .arr 1 bz true 0] : Heap))) = some (.ptr 1 ((x0).toNat) 0 m, [.arr 1 kn true 0, .arr 1 bz true 0]), (loadV Try.prog [.arr 1 kn true 0, .arr 1 bz true 0] 4 (.ptr 1 ((x0).toNat) 0 m)).map (fun v => (v, ([.arr 1 kn true 0, .arr 1 bz true 0] : Heap))) = some (.bool false, [.arr 1 kn true 0, .arr 1 bz true 0]), (idxV Try.prog 43 (.sl 1 0 m (some m) m 1) (.int .i64 x3)).map (fun v => (v, ([.arr 1 kn true 0, .arr 1 bz true 0] : Heap))) = some (.ptr 1 ((x3).toNat) 0 m, [.arr 1 kn true 0, .arr 1 bz true 0]), (loadV Try.prog [.arr 1 kn true 0, .arr 1 bz true 0] 4 (.ptr 1 ((x3).toNat) 0 m)).map (fun v => (v, ([.arr 1 kn true 0, .arr 1 bz true 0] : Heap))) = some (.bool false, [.arr 1 kn true 0, .arr 1 bz true 0]), callN Try.prog polY (kf + 1) 53 [.imm .arg 2 lc, .int .i64 x0, .int .i64 x3] [.arr 1 kn true 0, .arr 1 bz true 0] = some (.bool true, [.arr 1 kn true 0, .arr 1 bz true 0]), (idxV Try.prog 43 (.sl 1 0 m (some m) m 1) (.int .i64 x0)).map (fun v => (v, ([.arr 1 kn true 0, .arr 1 bz true 0] : Heap))) = some (.ptr 1 ((x0).toNat) 0 m, [.arr 1 kn true 0, .arr 1 bz true 0]), (storeV Try.prog [.arr 1 kn true 0, .arr 1 bz true 0] 4 (.ptr 1 ((x0).toNat) 0 m) (.bool true)).map (fun H => (HV.tuple [], H)) = some (.tuple [], [.arr 1 kn true 0, .arr 1 el0 true 0]), (idxV Try.prog 43 (.sl 1 0 m (some m) m 1) (.int .i64 x3)).map (fun v => (v, ([.arr 1 kn true 0, .arr 1 el0 true 0] : Heap))) = some (.ptr 1 ((x3).toNat) 0 m, [.arr 1 kn true 0, .arr 1 el0 true 0]), (storeV Try.prog [.arr 1 kn true 0, .arr 1 el0 true 0] 4 (.ptr 1 ((x3).toNat) 0 m) (.bool true)).map (fun H => (HV.tuple [], H)) = some (.tuple [], [.arr 1 kn true 0, .arr 1 el1 true 0])], by kernel_rfl, Obls.cons (hintB (decide_eq_true g0)) (Obls.cons (hintOp g1) (Obls.cons (hintOp g2) (Obls.cons (hintB (decide_eq_false g3)) (Obls.cons (hintB (decide_eq_false g4)) (Obls.cons (hintB (decide_eq_false g5)) (Obls.cons (hintB (decide_eq_false g6)) (Obls.cons (hintOp g7) (Obls.cons (hintOp g8) (Obls.cons (hintOp g9) (Obls.cons (hintOp g10) (Obls.cons (hintOp g11) (Obls.cons (hintOp g12) (Obls.cons (hintOp g13) (Obls.cons (hintOp g14) (Obls.cons (g15 kf) (Obls.cons (hintOp g16) (Obls.cons (hintSt g17) (Obls.cons (hintOp g18) (Obls.cons (hintSt g19) Obls.nil)))))))))))))))))))⟩
theorem cp_l_8 (n : Int) (lc : List HV) (x : Int) (rds : List HV) (m : Nat) (kn : List HV) (q : Nat) (i : Nat) (bz : List HV) (r : List HV) (j : Nat) (x0 : Int) (x1 : Int) (x2 : Int) (x3 : Int) (g0 : (j : Int) < (r.length : Int)) (g1 : idxV Try.prog 22 (.imm .arg 2 r) (.int .i64 (j : Int)) = some (.vptr (.agg [.int .i64 x0, .int .i64 x1]))) (g2 : idxV Try.prog 22 (.imm .arg 2 r) (.int .i64 (j : Int)) = some (.vptr (.agg [.int .i64 x2, .int .i64 x3]))) (g3 : ¬ (x0 < 0)) (g4 : ¬ (n ≤ x0)) (g5 : ¬ (x3 < 0)) (g6 : ¬ (n ≤ x3)) (g7 : idxV Try.prog 43 (.sl 0 0 m (some m) m 1) (.int .i64 x0) = some (.ptr 0 ((x0).toNat) 0 m)) (g8 : loadV Try.prog [.arr 1 kn true 0, .arr 1 bz true 0] 4 (.ptr 0 ((x0).toNat) 0 m) = some (.bool true)) (g9 : idxV Try.prog 43 (.sl 0 0 m (some m) m 1) (.int .i64 x3) = some (.ptr 0 ((x3).toNat) 0 m)) (g10 : loadV Try.prog [.arr 1 kn true 0, .arr 1 bz true 0] 4 (.ptr 0 ((x3).toNat) 0 m) = some (.bool false)) (g11 : idxV Try.prog 43 (.sl 1 0 m (some m) m 1) (.int .i64 x0) = some (.ptr 1 ((x0).toNat) 0 m)) (g12 : loadV Try.prog [.arr 1 kn true 0, .arr 1 bz true 0] 4 (.ptr 1 ((x0).toNat) 0 m) = some (.bool false)) (g13 : idxV Try.prog 43 (.sl 1 0 m (some m) m 1) (.int .i64 x3) = some (.ptr 1 ((x3).toNat) 0 m)) (g14 : loadV Try.prog [.arr 1 kn true 0, .arr 1 bz true 0] 4 (.ptr 1 ((x3).toNat) 0 m) = some (.bool false)) (g15 : ∀ kf, callN Try.prog polY (kf + 1) 53 [.imm .arg 2 lc, .int .i64 x0, .int .i64 x3] [.arr 1 kn true 0, .arr 1 bz true 0] = some (.bool false, [.arr 1 kn true 0, .arr 1 bz true 0])) : RunsTo Try.prog polY 30 (sub [1, 1, 1, 1, 0, 1, 0, 0, 1, 0, 0, 1, 1, 0, 1, 0, 0] B30) (env30 (.int .i64 n) (.imm .arg 2 lc) (.int .i64 x) (.imm .arg 1 rds) (.bool false) (.sl 0 0 m (some m) m 1) (.int .i64 (q : Int)) (.int .i64 (i : Int)) (.sl 1 0 m (some m) m 1) (.imm .arg 2 r) (.int .i64 (j : Int)) .undef .undef .undef) [.arr 1 kn true 0, .arr 1 bz true 0] (.ret) (polY.keys 30) (env30 (.int .i64 n) (.imm .arg 2 lc) (.int .i64 x) (.imm .arg 1 rds) (.bool false) (.sl 0 0 m (some m) m 1) (.int .i64 (q : Int)) (.int .i64 (i : Int)) (.sl 1 0 m (some m) m 1) (.imm .arg 2 r) (.int .i64 (j : Int)) (.int .i64 x0) (.int .i64 x3) .undef) [.arr 1 kn true 0, .arr 1 bz true 0] :=
  RunsTo.hint 1 60 [⟨10, 3, .bool true, [.arr 1 kn true 0, .arr 1 bz true 0]⟩, ⟨12, 2, .vptr (.agg [.int .i64 x0, .int .i64 x1]), [.arr 1 kn true 0, .arr 1 bz true 0]⟩, ⟨12, 7, .vptr (.agg [.int .i64 x2, .int .i64 x3]), [.arr 1 kn true 0, .arr 1 bz true 0]⟩, ⟨13, 1, .bool false, [.arr 1 kn true 0, .arr 1 bz true 0]⟩, ⟨13, 5, .bool false, [.arr 1 kn true 0, .arr 1 bz true 0]⟩, ⟨13, 9, .bool false, [.arr 1 kn true 0, .arr 1 bz true 0]⟩, ⟨13, 14, .bool false, [.arr 1 kn true 0, .arr 1 bz true 0]⟩, ⟨13, 19, .ptr 0 ((x0).toNat) 0 m, [.arr 1 kn true 0, .arr 1 bz true 0]⟩, ⟨13, 20, .bool true, [.arr 1 kn true 0, .arr 1 bz true 0]⟩, ⟨13, 26, .ptr 0 ((x3).toNat) 0 m, [.arr 1 kn true 0, .arr 1 bz true 0]⟩, ⟨13, 27, .bool false, [.arr 1 kn true 0, .arr 1 bz true 0]⟩, ⟨13, 32, .ptr 1 ((x0).toNat) 0 m, [.arr 1 kn true 0, .arr 1 bz true 0]⟩, ⟨13, 33, .bool false, [.arr 1 kn true 0, .arr 1 bz true 0]⟩, ⟨13, 38, .ptr 1 ((x3).toNat) 0 m, [.arr 1 kn true 0, .arr 1 bz true 0]⟩, ⟨13, 39, .bool false, [.arr 1 kn true 0, .arr 1 bz true 0]⟩, ⟨13, 45, .bool false, [.arr 1 kn true 0, .arr 1 bz true 0]⟩] fun kf hk => by
    obtain ⟨kf, rfl⟩ : ∃ n, kf = n + 1 := ⟨kf - 1, by omega⟩
    exact ⟨[some (HV.bool (decide ((j : Int) < (r.length : Int))), ([.arr 1 kn true 0, .arr 1 bz true 0] : Heap)) = some (.bool true, [.arr 1 kn true 0, .arr 1 bz true 0]), (idxV Try.prog 22 (.imm .arg 2 r) (.int .i64 (j : Int))).map (fun v => (v, ([.arr 1 kn true 0, .arr 1 bz true 0] : Heap))) = some (.vptr (.agg [.int .i64 x0, .int .i64 x1]), [.arr 1 kn true 0, .arr 1 bz true 0]), (idxV Try.prog 22 (.imm .arg 2 r) (.int .i64 (j : Int))).map (fun v => (v, ([.arr 1 kn true 0, .arr 1 bz true 0] : Heap))) = some (.vptr (.agg [.int .i64 x2, .int .i64 x3]), [.arr 1 kn true 0, .arr 1 bz true 0]), some (HV.bool (decide (x0 < 0)), ([.arr 1 kn true 0, .arr 1 bz true 0] : Heap)) = some (.bool false, [.arr 1 kn true 0, .arr 1 bz true 0]), some (HV.bool (decide (n ≤ x0)), ([.arr 1 kn true 0, .arr 1 bz true 0] : Heap)) = some (.bool false, [.arr 1 kn true 0, .arr 1 bz true 0]), some (HV.bool (decide (x3 < 0)), ([.arr 1 kn true 0, .arr 1 bz true 0] : Heap)) = some (.bool false, [.arr 1 kn true 0, .arr 1 bz true 0]), some (HV.bool (decide (n ≤ x3)), ([.arr 1 kn true 0, .arr 1 bz true 0] : Heap)) = some (.bool false, [.arr 1 kn true 0, .arr 1 bz true 0]), (idxV Try.prog 43 (.sl 0 0 m (some m) m 1) (.int .i64 x0)).map (fun v => (v, ([.arr 1 kn true 0, .arr 1 bz true 0] : Heap))) = some (.ptr 0 ((x0).toNat) 0 m, [.arr 1 kn true 0, .arr 1 bz true 0]), (loadV Try.prog [.arr 1 kn true 0, .arr 1 bz true 0] 4 (.ptr 0 ((x0).toNat) 0 m)).map (fun v => (v, ([.arr 1 kn true 0, .arr 1 bz true 0] : Heap))) = some (.bool true, [.arr 1 kn true 0, .arr 1 bz true 0]), (idxV Try.prog 43 (.sl 0 0 m (some m) m 1) (.int .i64 x3)).map (fun v => (v, ([.arr 1 kn true 0, .arr 1 bz true 0] : Heap))) = some (.ptr 0 ((x3).toNat) 0 m, [.arr 1 kn true 0, .arr 1 bz true 0]), (loadV Try.prog [.arr 1 kn true 0, .arr 1 bz true 0] 4 (.ptr 0 ((x3).toNat) 0 m)).map (fun v => (v, ([.arr 1 kn true 0, .arr 1 bz true 0] : Heap))) = some (.bool false, [.arr 1 kn true 0, .arr 1 bz true 0]), (idxV Try.prog 43 (.sl 1 0 m (some m) m 1) (.int .i64 x0)).map (fun v => (v, ([.arr 1 kn true 0, .arr 1 bz true 0] : Heap))) = some (.ptr 1 ((x0).toNat) 0 m, [.arr 1 kn true 0, .arr 1 bz true 0]), (loadV Try.prog [.arr 1 kn true 0, .arr 1 bz true 0] 4 (.ptr 1 ((x0).toNat) 0 m)).map (fun v => (v, ([.arr 1 kn true 0, .arr 1 bz true 0] : Heap))) = some (.bool false, [.arr 1 kn true 0, .arr 1 bz true 0]), (idxV Try.prog 43 (.sl 1 0 m (some m) m 1) (.int .i64 x3)).map (fun v => (v, ([.arr 1 kn true 0, .arr 1 bz true 0] : Heap))) = some (.ptr 1 ((x3).toNat) 0 m, [.arr 1 kn true 0, .arr 1 bz true 0]), (loadV Try.prog [.arr 1 kn true 0, .arr 1 bz true 0] 4 (.ptr 1 ((x3).toNat) 0 m)).map (fun v => (v, ([.arr 1 kn true 0, .arr 1 bz true 0] : Heap))) = some (.bool false, [.arr 1 kn true 0, .arr 1 bz true 0]), callN Try.prog polY (kf + 1) 53 [.imm .arg 2 lc, .int .i64 x0, .int .i64 x3] [.arr 1 kn true 0, .arr 1 bz true 0] = some (.bool false, [.arr 1 kn true 0, .arr 1 bz true 0])], by kernel_rfl, Obls.cons (hintB (decide_eq_true g0)) (Obls.cons (hintOp g1) (Obls.cons (hintOp g2) (Obls.cons (hintB (decide_eq_false g3)) (Obls.cons (hintB (decide_eq_false g4)) (Obls.cons (hintB (decide_eq_false g5)) (Obls.cons (hintB (decide_eq_false g6)) (Obls.cons (hintOp g7) (Obls.cons (hintOp g8) (Obls.cons (hintOp g9) (Obls.cons (hintOp g10) (Obls.cons (hintOp g11) (Obls.cons (hintOp g12) (Obls.cons (hintOp g13) (Obls.cons (hintOp g14) (Obls.cons (g15 kf) Obls.nil)))))))))))))))⟩
theorem cp_l_9 (n : Int) (lc : List HV) (x : Int) (rds : List HV) (m : Nat) (kn : List HV) (q : Nat) (i : Nat) (bz : List HV) (r : List HV) (j : Nat) (x0 : Int) (x1 : Int) (x2 : Int) (x3 : Int) (g0 : (j : Int) < (r.length : Int)) (g1 : idxV Try.prog 22 (.imm .arg 2 r) (.int .i64 (j : Int)) = some (.vptr (.agg [.int .i64 x0, .int .i64 x1]))) (g2 : idxV Try.prog 22 (.imm .arg 2 r) (.int .i64 (j : Int)) = some (.vptr (.agg [.int .i64 x2, .int .i64 x3]))) (g3 : ¬ (x0 < 0)) (g4 : ¬ (n ≤ x0)) (g5 : ¬ (x3 < 0)) (g6 : ¬ (n ≤ x3)) (g7 : idxV Try.prog 43 (.sl 0 0 m (some m) m 1) (.int .i64 x0) = some (.ptr 0 ((x0).toNat) 0 m)) (g8 : loadV Try.prog [.arr 1 kn true 0, .arr 1 bz true 0] 4 (.ptr 0 ((x0).toNat) 0 m) = some (.bool false)) : RunsTo Try.prog polY 30 (sub [1, 1, 1, 1, 0, 1, 0, 0, 1, 0, 0, 1, 1, 0, 1, 0, 0] B30) (env30 (.int .i64 n) (.imm .arg 2 lc) (.int .i64 x) (.imm .arg 1 rds) (.bool false) (.sl 0 0 m (some m) m 1) (.int .i64 (q : Int)) (.int .i64 (i : Int)) (.sl 1 0 m (some m) m 1) (.imm .arg 2 r) (.int .i64 (j : Int)) .undef .undef .undef) [.arr 1 kn true 0, .arr 1 bz true 0] (.ret) (polY.keys 30) (env30 (.int .i64 n) (.imm .arg 2 lc) (.int .i64 x) (.imm .arg 1 rds) (.bool false) (.sl 0 0 m (some m) m 1) (.int .i64 (q : Int)) (.int .i64 (i : Int)) (.sl 1 0 m (some m) m 1) (.imm .arg 2 r) (.int .i64 (j : Int)) (.int .i64 x0) (.int .i64 x3) .undef) [.arr 1 kn true 0, .arr 1 bz true 0] :=
  RunsTo.hint 1 60 [⟨10, 3, .bool true, [.arr 1 kn true 0, .arr 1 bz true 0]⟩, ⟨12, 2, .vptr (.agg [.int .i64 x0, .int .i64 x1]), [.arr 1 kn true 0, .arr 1 bz true 0]⟩, ⟨12, 7, .vptr (.agg [.int .i64 x2, .int .i64 x3]), [.arr 1 kn true 0, .arr 1 bz true 0]⟩, ⟨13, 1, .bool false, [.arr 1 kn true 0, .arr 1 bz true 0]⟩, ⟨13, 5, .bool false, [.arr 1 kn true 0, .arr 1 bz true 0]⟩, ⟨13, 9, .bool false, [.arr 1 kn true 0, .arr 1 bz true 0]⟩, ⟨13, 14, .bool false, [.arr 1 kn true 0, .arr 1 bz true 0]⟩, ⟨13, 19, .ptr 0 ((x0).toNat) 0 m, [.arr 1 kn true 0, .arr 1 bz true 0]⟩, ⟨13, 20, .bool false, [.arr 1 kn true 0, .arr 1 bz true 0]⟩] fun kf hk => by
    obtain ⟨kf, rfl⟩ : ∃ n, kf = n + 1 := ⟨kf - 1, by omega⟩
    exact ⟨[some (HV.bool (decide ((j : Int) < (r.length : Int))), ([.arr 1 kn true 0, .arr 1 bz true 0] : Heap)) = some (.bool true, [.arr 1 kn true 0, .arr 1 bz true 0]), (idxV Try.prog 22 (.imm .arg 2 r) (.int .i64 (j : Int))).map (fun v => (v, ([.arr 1 kn true 0, .arr 1 bz true 0] : Heap))) = some (.vptr (.agg [.int .i64 x0, .int .i64 x1]), [.arr 1 kn true 0, .arr 1 bz true 0]), (idxV Try.prog 22 (.imm .arg 2 r) (.int .i64 (j : Int))).map (fun v => (v, ([.arr 1 kn true 0, .arr 1 bz true 0] : Heap))) = some (.vptr (.agg [.int .i64 x2, .int .i64 x3]), [.arr 1 kn true 0, .arr 1 bz true 0]), some (HV.bool (decide (x0 < 0)), ([.arr 1 kn true 0, .arr 1 bz true 0] : Heap)) = some (.bool false, [.arr 1 kn true 0, .arr 1 bz true 0]), some (HV.bool (decide (n ≤ x0)), ([.arr 1 kn true 0, .arr 1 bz true 0] : Heap)) = some (.bool false, [.arr 1 kn true 0, .arr 1 bz true 0]), some (HV.bool (decide (x3 < 0)), ([.arr 1 kn true 0, .arr 1 bz true 0] : Heap)) = some (.bool false, [.arr 1 kn true 0, .arr 1 bz true 0]), some (HV.bool (decide (n ≤ x3)), ([.arr 1 kn true 0, .arr 1 bz true 0] : Heap)) = some (.bool false, [.arr 1 kn true 0, .arr 1 bz true 0]), (idxV Try.prog 43 (.sl 0 0 m (some m) m 1) (.int .i64 x0)).map (fun v => (v, ([.arr 1 kn true 0, .arr 1 bz true 0] : Heap))) = some (.ptr 0 ((x0).toNat) 0 m, [.arr 1 kn true 0, .arr 1 bz true 0]), (loadV Try.prog [.arr 1 kn true 0, .arr 1 bz true 0] 4 (.ptr 0 ((x0).toNat) 0 m)).map (fun v => (v, ([.arr 1 kn true 0, .arr 1 bz true 0] : Heap))) = some (.bool false, [.arr 1 kn true 0, .arr 1 bz true 0])], by kernel_rfl, Obls.cons (hintB (decide_eq_true g0)) (Obls.cons (hintOp g1) (Obls.cons (hintOp g2) (Obls.cons (hintB (decide_eq_false g3)) (Obls.cons (hintB (decide_eq_false g4)) (Obls.cons (hintB (decide_eq_false g5)) (Obls.cons (hintB (decide_eq_false g6)) (Obls.cons (hintOp g7) (Obls.cons (hintOp g8) Obls.nil))))))))⟩
theorem cp_l_10 (n : Int) (lc : List HV) (x : Int) (rds : List HV) (m : Nat) (kn : List HV) (q : Nat) (i : Nat) (bz : List HV) (r : List HV) (j : Nat)  (g0 : ¬ ((j : Int) < (r.length : Int))) : RunsTo Try.prog polY 30 (sub [1, 1, 1, 1, 0, 1, 0, 0, 1, 0, 0, 1, 1, 0, 1, 0, 0] B30) (env30 (.int .i64 n) (.imm .arg 2 lc) (.int .i64 x) (.imm .arg 1 rds) (.bool false) (.sl 0 0 m (some m) m 1) (.int .i64 (q : Int)) (.int .i64 (i : Int)) (.sl 1 0 m (some m) m 1) (.imm .arg 2 r) (.int .i64 (j : Int)) .undef .undef .undef) [.arr 1 kn true 0, .arr 1 bz true 0] (.exit 2) (polY.keys 30) (env30 (.int .i64 n) (.imm .arg 2 lc) (.int .i64 x) (.imm .arg 1 rds) (.bool false) (.sl 0 0 m (some m) m 1) (.int .i64 (q : Int)) (.int .i64 (i : Int)) (.sl 1 0 m (some m) m 1) (.imm .arg 2 r) (.int .i64 (j : Int)) .undef .undef .undef) [.arr 1 kn true 0, .arr 1 bz true 0] :=
  RunsTo.hint 1 60 [⟨10, 3, .bool false, [.arr 1 kn true 0, .arr 1 bz true 0]⟩] fun kf hk => by
    obtain ⟨kf, rfl⟩ : ∃ n, kf = n + 1 := ⟨kf - 1, by omega⟩
    exact ⟨[some (HV.bool (decide ((j : Int) < (r.length : Int))), ([.arr 1 kn true 0, .arr 1 bz true 0] : Heap)) = some (.bool false, [.arr 1 kn true 0, .arr 1 bz true 0])], by kernel_rfl, Obls.cons (hintB (decide_eq_false g0)) Obls.nil⟩
theorem cp_m_0 (n : Int) (lc : List HV) (x : Int) (rds : List HV) (m : Nat) (kn : List HV) (q : Nat) (i : Nat) (bz : List HV) (r : List HV) (j : Nat)   : RunsTo Try.prog polY 30 (sub [1, 1, 1, 1, 0, 1, 0, 0, 1, 0, 0, 1, 1, 1, 0] B30) (env30 (.int .i64 n) (.imm .arg 2 lc) (.int .i64 x) (.imm .arg 1 rds) (.bool false) (.sl 0 0 m (some m) m 1) (.int .i64 (q : Int)) (.int .i64 (i : Int)) (.sl 1 0 m (some m) m 1) (.imm .arg 2 r) (.int .i64 (j : Int)) .undef .undef .undef) [.arr 1 kn true 0, .arr 1 bz true 0] (.normal) (polY.keys 30) (env30 (.int .i64 n) (.imm .arg 2 lc) (.int .i64 x) (.imm .arg 1 rds) (.bool false) (.sl 0 0 m (some m) m 1) (.int .i64 (q : Int)) (.int .i64 (i : Int)) (.sl 1 0 m (some m) m 1) (.imm .arg 2 r) (.int .i64 (j : Int)) .undef .undef (.int .i64 0)) [.arr 1 kn true 0, .arr 1 bz true 0] :=
  RunsTo.hint 1 60 [] fun kf hk => by
    obtain ⟨kf, rfl⟩ : ∃ n, kf = n + 1 := ⟨kf - 1, by omega⟩
    exact ⟨[], by kernel_rfl, Obls.nil⟩
theorem cp_n_0 (n : Int) (lc : List HV) (x : Int) (rds : List HV) (m : Nat) (kn : List HV) (q : Nat) (i : Nat) (bz : List HV) (r : List HV) (j : Nat) (x0 : Int) (x1 : Int) (el0 : List HV) (g0 : (j : Int) < (r.length : Int)) (g1 : idxV Try.prog 22 (.imm .arg 2 r) (.int .i64 (j : Int)) = some (.vptr (.agg [.int .i64 x0, .int .i64 x1]))) (g2 : idxV Try.prog 43 (.sl 0 0 m (some m) m 1) (.int .i64 x1) = some (.ptr 0 ((x1).toNat) 0 m)) (g3 : storeV Try.prog [.arr 1 kn true 0, .arr 1 bz true 0] 4 (.ptr 0 ((x1).toNat) 0 m) (.bool true) = some [.arr 1 el0 true 0, .arr 1 bz true 0]) : RunsTo Try.prog polY 30 (sub [1, 1, 1, 1, 0, 1, 0, 0, 1, 0, 0, 1, 1, 1, 1, 0, 0] B30) (env30 (.int .i64 n) (.imm .arg 2 lc) (.int .i64 x) (.imm .arg 1 rds) (.bool false) (.sl 0 0 m (some m) m 1) (.int .i64 (q : Int)) (.int .i64 (i : Int)) .undef (.imm .arg 2 r) .undef .undef .undef (.int .i64 (j : Int))) [.arr 1 kn true 0, .arr 1 bz true 0] (.normal) (polY.keys 30) (env30 (.int .i64 n) (.imm .arg 2 lc) (.int .i64 x) (.imm .arg 1 rds) (.bool false) (.sl 0 0 m (some m) m 1) (.int .i64 (IntKind.i64.wrap ((q : Int) + 1))) (.int .i64 (i : Int)) .undef (.imm .arg 2 r) .undef .undef .undef (.int .i64 (IntKind.i64.wrap ((j : Int) + 1)))) [.arr 1 el0 true 0, .arr 1 bz true 0] :=
  RunsTo.hint 1 60 [⟨18, 3, .bool true, [.arr 1 kn true 0, .arr 1 bz true 0]⟩, ⟨20, 3, .vptr (.agg [.int .i64 x0, .int .i64 x1]), [.arr 1 kn true 0, .arr 1 bz true 0]⟩, ⟨20, 6, .ptr 0 ((x1).toNat) 0 m, [.arr 1 kn true 0, .arr 1 bz true 0]⟩, ⟨20, 7, .tuple [], [.arr 1 el0 true 0, .arr 1 bz true 0]⟩] fun kf hk => by
    obtain ⟨kf, rfl⟩ : ∃ n, kf = n + 1 := ⟨kf - 1, by omega⟩
    exact ⟨[some (HV.bool (decide ((j : Int) < (r.length : Int))), ([.arr 1 kn true 0, .arr 1 bz true 0] : Heap)) = some (.bool true, [.arr 1 kn true 0, .arr 1 bz true 0]), (idxV Try.prog 22 (.imm .arg 2 r) (.int .i64 (j : Int))).map (fun v => (v, ([.arr 1 kn true 0, .arr 1 bz true 0] : Heap))) = some (.vptr (.agg [.int .i64 x0, .int .i64 x1]), [.arr 1 kn true 0, .arr 1 bz true 0]), (idxV Try.prog 43 (.sl 0 0 m (some m) m 1) (.int .i64 x1)).map (fun v => (v, ([.arr 1 kn true 0, .arr 1 bz true 0] : Heap))) = some (.ptr 0 ((x1).toNat) 0 m, [.arr 1 kn true 0, .arr 1 bz true 0]), (storeV Try.prog [.arr 1 kn true 0, .arr 1 bz true 0] 4 (.ptr 0 ((x1).toNat) 0 m) (.bool true)).map (fun H => (HV.tuple [], H)) = some (.tuple [], [.arr 1 el0 true 0, .arr 1 bz true 0])], by kernel_rfl, Obls.cons (hintB (decide_eq_true g0)) (Obls.cons (hintOp g1) (Obls.cons (hintOp g2) (Obls.cons (hintSt g3) Obls.nil)))⟩
theorem cp_n_1 (n : Int) (lc : List HV) (x : Int) (rds : List HV) (m : Nat) (kn : List HV) (q : Nat) (i : Nat) (bz : List HV) (r : List HV) (j : Nat)  (g0 : ¬ ((j : Int) < (r.length : Int))) : RunsTo Try.prog polY 30 (sub [1, 1, 1, 1, 0, 1, 0, 0, 1, 0, 0, 1, 1, 1, 1, 0, 0] B30) (env30 (.int .i64 n) (.imm .arg 2 lc) (.int .i64 x) (.imm .arg 1 rds) (.bool false) (.sl 0 0 m (some m) m 1) (.int .i64 (q : Int)) (.int .i64 (i : Int)) .undef (.imm .arg 2 r) .undef .undef .undef (.int .i64 (j : Int))) [.arr 1 kn true 0, .arr 1 bz true 0] (.exit 4) (polY.keys 30) (env30 (.int .i64 n) (.imm .arg 2 lc) (.int .i64 x) (.imm .arg 1 rds) (.bool false) (.sl 0 0 m (some m) m 1) (.int .i64 (q : Int)) (.int .i64 (i : Int)) .undef (.imm .arg 2 r) .undef .undef .undef (.int .i64 (j : Int))) [.arr 1 kn true 0, .arr 1 bz true 0] :=
  RunsTo.hint 1 60 [⟨18, 3, .bool false, [.arr 1 kn true 0, .arr 1 bz true 0]⟩] fun kf hk => by
    obtain ⟨kf, rfl⟩ : ∃ n, kf = n + 1 := ⟨kf - 1, by omega⟩
    exact ⟨[some (HV.bool (decide ((j : Int) < (r.length : Int))), ([.arr 1 kn true 0, .arr 1 bz true 0] : Heap)) = some (.bool false, [.arr 1 kn true 0, .arr 1 bz true 0])], by kernel_rfl, Obls.cons (hintB (decide_eq_false g0)) Obls.nil⟩
theorem cp_o_0 (n : Int) (lc : List HV) (x : Int) (rds : List HV) (m : Nat) (kn : List HV) (q : Nat) (i : Nat) (bz : List HV) (r : List HV) (j : Nat)   : RunsTo Try.prog polY 30 (sub [1, 1, 1, 1, 0, 1, 0, 0, 1, 1] B30) (env30 (.int .i64 n) (.imm .arg 2 lc) (.int .i64 x) (.imm .arg 1 rds) (.bool false) (.sl 0 0 m (some m) m 1) (.int .i64 (q : Int)) (.int .i64 (i : Int)) .undef (.imm .arg 2 r) .undef .undef .undef (.int .i64 (j : Int))) [.arr 1 kn true 0, .arr 1 bz true 0] (.normal) (polY.keys 30) (env30 (.int .i64 n) (.imm .arg 2 lc) (.int .i64 x) (.imm .arg 1 rds) (.bool false) (.sl 0 0 m (some m) m 1) (.int .i64 (q : Int)) (.int .i64 (IntKind.i64.wrap ((i : Int) + 1))) .undef (.imm .arg 2 r) .undef .undef .undef (.int .i64 (j : Int))) [.arr 1 kn true 0, .arr 1 bz true 0] :=
  RunsTo.hint 1 60 [] fun kf hk => by
    obtain ⟨kf, rfl⟩ : ∃ n, kf = n + 1 := ⟨kf - 1, by omega⟩
    exact ⟨[], by kernel_rfl, Obls.nil⟩
theorem cp_z_0 (n : Int) (lc : List HV) (x : Int) (rds : List HV) (m : Nat) (kn : List HV) (q : Nat) (i : Nat)  (g0 : (q : Int) = n) : RunsTo Try.prog polY 30 (sub [1, 1, 1, 1, 1] B30) (env30 (.int .i64 n) (.imm .arg 2 lc) (.int .i64 x) (.imm .arg 1 rds) (.bool false) (.sl 0 0 m (some m) m 1) (.int .i64 (q : Int)) (.int .i64 (i : Int)) .undef .undef .undef .undef .undef .undef) [.arr 1 kn true 0] (.ret) (polY.keys 30) (env30 (.int .i64 n) (.imm .arg 2 lc) (.int .i64 x) (.imm .arg 1 rds) (.bool true) (.sl 0 0 m (some m) m 1) (.int .i64 (q : Int)) (.int .i64 (i : Int)) .undef .undef .undef .undef .undef .undef) [.arr 1 kn true 0] :=
  RunsTo.hint 1 60 [⟨22, 2, .bool true, [.arr 1 kn true 0]⟩] fun kf hk => by
    obtain ⟨kf, rfl⟩ : ∃ n, kf = n + 1 := ⟨kf - 1, by omega⟩
    exact ⟨[some (HV.bool (decide ((q : Int) = n)), ([.arr 1 kn true 0] : Heap)) = some (.bool true, [.arr 1 kn true 0])], by kernel_rfl, Obls.cons (hintB (decide_eq_true g0)) Obls.nil⟩
theorem cp_z_1 (n : Int) (lc : List HV) (x : Int) (rds : List HV) (m : Nat) (kn : List HV) (q : Nat) (i : Nat)  (g0 : ¬ ((q : Int) = n)) : RunsTo Try.prog polY 30 (sub [1, 1, 1, 1, 1] B30) (env30 (.int .i64 n) (.imm .arg 2 lc) (.int .i64 x) (.imm .arg 1 rds) (.bool false) (.sl 0 0 m (some m) m 1) (.int .i64 (q : Int)) (.int .i64 (i : Int)) .undef .undef .undef .undef .undef .undef) [.arr 1 kn true 0] (.ret) (polY.keys 30) (env30 (.int .i64 n) (.imm .arg 2 lc) (.int .i64 x) (.imm .arg 1 rds) (.bool false) (.sl 0 0 m (some m) m 1) (.int .i64 (q : Int)) (.int .i64 (i : Int)) .undef .undef .undef .undef .undef .undef) [.arr 1 kn true 0] :=
  RunsTo.hint 1 60 [⟨22, 2, .bool false, [.arr 1 kn true 0]⟩] fun kf hk => by
    obtain ⟨kf, rfl⟩ : ∃ n, kf = n + 1 := ⟨kf - 1, by omega⟩
    exact ⟨[some (HV.bool (decide ((q : Int) = n)), ([.arr 1 kn true 0] : Heap)) = some (.bool false, [.arr 1 kn true 0])], by kernel_rfl, Obls.cons (hintB (decide_eq_false g0)) Obls.nil⟩
end Go.Proofs.Ytmhfkhlamnapdaa
end
section
open Go Go.HL
namespace Go.Proofs.Ytmhfkhlamnapdaa
def inR (m : Nat) (v : Int) : Bool := decide (0 ≤ v ∧ v < (m : Int))
def nrR (m : Nat) (l : List (Int × Int)) (a b : Int) : Bool := inR m a && (inR m b && l.any (isNear a b))
structure MB (m : Nat) (K : List Bool) (s : List Int) : Prop where
  len : K.length = m
  eq : ∀ y, y < m → (bitAt K y = true ↔ (y : Int) ∈ s)
theorem ins_mem {x y : Int} {s : List Int} : y ∈ ins x s ↔ y = x ∨ y ∈ s := by
  unfold ins
  split
  · rename_i h
    constructor
    · exact .inr
    · rintro (rfl | h2)
      · exact h
      · exact h2
  · simp [or_comm]
theorem MB.set {m : Nat} {K : List Bool} {s : List Int} (h : MB m K s) {y : Nat} (hy : y < m) : MB m (K.set y true) (ins (y : Int) s) := by
  refine ⟨by simp [h.len], fun z hz => ?_⟩
  rw [bitAt_set _ _ _ _ (by rw [h.len]; exact hy), ins_mem]
  by_cases e : y = z
  · subst e; simp
  · rw [if_neg e, h.eq z hz]
    constructor
    · exact .inr
    · rintro (h1 | h1)
      · omega
      · exact h1
theorem MB.init (m : Nat) : MB m (List.replicate m false) [] := by
  refine ⟨by simp, fun y hy => ?_⟩
  have : bitAt (List.replicate m false) y = false := by
    unfold bitAt
    rw [List.getElem?_replicate]
    split <;> rfl
  rw [this]; simp
theorem z4c : tySize Try.prog 4 = some 1 := by kernel_rfl
theorem a4c : tyAgg Try.prog 4 = false := by kernel_rfl
theorem i4c : (Try.prog.underlying 4).isSome = true := by kernel_rfl
theorem u43c : Try.prog.underlying 43 = some (.slice 4) := by kernel_rfl
theorem load_b {H : Heap} {k : Nat} {K : List Bool} {m : Nat} (hm : K.length = m) (h : H[k]? = some (bF K)) {y : Nat} (hy : y < m) : loadV Try.prog H 4 (.ptr k y 0 m) = some (.bool (bitAt K y)) := by
  subst hm
  exact load_elem (b := k) h (by simp) (by rw [List.getElem?_map, List.getElem?_eq_getElem hy]; simp [bitAt, List.getElem?_eq_getElem hy]) rfl a4c i4c
theorem store_b {H : Heap} {k : Nat} {K : List Bool} {m : Nat} (hm : K.length = m) (h : H[k]? = some (bF K)) {y : Nat} (hy : y < m) (v : Bool) : storeV Try.prog H 4 (.ptr k y 0 m) (.bool v) = some (H.set k (bF (K.set y v))) := by
  subst hm
  have hi : (K.map HV.bool)[y]? = some (.bool K[y]) := by rw [List.getElem?_map, List.getElem?_eq_getElem hy]; rfl
  have := store_elem (P := Try.prog) (t := 4) (b := k) (tot := K.length) (v := .bool v) h (by simp) hi rfl (by intro cs h; cases h) z4c rfl rfl (by simp [bnd])
  rw [this]
  rw [bF, List.map_set]
theorem nb_false {b : Bool} (h : ¬ b = true) : b = false := by cases b <;> simp_all
abbrev cpE (m : Nat) (lc : List HV) (x : Int) (rds : List HV) (q : Nat) (v11 v12 v13 v14 v15 v16 v17 : HV) : Env :=
  env30 (.int .i64 (m : Int)) (.imm .arg 2 lc) (.int .i64 x) (.imm .arg 1 rds) (.bool false) (.sl 0 0 m (some m) m 1) (.int .i64 (q : Int)) v11 v12 v13 v14 v15 v16 v17
theorem y53 (l : List (Int × Int)) (hl : l.length ≤ 1000) (a b : Int) (t : Bool) (ht : l.any (isNear a b) = t) (H : Heap) : ∀ kf, callN Try.prog polY (kf + 1) 53 [.imm .arg 2 (l.map encP), .int .i64 a, .int .i64 b] H = some (.bool t, H) := fun kf => by
  rw [prim_call (pol := polY) (g := 53) (F := near53) (by kernel_rfl) (rs := [.imm .arg 2 (l.map encP), .int .i64 a, .int .i64 b]) (by simp only [mapO, arg_pairs']; rfl) (res := .bool t) (by simp only [near53, mapO_map decP_enc]; rw [if_pos hl, ht])]; rfl
theorem cp_calls (m : Nat) (hm : m ≤ 1000) (l : List (Int × Int)) (hl : l.length ≤ 1000) (x : Int) (rds : List HV) (q i : Nat) (K : List Bool) (kn : List Int) (hK : MB m K kn) (r : List (Int × Int)) (hr : r.length ≤ 1000) : ∀ (d j : Nat) (Z : List Bool) (bz : List Int), j + d = r.length → MB m Z bz →
    ∃ X E H', RunsTo Try.prog polY 30 (sub [1, 1, 1, 1, 0, 1, 0, 0, 1, 0, 0, 1, 1, 0, 1, 0] B30) (cpE m (l.map encP) x rds q (.int .i64 (i : Int)) (.sl 1 0 m (some m) m 1) (.imm .arg 2 (r.map encP)) (.int .i64 (j : Int)) .undef .undef .undef) [bF K, bF Z] X (polY.keys 30) E H' ∧
      ((rdGo (nrR m l) kn (r.drop j) bz = true ∧ X = .exit 2 ∧ ∃ Z', E = cpE m (l.map encP) x rds q (.int .i64 (i : Int)) (.sl 1 0 m (some m) m 1) (.imm .arg 2 (r.map encP)) (.int .i64 (r.length : Int)) .undef .undef .undef ∧ H' = [bF K, bF Z']) ∨
       (rdGo (nrR m l) kn (r.drop j) bz = false ∧ X = .ret ∧ E.get 8 = .bool false)) := by
  intro d
  induction d with
  | zero =>
    intro j Z bz hj hZ
    have hj : j = r.length := by omega
    subst hj
    have s1 := cp_l_10 (m : Int) (l.map encP) x rds m (K.map .bool) q i (Z.map .bool) (r.map encP) r.length (by simp)
    exact ⟨_, _, _, RunsTo.loop_out s1 (by simp) (by kernel_rfl) (by kernel_rfl), .inl ⟨by simp [rdGo], rfl, Z, rfl, rfl⟩⟩
  | succ d ih =>
    intro j Z bz hj hZ
    have hjl : j < r.length := by omega
    rw [List.drop_eq_getElem_cons hjl, rdGo]
    generalize hp : r[j] = p
    obtain ⟨a, b⟩ := p
    have g0 : (j : Int) < ((r.map encP).length : Int) := by simp; omega
    have g1 : idxV Try.prog 22 (.imm .arg 2 (r.map encP)) (.int .i64 (j : Int)) = some (.vptr (.agg [.int .i64 a, .int .i64 b])) := idx_imm u22 z33 (by omega) (by rw [Int.toNat_natCast, List.getElem?_map, List.getElem?_eq_getElem hjl, hp]; rfl)
    have bad : ∀ E, RunsTo Try.prog polY 30 (sub [1, 1, 1, 1, 0, 1, 0, 0, 1, 0, 0, 1, 1, 0, 1, 0, 0] B30) (cpE m (l.map encP) x rds q (.int .i64 (i : Int)) (.sl 1 0 m (some m) m 1) (.imm .arg 2 (r.map encP)) (.int .i64 (j : Int)) .undef .undef .undef) [bF K, bF Z] .ret (polY.keys 30) E [bF K, bF Z] → E.get 8 = .bool false → okC (nrR m l) kn bz (a, b) = false → _ := fun E t hE hf =>
      (⟨_, E, _, RunsTo.loop_out t (by simp) (by kernel_rfl) (by kernel_rfl), .inr ⟨by rw [hf, Bool.false_and], rfl, hE⟩⟩ : ∃ X E H', RunsTo Try.prog polY 30 (sub [1, 1, 1, 1, 0, 1, 0, 0, 1, 0, 0, 1, 1, 0, 1, 0] B30) (cpE m (l.map encP) x rds q (.int .i64 (i : Int)) (.sl 1 0 m (some m) m 1) (.imm .arg 2 (r.map encP)) (.int .i64 (j : Int)) .undef .undef .undef) [bF K, bF Z] X (polY.keys 30) E H' ∧
      ((((okC (nrR m l) kn bz (a, b) && rdGo (nrR m l) kn (r.drop (j + 1)) (ins (a, b).2 (ins (a, b).1 bz))) = true) ∧ X = .exit 2 ∧ ∃ Z', E = cpE m (l.map encP) x rds q (.int .i64 (i : Int)) (.sl 1 0 m (some m) m 1) (.imm .arg 2 (r.map encP)) (.int .i64 (r.length : Int)) .undef .undef .undef ∧ H' = [bF K, bF Z']) ∨
       (((okC (nrR m l) kn bz (a, b) && rdGo (nrR m l) kn (r.drop (j + 1)) (ins (a, b).2 (ins (a, b).1 bz))) = false) ∧ X = .ret ∧ E.get 8 = .bool false)))
    by_cases c1 : a < 0
    · exact bad _ (cp_l_0 (m : Int) (l.map encP) x rds m (K.map .bool) q i (Z.map .bool) (r.map encP) j a b a b g0 g1 g1 c1) rfl (by simp [okC, nrR, inR]; omega)
    · by_cases c2 : (m : Int) ≤ a
      · exact bad _ (cp_l_1 (m : Int) (l.map encP) x rds m (K.map .bool) q i (Z.map .bool) (r.map encP) j a b a b g0 g1 g1 c1 c2) rfl (by simp [okC, nrR, inR]; omega)
      · by_cases c3 : b < 0
        · exact bad _ (cp_l_2 (m : Int) (l.map encP) x rds m (K.map .bool) q i (Z.map .bool) (r.map encP) j a b a b g0 g1 g1 c1 c2 c3) rfl (by simp [okC, nrR, inR]; omega)
        · by_cases c4 : (m : Int) ≤ b
          · exact bad _ (cp_l_3 (m : Int) (l.map encP) x rds m (K.map .bool) q i (Z.map .bool) (r.map encP) j a b a b g0 g1 g1 c1 c2 c3 c4) rfl (by simp [okC, nrR, inR]; omega)
          · obtain ⟨u, rfl⟩ : ∃ u : Nat, a = (u : Int) := ⟨a.toNat, by omega⟩
            obtain ⟨v, rfl⟩ : ∃ v : Nat, b = (v : Int) := ⟨b.toNat, by omega⟩
            have hu : u < m := by omega
            have hv : v < m := by omega
            have ix : ∀ (k w : Nat), w < m → idxV Try.prog 43 (.sl k 0 m (some m) m 1) (.int .i64 ((w : Nat) : Int)) = some (.ptr k (((w : Nat) : Int).toNat) 0 m) := fun k w hw => idx_sl u43c z4c (by omega) (by omega)
            have lk : ∀ w, w < m → loadV Try.prog [bF K, bF Z] 4 (.ptr 0 (((w : Nat) : Int).toNat) 0 m) = some (.bool (bitAt K w)) := fun w hw => by rw [Int.toNat_natCast]; exact load_b hK.len rfl hw
            have lz : ∀ w, w < m → loadV Try.prog [bF K, bF Z] 4 (.ptr 1 (((w : Nat) : Int).toNat) 0 m) = some (.bool (bitAt Z w)) := fun w hw => by rw [Int.toNat_natCast]; exact load_b hZ.len rfl hw
            have k1 := lk u hu
            by_cases d1 : (u : Int) ∈ kn
            · rw [(hK.eq u hu).2 d1] at k1
              have k2 := lk v hv
              by_cases d2 : (v : Int) ∈ kn
              · rw [(hK.eq v hv).2 d2] at k2
                exact bad _ (cp_l_4 (m : Int) (l.map encP) x rds m (K.map .bool) q i (Z.map .bool) (r.map encP) j u v u v g0 g1 g1 c1 c2 c3 c4 (ix 0 u hu) k1 (ix 0 v hv) k2) rfl (by simp [okC, d2])
              · rw [nb_false (fun h => d2 ((hK.eq v hv).1 h))] at k2
                have z1 := lz u hu
                by_cases d3 : (u : Int) ∈ bz
                · rw [(hZ.eq u hu).2 d3] at z1
                  exact bad _ (cp_l_5 (m : Int) (l.map encP) x rds m (K.map .bool) q i (Z.map .bool) (r.map encP) j u v u v g0 g1 g1 c1 c2 c3 c4 (ix 0 u hu) k1 (ix 0 v hv) k2 (ix 1 u hu) z1) rfl (by simp [okC, d3])
                · rw [nb_false (fun h => d3 ((hZ.eq u hu).1 h))] at z1
                  have z2 := lz v hv
                  by_cases d4 : (v : Int) ∈ bz
                  · rw [(hZ.eq v hv).2 d4] at z2
                    exact bad _ (cp_l_6 (m : Int) (l.map encP) x rds m (K.map .bool) q i (Z.map .bool) (r.map encP) j u v u v g0 g1 g1 c1 c2 c3 c4 (ix 0 u hu) k1 (ix 0 v hv) k2 (ix 1 u hu) z1 (ix 1 v hv) z2) rfl (by simp [okC, d4])
                  · rw [nb_false (fun h => d4 ((hZ.eq v hv).1 h))] at z2
                    by_cases d5 : l.any (isNear (u : Int) (v : Int)) = true
                    · have hin : ∀ w, w < m → inR m ((w : Nat) : Int) = true := fun w hw => decide_eq_true ⟨by omega, by omega⟩
                      have hok : okC (nrR m l) kn bz ((u : Int), (v : Int)) = true := by
                        simp only [okC, nrR, hin u hu, hin v hv, d5, decide_eq_true d1, decide_eq_true d2, decide_eq_true d3, decide_eq_true d4, Bool.and_self]
                      rw [hok, Bool.true_and]
                      have st1 := store_b (H := [bF K, bF Z]) (k := 1) hZ.len rfl hu true
                      have hZ1 := hZ.set hu
                      have st2 := store_b (H := [bF K, bF (Z.set u true)]) (k := 1) hZ1.len rfl hv true
                      have hZ2 := hZ1.set hv
                      have s1 := cp_l_7 (m : Int) (l.map encP) x rds m (K.map .bool) q i (Z.map .bool) (r.map encP) j u v u v _ _ g0 g1 g1 c1 c2 c3 c4 (ix 0 u hu) k1 (ix 0 v hv) k2 (ix 1 u hu) z1 (ix 1 v hv) z2 (y53 l hl _ _ true d5 _) (ix 1 u hu) (by rw [Int.toNat_natCast]; exact st1) (ix 1 v hv) (by rw [Int.toNat_natCast]; exact st2)
                      rw [wrap_succ (by omega)] at s1
                      obtain ⟨X, E, H', r2, h2⟩ := ih (j + 1) ((Z.set u true).set v true) (ins (v : Int) (ins (u : Int) bz)) (by omega) hZ2
                      exact ⟨X, E, H', RunsTo.loop s1 (by kernel_rfl) (gc_same (by simp)) r2 rfl (by kernel_rfl) (by kernel_rfl), h2⟩
                    · exact bad _ (cp_l_8 (m : Int) (l.map encP) x rds m (K.map .bool) q i (Z.map .bool) (r.map encP) j u v u v g0 g1 g1 c1 c2 c3 c4 (ix 0 u hu) k1 (ix 0 v hv) k2 (ix 1 u hu) z1 (ix 1 v hv) z2 (y53 l hl _ _ false (nb_false d5) _)) rfl (by simp only [okC, nrR, nb_false d5, Bool.and_false, Bool.false_and])
            · rw [nb_false (fun h => d1 ((hK.eq u hu).1 h))] at k1
              exact bad _ (cp_l_9 (m : Int) (l.map encP) x rds m (K.map .bool) q i (Z.map .bool) (r.map encP) j u v u v g0 g1 g1 c1 c2 c3 c4 (ix 0 u hu) k1) rfl (by simp [okC, d1])
end Go.Proofs.Ytmhfkhlamnapdaa
end
section
open Go Go.HL
namespace Go.Proofs.Ytmhfkhlamnapdaa
/-- In a round that is good all who are called are new. -/
theorem rd_fresh (nr : Int → Int → Bool) (kn : List Int) : ∀ (l : List (Int × Int)) (bz : List Int), rdGo nr kn l bz = true → (l.map (·.2)).Nodup ∧ ∀ p ∈ l, p.2 ∉ kn ∧ p.2 ∉ bz ∧ nr p.1 p.2 = true
  | [], _, _ => by simp
  | p :: l, bz, h => by
    rw [rdGo, Bool.and_eq_true] at h
    obtain ⟨h1, h2⟩ := h
    obtain ⟨h3, h4⟩ := rd_fresh nr kn l _ h2
    simp only [okC, Bool.and_eq_true, decide_eq_true_eq] at h1
    refine ⟨?_, fun q hq => ?_⟩
    · rw [List.map_cons, List.nodup_cons]
      refine ⟨fun hm => ?_, h3⟩
      obtain ⟨q, hq, e⟩ := List.mem_map.1 hm
      have := (h4 q hq).2.1
      apply this
      rw [ins_mem]
      exact .inl e
    · rcases List.mem_cons.1 hq with rfl | hq
      · exact ⟨h1.2.2.1, h1.2.2.2.2, h1.1⟩
      · have := h4 q hq
        refine ⟨this.1, fun hm => this.2.1 ?_, this.2.2⟩
        rw [ins_mem, ins_mem]
        exact .inr (.inr hm)
theorem learn_len : ∀ (l : List (Int × Int)) (kn : List Int), (l.map (·.2)).Nodup → (∀ p ∈ l, p.2 ∉ kn) → (learn l kn).length = kn.length + l.length
  | [], kn, _, _ => by simp [learn]
  | p :: l, kn, hn, h => by
    rw [List.map_cons, List.nodup_cons] at hn
    have e : learn (p :: l) kn = learn l (ins p.2 kn) := rfl
    have e2 : ins p.2 kn = kn ++ [p.2] := if_neg (h p (by simp))
    rw [e, e2, learn_len l _ hn.2 (fun q hq hm => by
      rcases List.mem_append.1 hm with hm | hm
      · exact h q (by simp [hq]) hm
      · rw [List.mem_singleton] at hm
        exact hn.1 (List.mem_map.2 ⟨q, hq, hm⟩))]
    simp; omega
structure KI (m : Nat) (kn : List Int) : Prop where
  nodup : kn.Nodup
  lt : ∀ v ∈ kn, 0 ≤ v ∧ v < (m : Int)
theorem KI.len {m : Nat} {kn : List Int} (h : KI m kn) : kn.length ≤ m := by
  have := nodup_lt_len (n := m) (l := kn.map Int.toNat) (by
    have : ∀ (l : List Int), l.Nodup → (∀ v ∈ l, 0 ≤ v) → (l.map Int.toNat).Nodup := by
      intro l
      induction l with
      | nil => simp
      | cons a l ih =>
        intro hn hp
        rw [List.nodup_cons] at hn
        rw [List.map_cons, List.nodup_cons]
        refine ⟨fun hm => ?_, ih hn.2 (fun v hv => hp v (by simp [hv]))⟩
        obtain ⟨b, hb, e⟩ := List.mem_map.1 hm
        have h1 := hp a (by simp)
        have h2 := hp b (by simp [hb])
        have : b = a := by omega
        exact hn.1 (by rw [← this]; exact hb)
    exact this kn h.nodup (fun v hv => (h.lt v hv).1)) (fun y hy => by
      obtain ⟨v, hv, rfl⟩ := List.mem_map.1 hy
      have := h.lt v hv
      omega)
  rw [List.length_map] at this
  exact this
theorem KI.ins {m : Nat} {kn : List Int} (h : KI m kn) {v : Int} (hv : 0 ≤ v ∧ v < (m : Int)) : KI m (ins v kn) := by
  unfold Proofs.Ytmhfkhlamnapdaa.ins
  split
  · exact h
  · rename_i hn
    refine ⟨?_, fun w hw => ?_⟩
    · rw [List.nodup_append]
      refine ⟨h.nodup, by simp, fun a ha b hb => ?_⟩
      rw [List.mem_singleton] at hb
      rw [hb]; exact fun e => hn (by rw [← e]; exact ha)
    · rcases List.mem_append.1 hw with hw | hw
      · exact h.lt w hw
      · rw [List.mem_singleton] at hw; rw [hw]; exact hv
theorem KI.learn {m : Nat} : ∀ (l : List (Int × Int)) (kn : List Int), KI m kn → (∀ p ∈ l, 0 ≤ p.2 ∧ p.2 < (m : Int)) → KI m (learn l kn)
  | [], _, h, _ => h
  | p :: l, kn, h, hl => KI.learn l _ (h.ins (hl p (by simp))) (fun q hq => hl q (by simp [hq]))
theorem nrR_in {m : Nat} {l : List (Int × Int)} {a b : Int} (h : nrR m l a b = true) : 0 ≤ b ∧ b < (m : Int) := by
  simp only [nrR, inR, Bool.and_eq_true, decide_eq_true_eq] at h
  exact h.2.1
theorem cp_learn (m : Nat) (hm : m ≤ 1000) (lc : List HV) (x : Int) (rds : List HV) (i : Nat) (Z : List HV) (r : List (Int × Int)) (hr : r.length ≤ 1000) (hin : ∀ p ∈ r, 0 ≤ p.2 ∧ p.2 < (m : Int)) : ∀ (d j q : Nat) (K : List Bool) (kn : List Int), j + d = r.length → q + d ≤ 1000000 → MB m K kn →
    ∃ K', RunsTo Try.prog polY 30 (sub [1, 1, 1, 1, 0, 1, 0, 0, 1, 0, 0, 1, 1, 1, 1, 0] B30) (cpE m lc x rds q (.int .i64 (i : Int)) .undef (.imm .arg 2 (r.map encP)) .undef .undef .undef (.int .i64 (j : Int))) [bF K, .arr 1 Z true 0]
      (.exit 4) (polY.keys 30) (cpE m lc x rds (q + d) (.int .i64 (i : Int)) .undef (.imm .arg 2 (r.map encP)) .undef .undef .undef (.int .i64 (r.length : Int))) [bF K', .arr 1 Z true 0] ∧ MB m K' (learn (r.drop j) kn) := by
  intro d
  induction d with
  | zero =>
    intro j q K kn hj _ hK
    have hj : j = r.length := by omega
    subst hj
    have s1 := cp_n_1 (m : Int) lc x rds m (K.map .bool) q i Z (r.map encP) r.length (by simp)
    exact ⟨K, RunsTo.loop_out s1 (by simp) (by kernel_rfl) (by kernel_rfl), by simpa [learn] using hK⟩
  | succ d ih =>
    intro j q K kn hj hq hK
    have hjl : j < r.length := by omega
    have hb := hin _ (List.getElem_mem hjl)
    rw [List.drop_eq_getElem_cons hjl]
    generalize hp : r[j] = p at hb
    obtain ⟨a, b⟩ := p
    obtain ⟨v, rfl⟩ : ∃ v : Nat, b = (v : Int) := ⟨b.toNat, by omega⟩
    have hv : v < m := by omega
    have g0 : (j : Int) < ((r.map encP).length : Int) := by simp; omega
    have g1 : idxV Try.prog 22 (.imm .arg 2 (r.map encP)) (.int .i64 (j : Int)) = some (.vptr (.agg [.int .i64 a, .int .i64 (v : Int)])) := idx_imm u22 z33 (by omega) (by rw [Int.toNat_natCast, List.getElem?_map, List.getElem?_eq_getElem hjl, hp]; rfl)
    have st := store_b (H := [bF K, .arr 1 Z true 0]) (k := 0) hK.len rfl hv true
    have s1 := cp_n_0 (m : Int) lc x rds m (K.map .bool) q i Z (r.map encP) j a (v : Int) _ g0 g1 (idx_sl u43c z4c (by omega) (by omega)) (by rw [Int.toNat_natCast]; exact st)
    rw [wrap_succ (by omega), wrap_succ (by omega)] at s1
    obtain ⟨K', r2, h2⟩ := ih (j + 1) (q + 1) (K.set v true) (ins (v : Int) kn) (by omega) (by omega) (hK.set hv)
    have e : q + 1 + d = q + (d + 1) := by omega
    rw [e] at r2
    exact ⟨K', RunsTo.loop s1 (by kernel_rfl) (gc_same (by simp)) r2 rfl (by kernel_rfl) (by kernel_rfl), h2⟩
theorem cp_rounds (m : Nat) (hm : m ≤ 1000) (l : List (Int × Int)) (hl : l.length ≤ 1000) (x : Int) (R : List (List (Int × Int))) (hR : R.length ≤ 1000) (hRr : ∀ r ∈ R, r.length ≤ 1000) : ∀ (d i : Nat) (K : List Bool) (kn : List Int), i + d = R.length → MB m K kn → KI m kn →
    ∃ X E H', RunsTo Try.prog polY 30 (sub [1, 1, 1, 1, 0, 1, 0] B30) (cpE m (l.map encP) x (R.map encRd) kn.length (.int .i64 (i : Int)) .undef .undef .undef .undef .undef .undef) [bF K] X (polY.keys 30) E H' ∧
      ((∃ kn' K', ckGo (nrR m l) (R.drop i) kn = some kn' ∧ KI m kn' ∧ X = .exit 0 ∧ E = cpE m (l.map encP) x (R.map encRd) kn'.length (.int .i64 (R.length : Int)) .undef .undef .undef .undef .undef .undef ∧ H' = [bF K']) ∨
       (ckGo (nrR m l) (R.drop i) kn = none ∧ X = .ret ∧ E.get 8 = .bool false)) := by
  intro d
  induction d with
  | zero =>
    intro i K kn hi hK hI
    have hi : i = R.length := by omega
    subst hi
    have s1 := cp_f_1 (m : Int) (l.map encP) x (R.map encRd) m (K.map .bool) kn.length R.length (by simp)
    exact ⟨_, _, _, RunsTo.loop_out (RunsTo.seq_out s1 (by simp) (c := sub [1, 1, 1, 1, 0, 1, 0, 0] B30) (b := sub [1, 1, 1, 1, 0, 1, 0, 0, 1] B30) (by kernel_rfl)) (by simp) (by kernel_rfl) (by kernel_rfl), .inl ⟨kn, K, by simp [ckGo], hI, rfl, rfl, rfl⟩⟩
  | succ d ih =>
    intro i K kn hi hK hI
    have hil : i < R.length := by omega
    rw [List.drop_eq_getElem_cons hil, ckGo]
    have hrl := hRr _ (List.getElem_mem hil)
    generalize hr : R[i] = r at hrl
    have hkl := hI.len
    have f1 := cp_f_0 (m : Int) (l.map encP) x (R.map encRd) m (K.map .bool) kn.length i (by simp; omega)
    have hmk := makeV_ok (P := Try.prog) (H := [bF K]) (t := 43) (n := (m : Int)) u43f info4f rfl rfl (by omega) (by omega) (by rw [show roomMax = 70368744177664 from rfl]; omega)
    rw [Int.toNat_natCast] at hmk
    have g1 := cp_g_0 (m : Int) (l.map encP) x (R.map encRd) m (K.map .bool) kn.length i hmk
    have h1 := cp_h_0 (m : Int) (l.map encP) x (R.map encRd) m (K.map .bool) kn.length i (List.replicate m (.bool false)) (r.map encP) (idx_imm u44b z22b (by omega) (by rw [Int.toNat_natCast, List.getElem?_map, List.getElem?_eq_getElem hil, hr]; rfl))
    have i1 := cp_i_0 (m : Int) (l.map encP) x (R.map encRd) m (K.map .bool) kn.length i (List.replicate m (.bool false)) (r.map encP)
    have e0 : (Blk.arr 1 (List.replicate m (.bool false)) true 0) = bF (List.replicate m false) := by simp [bF]
    obtain ⟨X, E, H', r1, hh⟩ := cp_calls m hm l hl x (R.map encRd) kn.length i K kn hK r hrl r.length 0 (List.replicate m false) [] (by omega) (MB.init m)
    rw [← e0] at r1
    rw [List.drop_zero] at hh
    rcases hh with ⟨e, rfl, Z', rfl, rfl⟩ | ⟨e, rfl, hE⟩
    · rw [if_pos e]
      obtain ⟨hnd, hfr⟩ := rd_fresh _ _ _ _ e
      have hin : ∀ p ∈ r, 0 ≤ p.2 ∧ p.2 < (m : Int) := fun p hp => nrR_in (hfr p hp).2.2
      have hI2 := KI.learn r kn hI hin
      have hll := learn_len r kn hnd (fun p hp => (hfr p hp).1)
      have m1 := cp_m_0 (m : Int) (l.map encP) x (R.map encRd) m (K.map .bool) kn.length i (Z'.map .bool) (r.map encP) r.length
      obtain ⟨K', r2, hK2⟩ := cp_learn m hm (l.map encP) x (R.map encRd) i (Z'.map .bool) r hrl hin r.length 0 kn.length K kn (by omega) (by omega) hK
      rw [List.drop_zero] at hK2
      have r2' := RunsTo.loop_in (e0 := cpE m (l.map encP) x (R.map encRd) kn.length (.int .i64 (i : Int)) (.sl 1 0 m (some m) m 1) (.imm .arg 2 (r.map encP)) (.int .i64 (r.length : Int)) .undef .undef (.int .i64 0)) r2 (b := sub [1, 1, 1, 1, 0, 1, 0, 0, 1, 0, 0, 1, 1, 1, 1, 0, 0] B30) (by kernel_rfl) (by kernel_rfl) (by kernel_rfl)
      have o1 := cp_o_0 (m : Int) (l.map encP) x (R.map encRd) m (K'.map .bool) (kn.length + r.length) i (Z'.map .bool) (r.map encP) r.length
      rw [wrap_succ (by omega)] at o1
      obtain ⟨X, E, H3, r3, h3⟩ := ih (i + 1) K' (learn r kn) (by omega) hK2 hI2
      rw [hll] at r3
      refine ⟨X, E, H3, ?_, h3⟩
      have t1 := RunsTo.seq i1 (RunsTo.block_exit (c := sub [1, 1, 1, 1, 0, 1, 0, 0, 1, 0, 0, 1, 1, 0, 1] B30) r1 (by kernel_rfl)) (c := sub [1, 1, 1, 1, 0, 1, 0, 0, 1, 0, 0, 1, 1, 0] B30) (by kernel_rfl) (by kernel_rfl)
      have t2 := RunsTo.seq m1 (RunsTo.block_exit (c := sub [1, 1, 1, 1, 0, 1, 0, 0, 1, 0, 0, 1, 1, 1, 1] B30) r2' (by kernel_rfl)) (c := sub [1, 1, 1, 1, 0, 1, 0, 0, 1, 0, 0, 1, 1, 1] B30) (by kernel_rfl) (by kernel_rfl)
      have t3 := RunsTo.seq t1 t2 (c := sub [1, 1, 1, 1, 0, 1, 0, 0, 1, 0, 0, 1, 1] B30) (by kernel_rfl) (by kernel_rfl)
      have t4 := RunsTo.seq h1 t3 (c := sub [1, 1, 1, 1, 0, 1, 0, 0, 1, 0, 0, 1] B30) (by kernel_rfl) (by kernel_rfl)
      have t5 := RunsTo.seq g1 t4 (c := sub [1, 1, 1, 1, 0, 1, 0, 0, 1, 0, 0] B30) (by kernel_rfl) (by kernel_rfl)
      have t6 := RunsTo.block_normal (i := 1) (c := sub [1, 1, 1, 1, 0, 1, 0, 0, 1, 0] B30) t5 (by kernel_rfl)
      have t7 := RunsTo.seq t6 o1 (c := sub [1, 1, 1, 1, 0, 1, 0, 0, 1] B30) (by kernel_rfl) (by kernel_rfl)
      have t8 := RunsTo.seq f1 t7 (c := sub [1, 1, 1, 1, 0, 1, 0, 0] B30) (by kernel_rfl) (by kernel_rfl)
      exact RunsTo.loop t8 (by kernel_rfl) rfl r3 rfl (by kernel_rfl) (by kernel_rfl)
    · rw [if_neg (by rw [e]; simp)]
      refine ⟨_, E, H', ?_, .inr ⟨rfl, rfl, hE⟩⟩
      have t1 := RunsTo.seq i1 (RunsTo.block_ret (i := 2) (c := sub [1, 1, 1, 1, 0, 1, 0, 0, 1, 0, 0, 1, 1, 0, 1] B30) r1 (by kernel_rfl)) (c := sub [1, 1, 1, 1, 0, 1, 0, 0, 1, 0, 0, 1, 1, 0] B30) (by kernel_rfl) (by kernel_rfl)
      have t3 := RunsTo.seq_out t1 (by simp) (c := sub [1, 1, 1, 1, 0, 1, 0, 0, 1, 0, 0, 1, 1] B30) (b := sub [1, 1, 1, 1, 0, 1, 0, 0, 1, 0, 0, 1, 1, 1] B30) (by kernel_rfl)
      have t4 := RunsTo.seq h1 t3 (c := sub [1, 1, 1, 1, 0, 1, 0, 0, 1, 0, 0, 1] B30) (by kernel_rfl) (by kernel_rfl)
      have t5 := RunsTo.seq g1 t4 (c := sub [1, 1, 1, 1, 0, 1, 0, 0, 1, 0, 0] B30) (by kernel_rfl) (by kernel_rfl)
      have t6 := RunsTo.block_ret (i := 1) (c := sub [1, 1, 1, 1, 0, 1, 0, 0, 1, 0] B30) t5 (by kernel_rfl)
      have t7 := RunsTo.seq_out t6 (by simp) (c := sub [1, 1, 1, 1, 0, 1, 0, 0, 1] B30) (b := sub [1, 1, 1, 1, 0, 1, 0, 0, 1, 1] B30) (by kernel_rfl)
      have t8 := RunsTo.seq f1 t7 (c := sub [1, 1, 1, 1, 0, 1, 0, 0] B30) (by kernel_rfl) (by kernel_rfl)
      exact RunsTo.loop_out t8 (by simp) (by kernel_rfl) (by kernel_rfl)
def completeF (n : Nat) (l : List (Int × Int)) (x : Int) (R : List (List (Int × Int))) : Bool := spOk (nrR n l) n x R
def complete30 : List HV → Option HV
  | [.int .i64 n, .imm .arg 2 lc, .int .i64 x, .imm .arg 1 rv] =>
    match mapO decP lc, mapO decRd rv with
    | some l, some R => if (((0 ≤ n ∧ n ≤ 1000) ∧ l.length ≤ 1000) ∧ 0 ≤ x ∧ x < n) ∧ R.length ≤ 1000 ∧ (R.all fun r => decide (r.length ≤ 1000)) = true then some (.bool (completeF n.toNat l x R)) else none
    | _, _ => none
  | _ => none
theorem res30 : Try.f30.results.toList = [.tmp 8] := by kernel_rfl
theorem complete_ok : PrimOk Try.prog 30 complete30 := by
  refine primOk_pure (pol := polY) (fn := Try.f30) (cd := B30) follows_mixed soundY (by kernel_rfl) (by kernel_rfl) (fnok polY.prim _ _ (by kernel_rfl)) (by kernel_rfl) ?_
  intro args res h
  unfold complete30 at h
  split at h
  · rename_i n lc x rv
    split at h
    · rename_i l R hlc hrv
      split at h
      · rename_i hg
        cases h
        obtain ⟨⟨⟨hn, hl⟩, hx⟩, hR, hRa⟩ := hg
        rw [mapO_inv decP_inv hlc, mapO_inv decRd_inv hrv]
        have hRr : ∀ r ∈ R, r.length ≤ 1000 := fun r hr => of_decide_eq_true (List.all_eq_true.1 hRa r hr)
        obtain ⟨m, rfl⟩ : ∃ m : Nat, n = (m : Int) := ⟨n.toNat, by omega⟩
        obtain ⟨w, rfl⟩ : ∃ w : Nat, x = (w : Int) := ⟨x.toNat, by omega⟩
        rw [Int.toNat_natCast]
        have hw : w < m := by omega
        have a1 := cp_a_0 (m : Int) (l.map encP) (w : Int) (R.map encRd)
        have hmk := makeV_ok (P := Try.prog) (H := []) (t := 43) (n := (m : Int)) u43f info4f rfl rfl (by omega) (by omega) (by rw [show roomMax = 70368744177664 from rfl]; omega)
        rw [Int.toNat_natCast] at hmk
        have b1 := cp_b_0 (m : Int) (l.map encP) (w : Int) (R.map encRd) m hmk
        have hK0 := MB.init m
        have e0 : List.replicate m (HV.bool false) = (List.replicate m false).map HV.bool := by simp
        rw [e0] at b1
        have st := store_b (H := [bF (List.replicate m false)]) (k := 0) hK0.len rfl hw true
        have c1 := cp_c_0 (m : Int) (l.map encP) (w : Int) (R.map encRd) m ((List.replicate m false).map .bool) _ (idx_sl u43c z4c (by omega) (by omega)) (by rw [Int.toNat_natCast]; exact st)
        have hK := hK0.set hw
        have d1 := cp_d_0 (m : Int) (l.map encP) (w : Int) (R.map encRd) m (((List.replicate m false).set w true).map .bool)
        have e1 := cp_e_0 (m : Int) (l.map encP) (w : Int) (R.map encRd) m (((List.replicate m false).set w true).map .bool) 1
        have hI : KI m [(w : Int)] := ⟨by simp, fun v hv => by rw [List.mem_singleton] at hv; omega⟩
        obtain ⟨X, E, H', r1, h1⟩ := cp_rounds m (by omega) l hl (w : Int) R hR hRr R.length 0 _ [(w : Int)] (by omega) hK hI
        rw [List.drop_zero] at h1
        have up : ∀ E H, RunsTo Try.prog polY 30 (sub [1, 1, 1, 1] B30) (cpE m (l.map encP) (w : Int) (R.map encRd) 1 .undef .undef .undef .undef .undef .undef .undef) [bF ((List.replicate m false).set w true)] .ret (polY.keys 30) E H → E.get 8 = .bool (completeF m l (w : Int) R) →
            ∃ X E H' v, RunsTo Try.prog polY 30 B30 (args0 [.int .i64 (m : Int), .imm .arg 2 (l.map encP), .int .i64 (w : Int), .imm .arg 1 (R.map encRd)]) [] X (polY.keys 30) E H' ∧ (∀ i, X ≠ .exit i) ∧ resultsV Try.prog Try.f30 E H' = some v ∧ toRes H' (polY.deep 30) v = some (.bool (completeF m l (w : Int) R)) := by
          intro E H t hE
          have t1 := RunsTo.seq d1 t (c := sub [1, 1, 1] B30) (by kernel_rfl) (by kernel_rfl)
          have t2 := RunsTo.seq c1 t1 (c := sub [1, 1] B30) (by kernel_rfl) (by kernel_rfl)
          have t3 := RunsTo.seq b1 t2 (c := sub [1] B30) (by kernel_rfl) (by kernel_rfl)
          exact ⟨_, _, _, .bool (completeF m l (w : Int) R), RunsTo.seq a1 t3 (c := B30) (by kernel_rfl) (by kernel_rfl), by simp, by simp only [resultsV, res30, mapO, resultV, hE], rfl⟩
        rcases h1 with ⟨kn', K', hgo, hI2, rfl, rfl, rfl⟩ | ⟨hgo, rfl, hE⟩
        · have t1 := RunsTo.seq e1 (RunsTo.block_exit (c := sub [1, 1, 1, 1, 0, 1] B30) r1 (by kernel_rfl)) (c := sub [1, 1, 1, 1, 0] B30) (by kernel_rfl) (by kernel_rfl)
          have hle := hI2.len
          by_cases hc : (kn'.length : Int) = (m : Int)
          · have z1 := cp_z_0 (m : Int) (l.map encP) (w : Int) (R.map encRd) m (K'.map .bool) kn'.length R.length hc
            have t2 := RunsTo.seq t1 z1 (c := sub [1, 1, 1, 1] B30) (by kernel_rfl) (by kernel_rfl)
            refine up _ _ t2 ?_
            have : completeF m l (w : Int) R = true := by rw [completeF, spOk, hgo]; exact decide_eq_true (by omega)
            rw [this]; rfl
          · have z1 := cp_z_1 (m : Int) (l.map encP) (w : Int) (R.map encRd) m (K'.map .bool) kn'.length R.length hc
            have t2 := RunsTo.seq t1 z1 (c := sub [1, 1, 1, 1] B30) (by kernel_rfl) (by kernel_rfl)
            refine up _ _ t2 ?_
            have : completeF m l (w : Int) R = false := by rw [completeF, spOk, hgo]; exact decide_eq_false (by omega)
            rw [this]; rfl
        · have t1 := RunsTo.seq e1 (RunsTo.block_ret (i := 0) (c := sub [1, 1, 1, 1, 0, 1] B30) r1 (by kernel_rfl)) (c := sub [1, 1, 1, 1, 0] B30) (by kernel_rfl) (by kernel_rfl)
          have t2 := RunsTo.seq_out t1 (by simp) (c := sub [1, 1, 1, 1] B30) (b := sub [1, 1, 1, 1, 1] B30) (by kernel_rfl)
          refine up _ _ t2 ?_
          have : completeF m l (w : Int) R = false := by rw [completeF, spOk, hgo]
          rw [this]; exact hE
      · cases h
    · cases h
  · cases h
end Go.Proofs.Ytmhfkhlamnapdaa
end
section
open Go Go.HL
namespace Go.Proofs.Ytmhfkhlamnapdaa
theorem bIn_all (c : Int) {n k : Nat} (hc : 0 ≤ c ∧ c + 1 ≤ k) : ∀ (l : List Nat) (s : List Int × List Nat), (∀ y ∈ l, y < n) → BInv n k s → ∀ z ∈ l, z ∈ (bIn c l s).2
  | [], _, _, _, z, hz => by cases hz
  | y :: l, s, hl, h, z, hz => by
    rw [bIn]
    have hy := hl y (by simp)
    have h' := h.step hc hy
    rcases List.mem_cons.1 hz with rfl | hz
    · obtain ⟨t, ht⟩ := bIn_pre c l (if s.1.getD z 0 < 0 then (s.1.set z (c + 1), s.2 ++ [z]) else s)
      rw [ht]
      apply List.mem_append_left
      by_cases hlt : s.1.getD z 0 < 0
      · rw [if_pos hlt]; simp
      · rw [if_neg hlt]; exact (h.got z hy).1 (by omega)
    · exact bIn_all c hc l _ (fun w hw => hl w (by simp [hw])) h' z hz
theorem bIn_sub (c : Int) {S : Nat → Prop} : ∀ (l : List Nat) (s : List Int × List Nat), (∀ y ∈ s.2, S y) → (∀ y ∈ l, S y) → ∀ y ∈ (bIn c l s).2, S y
  | [], _, h, _ => h
  | y :: l, s, h, hl => by
    rw [bIn]
    refine bIn_sub c l _ (fun z hz => ?_) (fun z hz => hl z (by simp [hz]))
    split at hz
    · rcases List.mem_append.1 hz with hz | hz
      · exact h z hz
      · rw [List.mem_singleton] at hz; rw [hz]; exact hl y (by simp)
    · exact h z hz
theorem bGo_sub (nb : Nat → List Nat) {S : Nat → Prop} (hS : ∀ x, S x → ∀ z ∈ nb x, S z) : ∀ (d i : Nat) (s : List Int × List Nat), (∀ y ∈ s.2, S y) → ∀ y ∈ (bGo nb d i s).2, S y
  | 0, _, _, h => h
  | d + 1, i, s, h => by
    rw [bGo]
    split
    · rename_i x hx
      exact bGo_sub nb hS d (i + 1) _ (bIn_sub _ _ _ h (hS x (h x (List.mem_of_getElem? hx))))
    · exact h
theorem bGo_closed (nb : Nat → List Nat) (n : Nat) (hnb : ∀ x, x < n → ∀ z ∈ nb x, z < n) : ∀ (d i : Nat) (s : List Int × List Nat), i + d = n → BInv n i s → i ≤ s.2.length → (∀ k x, k < i → s.2[k]? = some x → ∀ z ∈ nb x, z ∈ s.2) →
    BInv n n (bGo nb d i s) ∧ (∀ y ∈ s.2, y ∈ (bGo nb d i s).2) ∧ ∀ x ∈ (bGo nb d i s).2, ∀ z ∈ nb x, z ∈ (bGo nb d i s).2 := by
  intro d
  induction d with
  | zero =>
    intro i s hi hinv hle hcl
    rw [bGo]
    refine ⟨hinv.mono (by omega), fun y hy => hy, fun x hx z hz => ?_⟩
    obtain ⟨k, hk, rfl⟩ := List.getElem_of_mem hx
    have := hinv.qlen
    exact hcl k _ (by omega) (List.getElem?_eq_getElem hk) z hz
  | succ d ih =>
    intro i s hi hinv hle hcl
    rw [bGo]
    cases hw : s.2[i]? with
    | none =>
      have hge := List.getElem?_eq_none_iff.1 hw
      dsimp only
      refine ⟨hinv.mono (by omega), fun y hy => hy, fun x hx z hz => ?_⟩
      obtain ⟨k, hk, rfl⟩ := List.getElem_of_mem hx
      exact hcl k _ (by omega) (List.getElem?_eq_getElem hk) z hz
    | some w =>
      dsimp only
      have hil := lt_of_get hw
      have hwn : w < n := hinv.lt _ (List.mem_of_getElem? hw)
      have hc0 := (hinv.got w hwn).2 (List.mem_of_getElem? hw)
      have hci := hinv.le w hwn
      have hc : 0 ≤ s.1.getD w 0 ∧ s.1.getD w 0 + 1 ≤ ((i + 1 : Nat) : Int) := ⟨hc0, by omega⟩
      have hinv' := BInv.inn hc (nb w) s (hnb w hwn) (hinv.mono (by omega))
      obtain ⟨t, ht⟩ := bIn_pre (s.1.getD w 0) (nb w) s
      have hall := bIn_all (s.1.getD w 0) hc (nb w) s (hnb w hwn) (hinv.mono (by omega))
      obtain ⟨h1, h2, h3⟩ := ih (i + 1) _ (by omega) hinv' (by rw [ht, List.length_append]; omega) (fun k x hk hx z hz => by
        rcases Nat.lt_or_ge k i with h | h
        · rw [ht, List.getElem?_append_left (by omega)] at hx
          have := hcl k x h hx z hz
          rw [ht]; exact List.mem_append_left _ this
        · have : k = i := by omega
          subst this
          rw [ht, List.getElem?_append_left hil, hw] at hx
          cases hx
          exact hall z hz)
      exact ⟨h1, fun y hy => h2 y (by rw [ht]; exact List.mem_append_left _ hy), h3⟩
/-- What the search reaches: the smallest set that holds its start and is closed. -/
theorem bfs_reach (nb nb' : Nat → List Nat) (n x : Nat) (hx : x < n) (hnb : ∀ x, x < n → ∀ z ∈ nb x, z < n) (hnb' : ∀ x, x < n → ∀ z ∈ nb' x, z < n) (he : ∀ x, x < n → ∀ z, z ∈ nb x → z ∈ nb' x) {y : Nat} (hy : y < n) (h : 0 ≤ (bfs nb n x).getD y 0) : 0 ≤ (bfs nb' n x).getD y 0 := by
  obtain ⟨a1, a2, a3⟩ := bGo_closed nb n hnb n 0 (bInit n x) (by omega) (bInit_inv hx) (Nat.zero_le _) (fun k x hk => by omega)
  obtain ⟨b1, b2, b3⟩ := bGo_closed nb' n hnb' n 0 (bInit n x) (by omega) (bInit_inv hx) (Nat.zero_le _) (fun k x hk => by omega)
  have hm := (a1.got y hy).1 h
  have := bGo_sub nb (S := fun z => z ∈ (bGo nb' n 0 (bInit n x)).2) (fun w hw z hz => b3 w hw z (he w (b1.lt w hw) z hz)) n 0 (bInit n x) (fun z hz => b2 z hz) y hm
  exact (b1.got y hy).2 this
theorem bfs_ge (nb : Nat → List Nat) (n x : Nat) (hx : x < n) (hnb : ∀ x, x < n → ∀ z ∈ nb x, z < n) {y : Nat} (hy : y < n) : -1 ≤ (bfs nb n x).getD y 0 :=
  (bGo_closed nb n hnb n 0 (bInit n x) (by omega) (bInit_inv hx) (Nat.zero_le _) (fun k x hk => by omega)).1.ge y hy
def isP (x y : Nat) (p : Int × Int) : Prop := (p.1.toNat = x ∧ p.2.toNat = y) ∨ (p.2.toNat = x ∧ p.1.toNat = y)
theorem adjAdd_mem {adj : List (List Nat)} {a b x y : Nat} (ha : a < adj.length) : y ∈ (adjAdd adj a b).getD x [] ↔ y ∈ adj.getD x [] ∨ (x = a ∧ y = b) := by
  unfold adjAdd
  simp only [List.getD, List.getElem?_set]
  by_cases e : a = x
  · subst e
    simp [ha]
  · have e' : ¬ x = a := fun h => e h.symm
    simp [e, e']
theorem adjGo_mem {n : Nat} : ∀ (l : List (Int × Int)) (adj : List (List Nat)), adj.length = n → (∀ p ∈ l, validB (n : Int) p = true) → ∀ x y, y ∈ (adjGo l adj).getD x [] ↔ y ∈ adj.getD x [] ∨ ∃ p ∈ l, isP x y p
  | [], adj, _, _, x, y => by simp [adjGo]
  | p :: l, adj, ha, hv, x, y => by
    have h1 := hv p (by simp)
    rw [validB, decide_eq_true_eq] at h1
    have e : adjGo (p :: l) adj = adjGo l (adjStep adj p) := rfl
    rw [e, adjGo_mem l (adjStep adj p) (by simp [adjStep, adjAdd, ha]) (fun q hq => hv q (by simp [hq])), adjStep, adjAdd_mem (by simp [adjAdd, ha]; omega), adjAdd_mem (by omega)]
    constructor
    · rintro (((h | h) | h) | ⟨q, hq, h⟩)
      · exact .inl h
      · exact .inr ⟨p, by simp, .inl ⟨h.1.symm, h.2.symm⟩⟩
      · exact .inr ⟨p, by simp, .inr ⟨h.1.symm, h.2.symm⟩⟩
      · exact .inr ⟨q, by simp [hq], h⟩
    · rintro (h | ⟨q, hq, h⟩)
      · exact .inl (.inl (.inl h))
      · rcases List.mem_cons.1 hq with rfl | hq
        · rcases h with ⟨h1, h2⟩ | ⟨h1, h2⟩
          · exact .inl (.inl (.inr ⟨h1.symm, h2.symm⟩))
          · exact .inl (.inr ⟨h1.symm, h2.symm⟩)
        · exact .inr ⟨q, hq, h⟩
theorem adjOf_mem {n : Nat} {l : List (Int × Int)} (hv : ∀ p ∈ l, validB (n : Int) p = true) (x y : Nat) : y ∈ (adjOf n l).getD x [] ↔ ∃ p ∈ l, isP x y p := by
  rw [adjOf, adjGo_mem l _ (by simp) hv]
  have : (List.replicate n ([] : List Nat)).getD x [] = [] := by
    simp only [List.getD, List.getElem?_replicate]
    split <;> rfl
  rw [this]; simp
theorem valid_in {n : Nat} {l : List (Int × Int)} (hv : ∀ p ∈ l, validB (n : Int) p = true) : ∀ p ∈ l, inB n p := fun p hp => by
  have := hv p hp
  rw [validB, decide_eq_true_eq] at this
  unfold inB; omega
theorem nb_same {n : Nat} {l : List (Int × Int)} (hv : ∀ p ∈ l, validB (n : Int) p = true) (x y : Nat) : y ∈ (adjOf n l).getD x [] ↔ y ∈ nbN n l x := by
  rw [adjOf_mem hv, nbN_mem (valid_in hv)]
  constructor
  · rintro ⟨p, hp, h⟩
    refine ⟨?_, p, hp, h⟩
    have h1 := hv p hp
    rw [validB, decide_eq_true_eq] at h1
    rcases h with ⟨_, h⟩ | ⟨_, h⟩ <;> omega
  · rintro ⟨_, p, hp, h⟩
    exact ⟨p, hp, h⟩
theorem all_getD {o : List Int} {n : Nat} (ho : o.length = n) : reached o = true ↔ ∀ y, y < n → 0 ≤ o.getD y 0 := by
  unfold reached
  rw [List.all_eq_true]
  constructor
  · intro h y hy
    have := h o[y] (List.getElem_mem (by omega))
    rw [decide_eq_true_eq] at this
    simpa [List.getD, List.getElem?_eq_getElem (show y < o.length by omega)] using this
  · intro h v hv
    obtain ⟨i, hi, rfl⟩ := List.getElem_of_mem hv
    have := h i (by omega)
    rw [decide_eq_true_eq]
    simpa [List.getD, List.getElem?_eq_getElem hi] using this
theorem farOk_iff {n : Nat} (hn : 0 < n) {adj : List (List Nat)} {k : Nat} (hA : AInv n k adj) : farOk adj = true ↔ ∀ y, y < n → 0 ≤ (bfs (fun y => adj.getD y []) n 0).getD y 0 := by
  have hnb : ∀ x, x < n → ∀ z ∈ adj.getD x [], z < n := fun x hx z hz => by
    obtain ⟨r, hr⟩ : ∃ r, adj[x]? = some r := ⟨_, List.getElem?_eq_getElem (by rw [hA.len]; exact hx)⟩
    simp only [List.getD, hr, Option.getD_some] at hz
    exact (hA.row _ (List.mem_of_getElem? hr)).2 z hz
  have hlen : (farF adj 0).length = n := by rw [farF, bfs_len]; exact hA.len
  have hF : farF adj 0 = bfs (fun y => adj.getD y []) n 0 := by rw [farF, hA.len]
  have hge : ∀ y, y < n → -1 ≤ (bfs (fun y => adj.getD y []) n 0).getD y 0 := fun y hy => bfs_ge (fun y => adj.getD y []) n 0 hn hnb hy
  rw [farOk, decide_eq_true_eq, hF]
  rw [hF] at hlen
  generalize bfs (fun y => adj.getD y []) n 0 = o at hge hlen
  constructor
  · intro h y hy
    rcases Int.lt_or_le (o.getD y 0) 0 with hlt | hle
    · exfalso
      apply h
      have e : o.getD y 0 = -1 := by have := hge y hy; omega
      rw [← e]
      have hyl : y < o.length := by omega
      simp only [List.getD, List.getElem?_eq_getElem hyl, Option.getD_some]
      exact List.getElem_mem hyl
    · exact hle
  · intro h hm
    obtain ⟨i, hi, e⟩ := List.getElem_of_mem hm
    have := h i (by omega)
    simp only [List.getD, List.getElem?_eq_getElem hi, Option.getD_some, e] at this
    omega
/-- The program's tree is the document's. -/
theorem tree_same (n : Int) (l : List (Int × Int)) : treeOk n l = rTree n l := by
  rw [treeOk, rTree]
  by_cases h1 : (1 ≤ n ∧ n ≤ 30) ∧ (l.length : Int) = n - 1
  · by_cases h2 : l.all (validB n) = true
    · rw [decide_eq_true ⟨h1, h2⟩, decide_eq_true h1, h2, Bool.true_and, Bool.true_and, Bool.true_and]
      obtain ⟨m, rfl⟩ : ∃ m : Nat, n = (m : Int) := ⟨n.toNat, by omega⟩
      rw [Int.toNat_natCast]
      have hv := List.all_eq_true.1 h2
      have hA := adjOf_inv hv
      have hm : 0 < m := by omega
      have hnb : ∀ x, x < m → ∀ z ∈ (adjOf m l).getD x [], z < m := fun x hx z hz => ((nbN_mem (valid_in hv)).1 ((nb_same hv x z).1 hz)).1
      have hnb' : ∀ x, x < m → ∀ z ∈ nbN m l x, z < m := fun x hx z hz => ((nbN_mem (valid_in hv)).1 hz).1
      rw [Bool.eq_iff_iff, farOk_iff hm hA, rfarF, all_getD (n := m) (bfs_len _ _ _)]
      constructor
      · intro h y hy
        exact bfs_reach _ _ m 0 hm hnb hnb' (fun x _ z hz => (nb_same hv x z).1 hz) hy (h y hy)
      · intro h y hy
        exact bfs_reach _ _ m 0 hm hnb' hnb (fun x _ z hz => (nb_same hv x z).2 hz) hy (h y hy)
    · have h2' : l.all (validB n) = false := by cases h : l.all (validB n) with | true => exact absurd h h2 | false => rfl
      rw [decide_eq_false (fun h => h2 h.2), h2', Bool.false_and, Bool.false_and, Bool.and_false]
  · rw [decide_eq_false (fun h => h1 h.1), decide_eq_false h1, Bool.false_and, Bool.false_and]
theorem nr_same {n : Nat} {l : List (Int × Int)} (hv : ∀ p ∈ l, validB (n : Int) p = true) : nrA n (adjOf n l) = nrR n l := by
  funext a b
  rw [Bool.eq_iff_iff]
  simp only [nrA, nrR, inR, Bool.and_eq_true, decide_eq_true_eq, List.any_eq_true, isNear, rowI, List.mem_map]
  constructor
  · rintro ⟨h1, y, hy, rfl⟩
    rw [adjOf_mem hv] at hy
    obtain ⟨p, hp, h⟩ := hy
    have h2 := hv p hp
    rw [validB, decide_eq_true_eq] at h2
    refine ⟨by omega, by rcases h with ⟨h3, h4⟩ | ⟨h3, h4⟩ <;> omega, p, hp, ?_⟩
    rcases h with ⟨h3, h4⟩ | ⟨h3, h4⟩
    · exact .inl (by rw [Prod.ext_iff]; exact ⟨by show p.1 = a; omega, by show p.2 = (y : Int); omega⟩)
    · exact .inr (by rw [Prod.ext_iff]; exact ⟨by show p.1 = (y : Int); omega, by show p.2 = a; omega⟩)
  · rintro ⟨h1, h2, p, hp, h⟩
    refine ⟨by omega, b.toNat, (adjOf_mem hv _ _).2 ⟨p, hp, ?_⟩, by omega⟩
    rcases h with rfl | rfl
    · exact .inl ⟨rfl, rfl⟩
    · exact .inr ⟨rfl, rfl⟩
end Go.Proofs.Ytmhfkhlamnapdaa
end
section
open Go Go.HL
namespace Go.Proofs.Ytmhfkhlamnapdaa
set_option maxRecDepth 100000
noncomputable def B28 : Code := Try.f28.body.getD .skip
abbrev env28 (v0 v2 v3 v4 v5 : HV) : Env := [(0, v0), (2, v2), (3, v3), (4, v4), (5, v5)]
theorem sp_a_0 (rds : List HV)   : RunsTo Try.prog pol 28 (sub [0] B28) [(0, .imm .arg 1 rds)] [] (.normal) (pol.keys 28) (env28 (.imm .arg 1 rds) (.imm .lit 1 []) .undef .undef .undef) [] :=
  RunsTo.hint 1 60 [] fun kf hk => by
    obtain ⟨kf, rfl⟩ : ∃ n, kf = n + 1 := ⟨kf - 1, by omega⟩
    exact ⟨[], by kernel_rfl, Obls.nil⟩
theorem sp_b_0 (rds : List HV)   : RunsTo Try.prog pol 28 (sub [1, 0] B28) (env28 (.imm .arg 1 rds) (.imm .lit 1 []) .undef .undef .undef) [] (.normal) (pol.keys 28) (env28 (.imm .arg 1 rds) (.imm .lit 1 []) (.sl 0 0 0 none 0 1) .undef .undef) [.arr 1 [] true 0] :=
  RunsTo.hint 1 60 [] fun kf hk => by
    obtain ⟨kf, rfl⟩ : ∃ n, kf = n + 1 := ⟨kf - 1, by omega⟩
    exact ⟨[], by kernel_rfl, Obls.nil⟩
theorem sp_c_0 (rds : List HV) (rws : List HV) (p : Nat)   : RunsTo Try.prog pol 28 (sub [1, 1, 0, 0] B28) (env28 (.imm .arg 1 rds) (.imm .lit 1 []) (.sl 0 0 p none p 1) .undef .undef) [.arr 1 rws true 0] (.normal) (pol.keys 28) (env28 (.imm .arg 1 rds) (.imm .lit 1 []) (.sl 0 0 p none p 1) (.int .i64 0) .undef) [.arr 1 rws true 0] :=
  RunsTo.hint 1 60 [] fun kf hk => by
    obtain ⟨kf, rfl⟩ : ∃ n, kf = n + 1 := ⟨kf - 1, by omega⟩
    exact ⟨[], by kernel_rfl, Obls.nil⟩
theorem sp_l_0 (rds : List HV) (rws : List HV) (p : Nat) (i : Nat) (l0 : List HV) (l1 : List HV) (w0 : Bool) (g0 : (i : Int) < (rds.length : Int)) (g1 : (i : Int) < 60) (g2 : idxV Try.prog 44 (.imm .arg 1 rds) (.int .i64 (i : Int)) = some (.vptr (.imm .arg 2 l0))) (g3 : idxV Try.prog 44 (.imm .arg 1 rds) (.int .i64 (i : Int)) = some (.vptr (.imm .arg 2 l1))) (g4 : sliceV Try.prog 22 (.imm .arg 2 l0) none (some (.int .i64 (min (l1.length : Int) 40))) none = some (.imm .arg 2 (l0.take ((min (l1.length : Int) 40).toNat)))) (g5 : appV [.arr 1 rws true 0, .arr 2 [] true 0] 2 16 (.sl 1 0 0 none 0 2) (l0.take ((min (l1.length : Int) 40).toNat)) = some (.sl 1 0 ((l0.take ((min (l1.length : Int) 40).toNat)).length) none ((l0.take ((min (l1.length : Int) 40).toNat)).length) 2, [.arr 1 rws true 0, .arr 2 (l0.take ((min (l1.length : Int) 40).toNat)) true 0])) (g6 : litV Try.prog true false 44 1 [(0, .sl 1 0 ((l0.take ((min (l1.length : Int) 40).toNat)).length) none ((l0.take ((min (l1.length : Int) 40).toNat)).length) 2)] [.arr 1 rws true 0, .arr 2 (l0.take ((min (l1.length : Int) 40).toNat)) true 0] = some (.imm .lit 1 [.imm .own 2 (l0.take ((min (l1.length : Int) 40).toNat))], [.arr 1 rws true 0, .arr 2 (l0.take ((min (l1.length : Int) 40).toNat)) w0 0])) (g7 : appV [.arr 1 rws true 0, .arr 2 (l0.take ((min (l1.length : Int) 40).toNat)) w0 0] 1 24 (.sl 0 0 p none p 1) [.imm .own 2 (l0.take ((min (l1.length : Int) 40).toNat))] = some (.sl 0 0 (p + 1) none (p + 1) 1, [.arr 1 (rws ++ [.imm .own 2 (l0.take ((min (l1.length : Int) 40).toNat))]) true 0, .arr 2 (l0.take ((min (l1.length : Int) 40).toNat)) w0 0])) : RunsTo Try.prog pol 28 (sub [1, 1, 0, 1, 0, 0] B28) (env28 (.imm .arg 1 rds) (.imm .lit 1 []) (.sl 0 0 p none p 1) (.int .i64 (i : Int)) .undef) [.arr 1 rws true 0] (.normal) (pol.keys 28) (env28 (.imm .arg 1 rds) (.imm .lit 1 []) (.sl 0 0 (p + 1) none (p + 1) 1) (.int .i64 (IntKind.i64.wrap ((i : Int) + 1))) (.sl 1 0 0 none 0 2)) [.arr 1 (rws ++ [.imm .own 2 (l0.take ((min (l1.length : Int) 40).toNat))]) true 0, .arr 2 (l0.take ((min (l1.length : Int) 40).toNat)) w0 0] :=
  RunsTo.hint 1 60 [⟨3, 3, .bool true, [.arr 1 rws true 0]⟩, ⟨3, 6, .bool true, [.arr 1 rws true 0]⟩, ⟨6, 4, .vptr (.imm .arg 2 l0), [.arr 1 rws true 0, .arr 2 [] true 0]⟩, ⟨6, 8, .vptr (.imm .arg 2 l1), [.arr 1 rws true 0, .arr 2 [] true 0]⟩, ⟨6, 12, .imm .arg 2 (l0.take ((min (l1.length : Int) 40).toNat)), [.arr 1 rws true 0, .arr 2 [] true 0]⟩, ⟨6, 13, .sl 1 0 ((l0.take ((min (l1.length : Int) 40).toNat)).length) none ((l0.take ((min (l1.length : Int) 40).toNat)).length) 2, [.arr 1 rws true 0, .arr 2 (l0.take ((min (l1.length : Int) 40).toNat)) true 0]⟩, ⟨6, 14, .imm .lit 1 [.imm .own 2 (l0.take ((min (l1.length : Int) 40).toNat))], [.arr 1 rws true 0, .arr 2 (l0.take ((min (l1.length : Int) 40).toNat)) w0 0]⟩, ⟨6, 15, .sl 0 0 (p + 1) none (p + 1) 1, [.arr 1 (rws ++ [.imm .own 2 (l0.take ((min (l1.length : Int) 40).toNat))]) true 0, .arr 2 (l0.take ((min (l1.length : Int) 40).toNat)) w0 0]⟩] fun kf hk => by
    obtain ⟨kf, rfl⟩ : ∃ n, kf = n + 1 := ⟨kf - 1, by omega⟩
    exact ⟨[some (HV.bool (decide ((i : Int) < (rds.length : Int))), ([.arr 1 rws true 0] : Heap)) = some (.bool true, [.arr 1 rws true 0]), some (HV.bool (decide ((i : Int) < 60)), ([.arr 1 rws true 0] : Heap)) = some (.bool true, [.arr 1 rws true 0]), (idxV Try.prog 44 (.imm .arg 1 rds) (.int .i64 (i : Int))).map (fun v => (v, ([.arr 1 rws true 0, .arr 2 [] true 0] : Heap))) = some (.vptr (.imm .arg 2 l0), [.arr 1 rws true 0, .arr 2 [] true 0]), (idxV Try.prog 44 (.imm .arg 1 rds) (.int .i64 (i : Int))).map (fun v => (v, ([.arr 1 rws true 0, .arr 2 [] true 0] : Heap))) = some (.vptr (.imm .arg 2 l1), [.arr 1 rws true 0, .arr 2 [] true 0]), (sliceV Try.prog 22 (.imm .arg 2 l0) none (some (.int .i64 (min (l1.length : Int) 40))) none).map (fun v => (v, ([.arr 1 rws true 0, .arr 2 [] true 0] : Heap))) = some (.imm .arg 2 (l0.take ((min (l1.length : Int) 40).toNat)), [.arr 1 rws true 0, .arr 2 [] true 0]), appV [.arr 1 rws true 0, .arr 2 [] true 0] 2 16 (.sl 1 0 0 none 0 2) (l0.take ((min (l1.length : Int) 40).toNat)) = some (.sl 1 0 ((l0.take ((min (l1.length : Int) 40).toNat)).length) none ((l0.take ((min (l1.length : Int) 40).toNat)).length) 2, [.arr 1 rws true 0, .arr 2 (l0.take ((min (l1.length : Int) 40).toNat)) true 0]), litV Try.prog true false 44 1 [(0, .sl 1 0 ((l0.take ((min (l1.length : Int) 40).toNat)).length) none ((l0.take ((min (l1.length : Int) 40).toNat)).length) 2)] [.arr 1 rws true 0, .arr 2 (l0.take ((min (l1.length : Int) 40).toNat)) true 0] = some (.imm .lit 1 [.imm .own 2 (l0.take ((min (l1.length : Int) 40).toNat))], [.arr 1 rws true 0, .arr 2 (l0.take ((min (l1.length : Int) 40).toNat)) w0 0]), appV [.arr 1 rws true 0, .arr 2 (l0.take ((min (l1.length : Int) 40).toNat)) w0 0] 1 24 (.sl 0 0 p none p 1) [.imm .own 2 (l0.take ((min (l1.length : Int) 40).toNat))] = some (.sl 0 0 (p + 1) none (p + 1) 1, [.arr 1 (rws ++ [.imm .own 2 (l0.take ((min (l1.length : Int) 40).toNat))]) true 0, .arr 2 (l0.take ((min (l1.length : Int) 40).toNat)) w0 0])], by kernel_rfl, Obls.cons (hintB (decide_eq_true g0)) (Obls.cons (hintB (decide_eq_true g1)) (Obls.cons (hintOp g2) (Obls.cons (hintOp g3) (Obls.cons (hintOp g4) (Obls.cons (g5) (Obls.cons (g6) (Obls.cons (g7) Obls.nil)))))))⟩
theorem sp_l_1 (rds : List HV) (rws : List HV) (p : Nat) (i : Nat)  (g0 : (i : Int) < (rds.length : Int)) (g1 : ¬ ((i : Int) < 60)) : RunsTo Try.prog pol 28 (sub [1, 1, 0, 1, 0, 0] B28) (env28 (.imm .arg 1 rds) (.imm .lit 1 []) (.sl 0 0 p none p 1) (.int .i64 (i : Int)) .undef) [.arr 1 rws true 0] (.exit 0) (pol.keys 28) (env28 (.imm .arg 1 rds) (.imm .lit 1 []) (.sl 0 0 p none p 1) (.int .i64 (i : Int)) .undef) [.arr 1 rws true 0] :=
  RunsTo.hint 1 60 [⟨3, 3, .bool true, [.arr 1 rws true 0]⟩, ⟨3, 6, .bool false, [.arr 1 rws true 0]⟩] fun kf hk => by
    obtain ⟨kf, rfl⟩ : ∃ n, kf = n + 1 := ⟨kf - 1, by omega⟩
    exact ⟨[some (HV.bool (decide ((i : Int) < (rds.length : Int))), ([.arr 1 rws true 0] : Heap)) = some (.bool true, [.arr 1 rws true 0]), some (HV.bool (decide ((i : Int) < 60)), ([.arr 1 rws true 0] : Heap)) = some (.bool false, [.arr 1 rws true 0])], by kernel_rfl, Obls.cons (hintB (decide_eq_true g0)) (Obls.cons (hintB (decide_eq_false g1)) Obls.nil)⟩
theorem sp_l_2 (rds : List HV) (rws : List HV) (p : Nat) (i : Nat)  (g0 : ¬ ((i : Int) < (rds.length : Int))) : RunsTo Try.prog pol 28 (sub [1, 1, 0, 1, 0, 0] B28) (env28 (.imm .arg 1 rds) (.imm .lit 1 []) (.sl 0 0 p none p 1) (.int .i64 (i : Int)) .undef) [.arr 1 rws true 0] (.exit 0) (pol.keys 28) (env28 (.imm .arg 1 rds) (.imm .lit 1 []) (.sl 0 0 p none p 1) (.int .i64 (i : Int)) .undef) [.arr 1 rws true 0] :=
  RunsTo.hint 1 60 [⟨3, 3, .bool false, [.arr 1 rws true 0]⟩] fun kf hk => by
    obtain ⟨kf, rfl⟩ : ∃ n, kf = n + 1 := ⟨kf - 1, by omega⟩
    exact ⟨[some (HV.bool (decide ((i : Int) < (rds.length : Int))), ([.arr 1 rws true 0] : Heap)) = some (.bool false, [.arr 1 rws true 0])], by kernel_rfl, Obls.cons (hintB (decide_eq_false g0)) Obls.nil⟩
theorem sp_z_0 (rds : List HV) (rws : List HV) (p : Nat) (i : Nat)   : RunsTo Try.prog pol 28 (sub [1, 1, 1] B28) (env28 (.imm .arg 1 rds) (.imm .lit 1 []) (.sl 0 0 p none p 1) (.int .i64 (i : Int)) .undef) [.arr 1 rws true 0] (.ret) (pol.keys 28) (env28 (.imm .arg 1 rds) (.sl 0 0 p none p 1) (.sl 0 0 p none p 1) (.int .i64 (i : Int)) .undef) [.arr 1 rws true 0] :=
  RunsTo.hint 1 60 [] fun kf hk => by
    obtain ⟨kf, rfl⟩ : ∃ n, kf = n + 1 := ⟨kf - 1, by omega⟩
    exact ⟨[], by kernel_rfl, Obls.nil⟩
end Go.Proofs.Ytmhfkhlamnapdaa
end
section
open Go Go.HL
namespace Go.Proofs.Ytmhfkhlamnapdaa
def spreadL (R : List (List (Int × Int))) : List (List (Int × Int)) := (R.take 60).map (·.take 40)
theorem spread_loop (R : List (List (Int × Int))) : ∀ (d i : Nat) (L : List (List (Int × Int))), i + d = min R.length 60 → L.length = i →
    RunsTo Try.prog pol 28 (sub [1, 1, 0, 1, 0] B28) (env28 (.imm .arg 1 (R.map encRd)) (.imm .lit 1 []) (.sl 0 0 L.length none L.length 1) (.int .i64 (i : Int)) .undef) [bRows L]
      (.exit 0) (pol.keys 28) (env28 (.imm .arg 1 (R.map encRd)) (.imm .lit 1 []) (.sl 0 0 (L ++ ((R.drop i).take d).map (·.take 40)).length none (L ++ ((R.drop i).take d).map (·.take 40)).length 1) (.int .i64 ((min R.length 60 : Nat) : Int)) .undef) [bRows (L ++ ((R.drop i).take d).map (·.take 40))] := by
  intro d
  induction d with
  | zero =>
    intro i L hi hL
    rw [List.take_zero, List.map_nil, List.append_nil]
    have hi : i = min R.length 60 := by omega
    by_cases h : R.length ≤ 60
    · have s1 := sp_l_2 (R.map encRd) (L.map encPs) L.length i (by rw [List.length_map]; omega)
      rw [← hi]
      exact RunsTo.loop_out s1 (by simp) (by kernel_rfl) (by kernel_rfl)
    · have s1 := sp_l_1 (R.map encRd) (L.map encPs) L.length i (by rw [List.length_map]; omega) (by omega)
      rw [← hi]
      exact RunsTo.loop_out s1 (by simp) (by kernel_rfl) (by kernel_rfl)
  | succ d ih =>
    intro i L hi hL
    have hil : i < R.length := by omega
    rw [List.drop_eq_getElem_cons hil, List.take_succ_cons, List.map_cons]
    generalize hr : R[i] = r
    have h := ih (i + 1) (L ++ [r.take 40]) (by omega) (by simp [hL])
    rw [List.append_assoc, List.singleton_append] at h
    have g2 : idxV Try.prog 44 (.imm .arg 1 (R.map encRd)) (.int .i64 (i : Int)) = some (.vptr (.imm .arg 2 (r.map encP))) := idx_imm u44b z22b (by omega) (by rw [Int.toNat_natCast, List.getElem?_map, List.getElem?_eq_getElem hil, hr]; rfl)
    have hk : (min ((r.map encP).length : Int) 40).toNat = min r.length 40 := by rw [List.length_map]; omega
    have ht : (r.map encP).take (min ((r.map encP).length : Int) 40).toNat = (r.take 40).map encP := by
      have e : r.take (min r.length 40) = r.take 40 := by
        by_cases c : r.length ≤ 40
        · rw [List.take_of_length_le (by omega), List.take_of_length_le (by omega)]
        · rw [Nat.min_eq_right (by omega)]
      rw [hk, ← List.map_take, e]
    have gsl : sliceV Try.prog 22 (.imm .arg 2 (r.map encP)) none (some (.int .i64 (min ((r.map encP).length : Int) 40))) none = some (.imm .arg 2 ((r.map encP).take ((min ((r.map encP).length : Int) 40).toNat))) := by
      have h0 : 0 ≤ min ((r.map encP).length : Int) 40 := by rw [List.length_map]; omega
      have hz : tySize Try.prog 33 = some 2 := z33
      simp only [sliceV, boundV, h0, if_true, u22, hz, Option.getD_none, Option.getD_some, Nat.zero_le, true_and]
      rw [if_pos (by simp), if_pos (by rw [hk, List.length_map]; omega)]
      simp
    have s1 := sp_l_0 (R.map encRd) (L.map encPs) L.length i (r.map encP) (r.map encP)
    rw [ht] at s1 gsl
    generalize hrow : r.take 40 = row at s1 gsl h
    have hrow40 : row.length ≤ 40 := by rw [← hrow, List.length_take]; omega
    have hap0 : appV [bRows L, .arr 2 [] true 0] 2 16 (.sl 1 0 0 none 0 2) (row.map encP) = some (.sl 1 0 (row.map encP).length none (row.map encP).length 2, [bRows L, .arr 2 (row.map encP) true 0]) := by
      by_cases he : row = []
      · subst he; rfl
      · have := app_sl (H := [bRows L, .arr 2 [] true 0]) (k := 2) (bytes := 16) (b := 1) (n := 0) (mx := 0) (els := []) (xs := row.map encP) rfl rfl (by simpa using he) (by rw [List.length_map]; simp only [roomMax]; omega) (by
          have : ∀ (l : List (Int × Int)), bndL (l.map encP) = 0 := by
            intro l
            induction l with
            | nil => rfl
            | cons a l ih => simp only [List.map_cons, bndL, ih, encP, bnd]; rfl
          exact this row)
        rw [this]
        simp
    obtain ⟨w, hlit⟩ := lit_seal' (P := Try.prog) (H := [bRows L, bPs row]) (t := 44) (b := 1) (p := (row.map encP).length) u44r info22 rfl rfl rfl rfl (pairs_res row)
    have hap := app_sl (H := [bRows L, .arr 2 (row.map encP) w 0]) (k := 1) (bytes := 24) (b := 0) (n := L.length) (mx := 0) (els := L.map encPs) (xs := [.imm .own 2 (row.map encP)]) rfl (by simp) (by simp) (by simp only [List.length_singleton, roomMax]; omega) rfl
    have s2 := s1 w (by rw [List.length_map]; omega) (by omega) g2 g2 gsl hap0 hlit hap
    rw [wrap_succ (by omega)] at s2
    have e3 : (L ++ [row]).length = L.length + 1 := by simp
    have e4 : (L ++ [row]).map encPs = L.map encPs ++ [.imm .own 2 (row.map encP)] := by simp [encPs]
    unfold bRows at h
    rw [e3, e4] at h
    exact RunsTo.loop s2 (by kernel_rfl) (by kernel_rfl) h rfl (by kernel_rfl) (by kernel_rfl)
def spread28 : List HV → Option HV
  | [.imm .arg 1 rv] => match mapO decRd rv with | some R => some (.own 1 ((spreadL R).map encPs)) | none => none
  | _ => none
theorem res28 : Try.f28.results.toList = [.tmp 2] := by kernel_rfl
theorem spread_ok : PrimOk Try.prog 28 spread28 := by
  refine primOk_pure (pol := pol) (fn := Try.f28) (cd := B28) follows_mixed sound (by kernel_rfl) (by kernel_rfl) (fnok pol.prim _ _ (by kernel_rfl)) (by kernel_rfl) ?_
  intro args res h
  unfold spread28 at h
  split at h
  · rename_i rv
    split at h
    · rename_i R hrv
      · cases h
        rw [mapO_inv decRd_inv hrv]
        have a1 := sp_a_0 (R.map encRd)
        have b1 := sp_b_0 (R.map encRd)
        have c1 := sp_c_0 (R.map encRd) [] 0
        have l1 := spread_loop R (min R.length 60) 0 [] (by omega) rfl
        have eL : [] ++ ((R.drop 0).take (min R.length 60)).map (·.take 40) = spreadL R := by
          rw [List.nil_append, List.drop_zero, spreadL]
          congr 1
          by_cases c : R.length ≤ 60
          · rw [List.take_of_length_le (by omega), List.take_of_length_le (by omega)]
          · rw [Nat.min_eq_right (by omega)]
        rw [eL] at l1
        have z1 := sp_z_0 (R.map encRd) ((spreadL R).map encPs) (spreadL R).length (min R.length 60)
        have t1 := RunsTo.seq c1 (RunsTo.block_exit (c := sub [1, 1, 0, 1] B28) l1 (by kernel_rfl)) (c := sub [1, 1, 0] B28) (by kernel_rfl) (by kernel_rfl)
        have t2 := RunsTo.seq t1 z1 (c := sub [1, 1] B28) (by kernel_rfl) (by kernel_rfl)
        have t3 := RunsTo.seq b1 t2 (c := sub [1] B28) (by kernel_rfl) (by kernel_rfl)
        have t4 := RunsTo.seq a1 t3 (c := B28) (by kernel_rfl) (by kernel_rfl)
        have hr2 := resCell_sl (H := [bRows (spreadL R)]) (no := [0]) (b := 0) (k := 1) (m := (spreadL R).length) (cap := none) (els := (spreadL R).map encPs) rfl (by simp) (mapO_self frz_pairs _)
        have ho : ownedAll [bRows (spreadL R)] false (.sl 0 0 (spreadL R).length none (spreadL R).length 1) = [0] := rfl
        refine ⟨_, _, _, .sl 0 0 (spreadL R).length none (spreadL R).length 1, t4, by simp, by simp only [resultsV, res28]; rfl, ?_⟩
        show toRes _ false _ = _
        simp only [toRes, ho, List.nodup_cons, List.not_mem_nil, not_false_eq_true, List.nodup_nil, and_self, if_true, resVal, hr2]
    · cases h
  · cases h
end Go.Proofs.Ytmhfkhlamnapdaa
end
section
open Go Go.HL
namespace Go.Proofs.Ytmhfkhlamnapdaa
/-- The policy of the law on Check. -/
def primG (g : FuncId) : Option (List HV → Option HV) :=
  if g == 19 then some awakeF else if g == 16 then some few16 else if g == 28 then some spread28 else if g == 29 then some check29 else if g == 18 then some tree18 else if g == 30 then some complete30 else none
def polG : Pol := { pol with prim := primG }
theorem primG_ok (g : FuncId) (f : List HV → Option HV) (h : primG g = some f) : PrimOk Try.prog g f := by
  unfold primG at h
  split at h
  · rename_i hg; cases h; rw [eq_of_beq hg]; exact awake_prim
  split at h
  · rename_i hg; cases h; rw [eq_of_beq hg]; exact few_ok
  split at h
  · rename_i hg; cases h; rw [eq_of_beq hg]; exact spread_ok
  split at h
  · rename_i hg; cases h; rw [eq_of_beq hg]; exact check_ok
  split at h
  · rename_i hg; cases h; rw [eq_of_beq hg]; exact tree_ok
  split at h
  · rename_i hg; cases h; rw [eq_of_beq hg]; exact complete_ok
  · cases h
theorem soundG (n : Nat) : CallSound Try.prog (callN Try.prog polG n) := sound_prim primG primG_ok n
end Go.Proofs.Ytmhfkhlamnapdaa
end
section
open Go Go.HL
namespace Go.Proofs.Ytmhfkhlamnapdaa
set_option maxRecDepth 100000
noncomputable def B8 : Code := Try.f8.body.getD .skip
abbrev env8 (v0 v1 v2 v4 v5 v6 v7 : HV) : Env := [(0, v0), (1, v1), (2, v2), (4, v4), (5, v5), (6, v6), (7, v7)]
theorem lk_a_0 (n : Int) (lc : List HV) (x : Int) (rds : List HV)   : RunsTo Try.prog polG 8 (sub [0] B8) [(0, .agg [.int .i64 n, .imm .arg 2 lc, .int .i64 x]), (1, .imm .arg 1 rds)] [] (.normal) (polG.keys 8) (env8 (.agg [.int .i64 n, .imm .arg 2 lc, .int .i64 x]) (.imm .arg 1 rds) (.ptr 0 0 0 1) (.bool false) .undef .undef .undef) [.arr 3 [.agg [.int .i64 n, .imm .arg 2 lc, .int .i64 x]] true 0] :=
  RunsTo.hint 1 60 [] fun kf hk => by
    obtain ⟨kf, rfl⟩ : ∃ n, kf = n + 1 := ⟨kf - 1, by omega⟩
    exact ⟨[], by kernel_rfl, Obls.nil⟩
theorem lk_b_0 (n : Int) (lc : List HV) (x : Int) (rds : List HV) (m : Nat) (els : List HV) (p : Nat) (rws : List HV) (g0 : ∀ kf, callN Try.prog polG (kf + 1) 16 [.imm .arg 2 lc] [.arr 3 [.agg [.int .i64 n, .imm .arg 2 lc, .int .i64 x]] true 0] = some (.sl 1 0 m none m 2, [.arr 3 [.agg [.int .i64 n, .imm .arg 2 lc, .int .i64 x]] true 0, .arr 2 els true 0])) (g1 : ∀ kf, callN Try.prog polG (kf + 1) 28 [.imm .arg 1 rds] [.arr 3 [.agg [.int .i64 n, .imm .arg 2 lc, .int .i64 x]] true 0, .arr 2 els true 0] = some (.sl 2 0 p none p 1, [.arr 3 [.agg [.int .i64 n, .imm .arg 2 lc, .int .i64 x]] true 0, .arr 2 els true 0, .arr 1 rws true 0])) : RunsTo Try.prog polG 8 (sub [1, 0] B8) (env8 (.agg [.int .i64 n, .imm .arg 2 lc, .int .i64 x]) (.imm .arg 1 rds) (.ptr 0 0 0 1) (.bool false) .undef .undef .undef) [.arr 3 [.agg [.int .i64 n, .imm .arg 2 lc, .int .i64 x]] true 0] (.normal) (polG.keys 8) (env8 (.agg [.int .i64 n, .imm .arg 2 lc, .int .i64 x]) (.imm .arg 1 rds) (.ptr 0 0 0 1) (.bool false) (.sl 1 0 m none m 2) (.sl 2 0 p none p 1) .undef) [.arr 3 [.agg [.int .i64 n, .imm .arg 2 lc, .int .i64 x]] true 0, .arr 2 els true 0, .arr 1 rws true 0] :=
  RunsTo.hint 1 60 [⟨1, 2, .sl 1 0 m none m 2, [.arr 3 [.agg [.int .i64 n, .imm .arg 2 lc, .int .i64 x]] true 0, .arr 2 els true 0]⟩, ⟨1, 4, .sl 2 0 p none p 1, [.arr 3 [.agg [.int .i64 n, .imm .arg 2 lc, .int .i64 x]] true 0, .arr 2 els true 0, .arr 1 rws true 0]⟩] fun kf hk => by
    obtain ⟨kf, rfl⟩ : ∃ n, kf = n + 1 := ⟨kf - 1, by omega⟩
    exact ⟨[callN Try.prog polG (kf + 1) 16 [.imm .arg 2 lc] [.arr 3 [.agg [.int .i64 n, .imm .arg 2 lc, .int .i64 x]] true 0] = some (.sl 1 0 m none m 2, [.arr 3 [.agg [.int .i64 n, .imm .arg 2 lc, .int .i64 x]] true 0, .arr 2 els true 0]), callN Try.prog polG (kf + 1) 28 [.imm .arg 1 rds] [.arr 3 [.agg [.int .i64 n, .imm .arg 2 lc, .int .i64 x]] true 0, .arr 2 els true 0] = some (.sl 2 0 p none p 1, [.arr 3 [.agg [.int .i64 n, .imm .arg 2 lc, .int .i64 x]] true 0, .arr 2 els true 0, .arr 1 rws true 0])], by kernel_rfl, Obls.cons (g0 kf) (Obls.cons (g1 kf) Obls.nil)⟩
theorem lk_c_0 (n : Int) (lc : List HV) (x : Int) (rds : List HV) (m : Nat) (els : List HV) (p : Nat) (rws : List HV) (e : Int) (g0 : ∀ kf, callN Try.prog polG (kf + 1) 29 [.int .i64 n, .sl 1 0 m none m 2, .int .i64 x, .sl 2 0 p none p 1] [.arr 3 [.agg [.int .i64 n, .imm .arg 2 lc, .int .i64 x]] true 0, .arr 2 els true 0, .arr 1 rws true 0] = some (.int .i64 e, [.arr 3 [.agg [.int .i64 n, .imm .arg 2 lc, .int .i64 x]] true 0, .arr 2 els true 0, .arr 1 rws true 0])) : RunsTo Try.prog polG 8 (sub [1, 1, 0] B8) (env8 (.agg [.int .i64 n, .imm .arg 2 lc, .int .i64 x]) (.imm .arg 1 rds) (.ptr 0 0 0 1) (.bool false) (.sl 1 0 m none m 2) (.sl 2 0 p none p 1) .undef) [.arr 3 [.agg [.int .i64 n, .imm .arg 2 lc, .int .i64 x]] true 0, .arr 2 els true 0, .arr 1 rws true 0] (.normal) (polG.keys 8) (env8 (.agg [.int .i64 n, .imm .arg 2 lc, .int .i64 x]) (.imm .arg 1 rds) (.ptr 0 0 0 1) (.bool false) (.sl 1 0 m none m 2) (.sl 2 0 p none p 1) (.int .i64 e)) [.arr 3 [.agg [.int .i64 n, .imm .arg 2 lc, .int .i64 x]] true 0, .arr 2 els true 0, .arr 1 rws true 0] :=
  RunsTo.hint 1 60 [⟨2, 6, .int .i64 e, [.arr 3 [.agg [.int .i64 n, .imm .arg 2 lc, .int .i64 x]] true 0, .arr 2 els true 0, .arr 1 rws true 0]⟩] fun kf hk => by
    obtain ⟨kf, rfl⟩ : ∃ n, kf = n + 1 := ⟨kf - 1, by omega⟩
    exact ⟨[callN Try.prog polG (kf + 1) 29 [.int .i64 n, .sl 1 0 m none m 2, .int .i64 x, .sl 2 0 p none p 1] [.arr 3 [.agg [.int .i64 n, .imm .arg 2 lc, .int .i64 x]] true 0, .arr 2 els true 0, .arr 1 rws true 0] = some (.int .i64 e, [.arr 3 [.agg [.int .i64 n, .imm .arg 2 lc, .int .i64 x]] true 0, .arr 2 els true 0, .arr 1 rws true 0])], by kernel_rfl, Obls.cons (g0 kf) Obls.nil⟩
theorem lk_d_4 (n : Int) (lc : List HV) (x : Int) (rds : List HV) (m : Nat) (els : List HV) (p : Nat) (rws : List HV) (e : Int)  (g0 : ∀ kf, callN Try.prog polG (kf + 1) 18 [.int .i64 n, .sl 1 0 m none m 2] [.arr 3 [.agg [.int .i64 n, .imm .arg 2 lc, .int .i64 x]] true 0, .arr 2 els true 0, .arr 1 rws true 0] = some (.bool true, [.arr 3 [.agg [.int .i64 n, .imm .arg 2 lc, .int .i64 x]] true 0, .arr 2 els true 0, .arr 1 rws true 0])) (g1 : ¬ (x < 0)) (g2 : ¬ (n ≤ x)) : RunsTo Try.prog polG 8 (sub [1, 1, 1, 0] B8) (env8 (.agg [.int .i64 n, .imm .arg 2 lc, .int .i64 x]) (.imm .arg 1 rds) (.ptr 0 0 0 1) (.bool false) (.sl 1 0 m none m 2) (.sl 2 0 p none p 1) (.int .i64 e)) [.arr 3 [.agg [.int .i64 n, .imm .arg 2 lc, .int .i64 x]] true 0, .arr 2 els true 0, .arr 1 rws true 0] (.normal) (polG.keys 8) (env8 (.agg [.int .i64 n, .imm .arg 2 lc, .int .i64 x]) (.imm .arg 1 rds) (.ptr 0 0 0 1) (.bool false) (.sl 1 0 m none m 2) (.sl 2 0 p none p 1) (.int .i64 e)) [.arr 3 [.agg [.int .i64 n, .imm .arg 2 lc, .int .i64 x]] true 0, .arr 2 els true 0, .arr 1 rws true 0] :=
  RunsTo.hint 1 60 [⟨3, 3, .bool true, [.arr 3 [.agg [.int .i64 n, .imm .arg 2 lc, .int .i64 x]] true 0, .arr 2 els true 0, .arr 1 rws true 0]⟩, ⟨3, 8, .bool false, [.arr 3 [.agg [.int .i64 n, .imm .arg 2 lc, .int .i64 x]] true 0, .arr 2 els true 0, .arr 1 rws true 0]⟩, ⟨3, 15, .bool false, [.arr 3 [.agg [.int .i64 n, .imm .arg 2 lc, .int .i64 x]] true 0, .arr 2 els true 0, .arr 1 rws true 0]⟩] fun kf hk => by
    obtain ⟨kf, rfl⟩ : ∃ n, kf = n + 1 := ⟨kf - 1, by omega⟩
    exact ⟨[callN Try.prog polG (kf + 1) 18 [.int .i64 n, .sl 1 0 m none m 2] [.arr 3 [.agg [.int .i64 n, .imm .arg 2 lc, .int .i64 x]] true 0, .arr 2 els true 0, .arr 1 rws true 0] = some (.bool true, [.arr 3 [.agg [.int .i64 n, .imm .arg 2 lc, .int .i64 x]] true 0, .arr 2 els true 0, .arr 1 rws true 0]), some (HV.bool (decide (x < 0)), ([.arr 3 [.agg [.int .i64 n, .imm .arg 2 lc, .int .i64 x]] true 0, .arr 2 els true 0, .arr 1 rws true 0] : Heap)) = some (.bool false, [.arr 3 [.agg [.int .i64 n, .imm .arg 2 lc, .int .i64 x]] true 0, .arr 2 els true 0, .arr 1 rws true 0]), some (HV.bool (decide (n ≤ x)), ([.arr 3 [.agg [.int .i64 n, .imm .arg 2 lc, .int .i64 x]] true 0, .arr 2 els true 0, .arr 1 rws true 0] : Heap)) = some (.bool false, [.arr 3 [.agg [.int .i64 n, .imm .arg 2 lc, .int .i64 x]] true 0, .arr 2 els true 0, .arr 1 rws true 0])], by kernel_rfl, Obls.cons (g0 kf) (Obls.cons (hintB (decide_eq_false g1)) (Obls.cons (hintB (decide_eq_false g2)) Obls.nil))⟩
theorem lk_x_0 (n : Int) (lc : List HV) (x : Int) (rds : List HV) (m : Nat) (els : List HV) (p : Nat) (rws : List HV) (e : Int)  (g0 : ∀ kf, callN Try.prog polG (kf + 1) 18 [.int .i64 n, .sl 1 0 m none m 2] [.arr 3 [.agg [.int .i64 n, .imm .arg 2 lc, .int .i64 x]] true 0, .arr 2 els true 0, .arr 1 rws true 0] = some (.bool true, [.arr 3 [.agg [.int .i64 n, .imm .arg 2 lc, .int .i64 x]] true 0, .arr 2 els true 0, .arr 1 rws true 0])) (g1 : x < 0) (g2 : e = 2) : RunsTo Try.prog polG 8 (sub [1, 1, 1, 0] B8) (env8 (.agg [.int .i64 n, .imm .arg 2 lc, .int .i64 x]) (.imm .arg 1 rds) (.ptr 0 0 0 1) (.bool false) (.sl 1 0 m none m 2) (.sl 2 0 p none p 1) (.int .i64 e)) [.arr 3 [.agg [.int .i64 n, .imm .arg 2 lc, .int .i64 x]] true 0, .arr 2 els true 0, .arr 1 rws true 0] (.ret) (polG.keys 8) (env8 (.agg [.int .i64 n, .imm .arg 2 lc, .int .i64 x]) (.imm .arg 1 rds) (.ptr 0 0 0 1) (.bool true) (.sl 1 0 m none m 2) (.sl 2 0 p none p 1) (.int .i64 e)) [.arr 3 [.agg [.int .i64 n, .imm .arg 2 lc, .int .i64 x]] true 0, .arr 2 els true 0, .arr 1 rws true 0] :=
  RunsTo.hint 1 60 [⟨3, 3, .bool true, [.arr 3 [.agg [.int .i64 n, .imm .arg 2 lc, .int .i64 x]] true 0, .arr 2 els true 0, .arr 1 rws true 0]⟩, ⟨3, 8, .bool true, [.arr 3 [.agg [.int .i64 n, .imm .arg 2 lc, .int .i64 x]] true 0, .arr 2 els true 0, .arr 1 rws true 0]⟩, ⟨4, 1, .bool true, [.arr 3 [.agg [.int .i64 n, .imm .arg 2 lc, .int .i64 x]] true 0, .arr 2 els true 0, .arr 1 rws true 0]⟩] fun kf hk => by
    obtain ⟨kf, rfl⟩ : ∃ n, kf = n + 1 := ⟨kf - 1, by omega⟩
    exact ⟨[callN Try.prog polG (kf + 1) 18 [.int .i64 n, .sl 1 0 m none m 2] [.arr 3 [.agg [.int .i64 n, .imm .arg 2 lc, .int .i64 x]] true 0, .arr 2 els true 0, .arr 1 rws true 0] = some (.bool true, [.arr 3 [.agg [.int .i64 n, .imm .arg 2 lc, .int .i64 x]] true 0, .arr 2 els true 0, .arr 1 rws true 0]), some (HV.bool (decide (x < 0)), ([.arr 3 [.agg [.int .i64 n, .imm .arg 2 lc, .int .i64 x]] true 0, .arr 2 els true 0, .arr 1 rws true 0] : Heap)) = some (.bool true, [.arr 3 [.agg [.int .i64 n, .imm .arg 2 lc, .int .i64 x]] true 0, .arr 2 els true 0, .arr 1 rws true 0]), some (HV.bool (decide (e = 2)), ([.arr 3 [.agg [.int .i64 n, .imm .arg 2 lc, .int .i64 x]] true 0, .arr 2 els true 0, .arr 1 rws true 0] : Heap)) = some (.bool true, [.arr 3 [.agg [.int .i64 n, .imm .arg 2 lc, .int .i64 x]] true 0, .arr 2 els true 0, .arr 1 rws true 0])], by kernel_rfl, Obls.cons (g0 kf) (Obls.cons (hintB (decide_eq_true g1)) (Obls.cons (hintB (decide_eq_true g2)) Obls.nil))⟩
theorem lk_x_2 (n : Int) (lc : List HV) (x : Int) (rds : List HV) (m : Nat) (els : List HV) (p : Nat) (rws : List HV) (e : Int)  (g0 : ∀ kf, callN Try.prog polG (kf + 1) 18 [.int .i64 n, .sl 1 0 m none m 2] [.arr 3 [.agg [.int .i64 n, .imm .arg 2 lc, .int .i64 x]] true 0, .arr 2 els true 0, .arr 1 rws true 0] = some (.bool true, [.arr 3 [.agg [.int .i64 n, .imm .arg 2 lc, .int .i64 x]] true 0, .arr 2 els true 0, .arr 1 rws true 0])) (g1 : ¬ (x < 0)) (g2 : n ≤ x) (g3 : e = 2) : RunsTo Try.prog polG 8 (sub [1, 1, 1, 0] B8) (env8 (.agg [.int .i64 n, .imm .arg 2 lc, .int .i64 x]) (.imm .arg 1 rds) (.ptr 0 0 0 1) (.bool false) (.sl 1 0 m none m 2) (.sl 2 0 p none p 1) (.int .i64 e)) [.arr 3 [.agg [.int .i64 n, .imm .arg 2 lc, .int .i64 x]] true 0, .arr 2 els true 0, .arr 1 rws true 0] (.ret) (polG.keys 8) (env8 (.agg [.int .i64 n, .imm .arg 2 lc, .int .i64 x]) (.imm .arg 1 rds) (.ptr 0 0 0 1) (.bool true) (.sl 1 0 m none m 2) (.sl 2 0 p none p 1) (.int .i64 e)) [.arr 3 [.agg [.int .i64 n, .imm .arg 2 lc, .int .i64 x]] true 0, .arr 2 els true 0, .arr 1 rws true 0] :=
  RunsTo.hint 1 60 [⟨3, 3, .bool true, [.arr 3 [.agg [.int .i64 n, .imm .arg 2 lc, .int .i64 x]] true 0, .arr 2 els true 0, .arr 1 rws true 0]⟩, ⟨3, 8, .bool false, [.arr 3 [.agg [.int .i64 n, .imm .arg 2 lc, .int .i64 x]] true 0, .arr 2 els true 0, .arr 1 rws true 0]⟩, ⟨3, 15, .bool true, [.arr 3 [.agg [.int .i64 n, .imm .arg 2 lc, .int .i64 x]] true 0, .arr 2 els true 0, .arr 1 rws true 0]⟩, ⟨4, 1, .bool true, [.arr 3 [.agg [.int .i64 n, .imm .arg 2 lc, .int .i64 x]] true 0, .arr 2 els true 0, .arr 1 rws true 0]⟩] fun kf hk => by
    obtain ⟨kf, rfl⟩ : ∃ n, kf = n + 1 := ⟨kf - 1, by omega⟩
    exact ⟨[callN Try.prog polG (kf + 1) 18 [.int .i64 n, .sl 1 0 m none m 2] [.arr 3 [.agg [.int .i64 n, .imm .arg 2 lc, .int .i64 x]] true 0, .arr 2 els true 0, .arr 1 rws true 0] = some (.bool true, [.arr 3 [.agg [.int .i64 n, .imm .arg 2 lc, .int .i64 x]] true 0, .arr 2 els true 0, .arr 1 rws true 0]), some (HV.bool (decide (x < 0)), ([.arr 3 [.agg [.int .i64 n, .imm .arg 2 lc, .int .i64 x]] true 0, .arr 2 els true 0, .arr 1 rws true 0] : Heap)) = some (.bool false, [.arr 3 [.agg [.int .i64 n, .imm .arg 2 lc, .int .i64 x]] true 0, .arr 2 els true 0, .arr 1 rws true 0]), some (HV.bool (decide (n ≤ x)), ([.arr 3 [.agg [.int .i64 n, .imm .arg 2 lc, .int .i64 x]] true 0, .arr 2 els true 0, .arr 1 rws true 0] : Heap)) = some (.bool true, [.arr 3 [.agg [.int .i64 n, .imm .arg 2 lc, .int .i64 x]] true 0, .arr 2 els true 0, .arr 1 rws true 0]), some (HV.bool (decide (e = 2)), ([.arr 3 [.agg [.int .i64 n, .imm .arg 2 lc, .int .i64 x]] true 0, .arr 2 els true 0, .arr 1 rws true 0] : Heap)) = some (.bool true, [.arr 3 [.agg [.int .i64 n, .imm .arg 2 lc, .int .i64 x]] true 0, .arr 2 els true 0, .arr 1 rws true 0])], by kernel_rfl, Obls.cons (g0 kf) (Obls.cons (hintB (decide_eq_false g1)) (Obls.cons (hintB (decide_eq_true g2)) (Obls.cons (hintB (decide_eq_true g3)) Obls.nil)))⟩
theorem lk_x_5 (n : Int) (lc : List HV) (x : Int) (rds : List HV) (m : Nat) (els : List HV) (p : Nat) (rws : List HV) (e : Int)  (g0 : ∀ kf, callN Try.prog polG (kf + 1) 18 [.int .i64 n, .sl 1 0 m none m 2] [.arr 3 [.agg [.int .i64 n, .imm .arg 2 lc, .int .i64 x]] true 0, .arr 2 els true 0, .arr 1 rws true 0] = some (.bool false, [.arr 3 [.agg [.int .i64 n, .imm .arg 2 lc, .int .i64 x]] true 0, .arr 2 els true 0, .arr 1 rws true 0])) (g1 : e = 2) : RunsTo Try.prog polG 8 (sub [1, 1, 1, 0] B8) (env8 (.agg [.int .i64 n, .imm .arg 2 lc, .int .i64 x]) (.imm .arg 1 rds) (.ptr 0 0 0 1) (.bool false) (.sl 1 0 m none m 2) (.sl 2 0 p none p 1) (.int .i64 e)) [.arr 3 [.agg [.int .i64 n, .imm .arg 2 lc, .int .i64 x]] true 0, .arr 2 els true 0, .arr 1 rws true 0] (.ret) (polG.keys 8) (env8 (.agg [.int .i64 n, .imm .arg 2 lc, .int .i64 x]) (.imm .arg 1 rds) (.ptr 0 0 0 1) (.bool true) (.sl 1 0 m none m 2) (.sl 2 0 p none p 1) (.int .i64 e)) [.arr 3 [.agg [.int .i64 n, .imm .arg 2 lc, .int .i64 x]] true 0, .arr 2 els true 0, .arr 1 rws true 0] :=
  RunsTo.hint 1 60 [⟨3, 3, .bool false, [.arr 3 [.agg [.int .i64 n, .imm .arg 2 lc, .int .i64 x]] true 0, .arr 2 els true 0, .arr 1 rws true 0]⟩, ⟨4, 1, .bool true, [.arr 3 [.agg [.int .i64 n, .imm .arg 2 lc, .int .i64 x]] true 0, .arr 2 els true 0, .arr 1 rws true 0]⟩] fun kf hk => by
    obtain ⟨kf, rfl⟩ : ∃ n, kf = n + 1 := ⟨kf - 1, by omega⟩
    exact ⟨[callN Try.prog polG (kf + 1) 18 [.int .i64 n, .sl 1 0 m none m 2] [.arr 3 [.agg [.int .i64 n, .imm .arg 2 lc, .int .i64 x]] true 0, .arr 2 els true 0, .arr 1 rws true 0] = some (.bool false, [.arr 3 [.agg [.int .i64 n, .imm .arg 2 lc, .int .i64 x]] true 0, .arr 2 els true 0, .arr 1 rws true 0]), some (HV.bool (decide (e = 2)), ([.arr 3 [.agg [.int .i64 n, .imm .arg 2 lc, .int .i64 x]] true 0, .arr 2 els true 0, .arr 1 rws true 0] : Heap)) = some (.bool true, [.arr 3 [.agg [.int .i64 n, .imm .arg 2 lc, .int .i64 x]] true 0, .arr 2 els true 0, .arr 1 rws true 0])], by kernel_rfl, Obls.cons (g0 kf) (Obls.cons (hintB (decide_eq_true g1)) Obls.nil)⟩
theorem lk_e_0 (n : Int) (lc : List HV) (x : Int) (rds : List HV) (m : Nat) (els : List HV) (p : Nat) (rws : List HV) (e : Int)  (g0 : ∀ kf, callN Try.prog polG (kf + 1) 30 [.int .i64 n, .sl 1 0 m none m 2, .int .i64 x, .sl 2 0 p none p 1] [.arr 3 [.agg [.int .i64 n, .imm .arg 2 lc, .int .i64 x]] true 0, .arr 2 els true 0, .arr 1 rws true 0] = some (.bool true, [.arr 3 [.agg [.int .i64 n, .imm .arg 2 lc, .int .i64 x]] true 0, .arr 2 els true 0, .arr 1 rws true 0])) : RunsTo Try.prog polG 8 (sub [1, 1, 1, 1, 0] B8) (env8 (.agg [.int .i64 n, .imm .arg 2 lc, .int .i64 x]) (.imm .arg 1 rds) (.ptr 0 0 0 1) (.bool false) (.sl 1 0 m none m 2) (.sl 2 0 p none p 1) (.int .i64 e)) [.arr 3 [.agg [.int .i64 n, .imm .arg 2 lc, .int .i64 x]] true 0, .arr 2 els true 0, .arr 1 rws true 0] (.normal) (polG.keys 8) (env8 (.agg [.int .i64 n, .imm .arg 2 lc, .int .i64 x]) (.imm .arg 1 rds) (.ptr 0 0 0 1) (.bool false) (.sl 1 0 m none m 2) (.sl 2 0 p none p 1) (.int .i64 e)) [.arr 3 [.agg [.int .i64 n, .imm .arg 2 lc, .int .i64 x]] true 0, .arr 2 els true 0, .arr 1 rws true 0] :=
  RunsTo.hint 1 60 [⟨5, 6, .bool true, [.arr 3 [.agg [.int .i64 n, .imm .arg 2 lc, .int .i64 x]] true 0, .arr 2 els true 0, .arr 1 rws true 0]⟩] fun kf hk => by
    obtain ⟨kf, rfl⟩ : ∃ n, kf = n + 1 := ⟨kf - 1, by omega⟩
    exact ⟨[callN Try.prog polG (kf + 1) 30 [.int .i64 n, .sl 1 0 m none m 2, .int .i64 x, .sl 2 0 p none p 1] [.arr 3 [.agg [.int .i64 n, .imm .arg 2 lc, .int .i64 x]] true 0, .arr 2 els true 0, .arr 1 rws true 0] = some (.bool true, [.arr 3 [.agg [.int .i64 n, .imm .arg 2 lc, .int .i64 x]] true 0, .arr 2 els true 0, .arr 1 rws true 0])], by kernel_rfl, Obls.cons (g0 kf) Obls.nil⟩
theorem lk_y_1 (n : Int) (lc : List HV) (x : Int) (rds : List HV) (m : Nat) (els : List HV) (p : Nat) (rws : List HV) (e : Int)  (g0 : ∀ kf, callN Try.prog polG (kf + 1) 30 [.int .i64 n, .sl 1 0 m none m 2, .int .i64 x, .sl 2 0 p none p 1] [.arr 3 [.agg [.int .i64 n, .imm .arg 2 lc, .int .i64 x]] true 0, .arr 2 els true 0, .arr 1 rws true 0] = some (.bool false, [.arr 3 [.agg [.int .i64 n, .imm .arg 2 lc, .int .i64 x]] true 0, .arr 2 els true 0, .arr 1 rws true 0])) (g1 : e = 10) : RunsTo Try.prog polG 8 (sub [1, 1, 1, 1, 0] B8) (env8 (.agg [.int .i64 n, .imm .arg 2 lc, .int .i64 x]) (.imm .arg 1 rds) (.ptr 0 0 0 1) (.bool false) (.sl 1 0 m none m 2) (.sl 2 0 p none p 1) (.int .i64 e)) [.arr 3 [.agg [.int .i64 n, .imm .arg 2 lc, .int .i64 x]] true 0, .arr 2 els true 0, .arr 1 rws true 0] (.ret) (polG.keys 8) (env8 (.agg [.int .i64 n, .imm .arg 2 lc, .int .i64 x]) (.imm .arg 1 rds) (.ptr 0 0 0 1) (.bool true) (.sl 1 0 m none m 2) (.sl 2 0 p none p 1) (.int .i64 e)) [.arr 3 [.agg [.int .i64 n, .imm .arg 2 lc, .int .i64 x]] true 0, .arr 2 els true 0, .arr 1 rws true 0] :=
  RunsTo.hint 1 60 [⟨5, 6, .bool false, [.arr 3 [.agg [.int .i64 n, .imm .arg 2 lc, .int .i64 x]] true 0, .arr 2 els true 0, .arr 1 rws true 0]⟩, ⟨6, 1, .bool true, [.arr 3 [.agg [.int .i64 n, .imm .arg 2 lc, .int .i64 x]] true 0, .arr 2 els true 0, .arr 1 rws true 0]⟩] fun kf hk => by
    obtain ⟨kf, rfl⟩ : ∃ n, kf = n + 1 := ⟨kf - 1, by omega⟩
    exact ⟨[callN Try.prog polG (kf + 1) 30 [.int .i64 n, .sl 1 0 m none m 2, .int .i64 x, .sl 2 0 p none p 1] [.arr 3 [.agg [.int .i64 n, .imm .arg 2 lc, .int .i64 x]] true 0, .arr 2 els true 0, .arr 1 rws true 0] = some (.bool false, [.arr 3 [.agg [.int .i64 n, .imm .arg 2 lc, .int .i64 x]] true 0, .arr 2 els true 0, .arr 1 rws true 0]), some (HV.bool (decide (e = 10)), ([.arr 3 [.agg [.int .i64 n, .imm .arg 2 lc, .int .i64 x]] true 0, .arr 2 els true 0, .arr 1 rws true 0] : Heap)) = some (.bool true, [.arr 3 [.agg [.int .i64 n, .imm .arg 2 lc, .int .i64 x]] true 0, .arr 2 els true 0, .arr 1 rws true 0])], by kernel_rfl, Obls.cons (g0 kf) (Obls.cons (hintB (decide_eq_true g1)) Obls.nil)⟩
theorem lk_z_0 (n : Int) (lc : List HV) (x : Int) (rds : List HV) (m : Nat) (els : List HV) (p : Nat) (rws : List HV) (e : Int)  (g0 : e = 0) : RunsTo Try.prog polG 8 (sub [1, 1, 1, 1, 1] B8) (env8 (.agg [.int .i64 n, .imm .arg 2 lc, .int .i64 x]) (.imm .arg 1 rds) (.ptr 0 0 0 1) (.bool false) (.sl 1 0 m none m 2) (.sl 2 0 p none p 1) (.int .i64 e)) [.arr 3 [.agg [.int .i64 n, .imm .arg 2 lc, .int .i64 x]] true 0, .arr 2 els true 0, .arr 1 rws true 0] (.ret) (polG.keys 8) (env8 (.agg [.int .i64 n, .imm .arg 2 lc, .int .i64 x]) (.imm .arg 1 rds) (.ptr 0 0 0 1) (.bool true) (.sl 1 0 m none m 2) (.sl 2 0 p none p 1) (.int .i64 e)) [.arr 3 [.agg [.int .i64 n, .imm .arg 2 lc, .int .i64 x]] true 0, .arr 2 els true 0, .arr 1 rws true 0] :=
  RunsTo.hint 1 60 [⟨7, 1, .bool true, [.arr 3 [.agg [.int .i64 n, .imm .arg 2 lc, .int .i64 x]] true 0, .arr 2 els true 0, .arr 1 rws true 0]⟩] fun kf hk => by
    obtain ⟨kf, rfl⟩ : ∃ n, kf = n + 1 := ⟨kf - 1, by omega⟩
    exact ⟨[some (HV.bool (decide (e = 0)), ([.arr 3 [.agg [.int .i64 n, .imm .arg 2 lc, .int .i64 x]] true 0, .arr 2 els true 0, .arr 1 rws true 0] : Heap)) = some (.bool true, [.arr 3 [.agg [.int .i64 n, .imm .arg 2 lc, .int .i64 x]] true 0, .arr 2 els true 0, .arr 1 rws true 0])], by kernel_rfl, Obls.cons (hintB (decide_eq_true g0)) Obls.nil⟩
end Go.Proofs.Ytmhfkhlamnapdaa
end
section
open Go Go.HL
namespace Go.Proofs.Ytmhfkhlamnapdaa
theorem res8 : Try.f8.results.toList = [.tmp 4] := by kernel_rfl
theorem arg_pl {H : Heap} {l : List (Int × Int)} {b m mx : Nat} (hm : l.length = m) (hb : H[b]? = some (.arr 2 (l.map encP) true mx)) : toArg H 6 (.sl b 0 m none m 2) = some (.imm .arg 2 (l.map encP)) := by
  subst hm
  have e : toArg H 6 (.sl b 0 l.length none l.length 2) = if l.length = 0 then some (.imm .arg 2 []) else match view H b 0 l.length l.length 2 with | some l => (match mapO (toArg H 5) l with | some l => some (.imm .arg 2 l) | none => none) | none => none := rfl
  rw [e]
  split
  · rename_i h0
    rw [List.length_eq_zero_iff.1 h0]; rfl
  · have hv : view H b 0 l.length l.length 2 = some (l.map encP) := by
      simp only [view, hb, List.length_map]
      rw [if_pos ⟨trivial, by omega, trivial⟩]
      simp [List.take_of_length_le]
    have hm : mapO (toArg H 5) (l.map encP) = some (l.map encP) := mapO_self (f := toArg H 5) (g := encP) (fun _ => rfl) l
    rw [hv]
    simp only [hm]
theorem argP_pairs8 : ∀ (l : List (Int × Int)), argPL (l.map encP) = some (l.map encP)
  | [] => rfl
  | p :: l => by simp only [List.map_cons, argPL, argP_pairs8 l, encP, argP]
theorem arg_rds {H : Heap} {R : List (List (Int × Int))} {b p mx : Nat} (hp : R.length = p) (hb : H[b]? = some (.arr 1 (R.map encPs) true mx)) : toArg H 6 (.sl b 0 p none p 1) = some (.imm .arg 1 (R.map encRd)) := by
  subst hp
  have e : toArg H 6 (.sl b 0 R.length none R.length 1) = if R.length = 0 then some (.imm .arg 1 []) else match view H b 0 R.length R.length 1 with | some l => (match mapO (toArg H 5) l with | some l => some (.imm .arg 1 l) | none => none) | none => none := rfl
  rw [e]
  split
  · rename_i h0
    rw [List.length_eq_zero_iff.1 h0]; rfl
  · have hv : view H b 0 R.length R.length 1 = some (R.map encPs) := by
      simp only [view, hb, List.length_map]
      rw [if_pos ⟨trivial, by omega, trivial⟩]
      simp [List.take_of_length_le]
    have hm : ∀ (R : List (List (Int × Int))), mapO (toArg H 5) (R.map encPs) = some (R.map encRd) := by
      intro R
      induction R with
      | nil => rfl
      | cons r R ih =>
        have e : toArg H 5 (encPs r) = some (encRd r) := by
          show argP (.imm .own 2 (r.map encP)) = _
          simp only [argP, argP_pairs8]
          rfl
        simp only [List.map_cons, mapO, e, ih]
    rw [hv]
    simp only [hm]
theorem arg_imm_rds (H : Heap) (R : List (List (Int × Int))) : toArg H 6 (.imm .arg 1 (R.map encRd)) = some (.imm .arg 1 (R.map encRd)) := by
  show argP (.imm .arg 1 (R.map encRd)) = _
  have : ∀ (R : List (List (Int × Int))), argPL (R.map encRd) = some (R.map encRd) := by
    intro R
    induction R with
    | nil => rfl
    | cons r R ih => simp only [List.map_cons, argPL, ih, encRd, argP, argP_pairs8]
  simp only [argP, this]
theorem encPs_any (R : List (List (Int × Int))) : (R.map encPs).any isOwn = false := by
  rw [List.any_eq_false]
  intro v hv
  obtain ⟨k, _, rfl⟩ := List.mem_map.1 hv
  simp [encPs, isOwn]
theorem encP_any (l : List (Int × Int)) : (l.map encP).any isOwn = false := by
  rw [List.any_eq_false]
  intro v hv
  obtain ⟨k, _, rfl⟩ := List.mem_map.1 hv
  simp [encP, isOwn]
theorem g16 (l : List (Int × Int)) (B : Blk) : ∀ k, callN Try.prog polG (k + 1) 16 [.imm .arg 2 (l.map encP)] [B] = some (.sl 1 0 (l.take 201).length none (l.take 201).length 2, [B, .arr 2 ((l.take 201).map encP) true 0]) := fun k => by
  rw [prim_call (pol := polG) (g := 16) (F := few16) (by kernel_rfl) (rs := [.imm .arg 2 (l.map encP)]) (by simp only [mapO, arg_pairs']) (res := .own 2 ((l.take 201).map encP)) (by simp only [few16, mapO_map decP_enc])]
  simp only [recv, recvVal, recvCell, encP_any, List.length_map]
  rfl
theorem g28 (R : List (List (Int × Int))) (B C : Blk) : ∀ k, callN Try.prog polG (k + 1) 28 [.imm .arg 1 (R.map encRd)] [B, C] = some (.sl 2 0 (spreadL R).length none (spreadL R).length 1, [B, C, .arr 1 ((spreadL R).map encPs) true 0]) := fun k => by
  rw [prim_call (pol := polG) (g := 28) (F := spread28) (by kernel_rfl) (rs := [.imm .arg 1 (R.map encRd)]) (by simp only [mapO, arg_imm_rds]) (res := .own 1 ((spreadL R).map encPs)) (by simp only [spread28, mapO_map decRd_enc])]
  simp only [recv, recvVal, recvCell, encPs_any, List.length_map]
  rfl
theorem spreadL_len (R : List (List (Int × Int))) : (spreadL R).length ≤ 1000 ∧ ((spreadL R).all fun r => decide (r.length ≤ 1000)) = true := by
  constructor
  · simp [spreadL]; omega
  · rw [List.all_eq_true]
    intro r hr
    obtain ⟨q, _, rfl⟩ := List.mem_map.1 hr
    rw [decide_eq_true_eq, List.length_take]; omega
theorem relayChecks_law (n : Int) (l0 : List (Int × Int)) (x : Int) (R0 : List (List (Int × Int))) : ∃ E H, RunsTo Try.prog polG 8 B8 (args0 [.agg [.int .i64 n, .imm .arg 2 (l0.map encP), .int .i64 x], .imm .arg 1 (R0.map encRd)]) [] .ret (polG.keys 8) E H ∧ E.get 4 = .bool true := by
  have a1 := lk_a_0 n (l0.map encP) x (R0.map encRd)
  have b1 := lk_b_0 n (l0.map encP) x (R0.map encRd) _ _ _ _ (g16 l0 _) (g28 R0 _ _)
  obtain ⟨hs1, hs2⟩ := spreadL_len R0
  have hl201 : (l0.take 201).length ≤ 1000 := by rw [List.length_take]; omega
  generalize hl : l0.take 201 = l at b1 hl201
  generalize hR : spreadL R0 = R at b1 hs1 hs2
  have hH1 : ∀ B C D : Blk, ([B, C, D] : Heap)[1]? = some C := fun _ _ _ => rfl
  have hH2 : ∀ B C D : Blk, ([B, C, D] : Heap)[2]? = some D := fun _ _ _ => rfl
  have al := arg_pl (m := l.length) rfl (hH1 (.arr 3 [.agg [.int .i64 n, .imm .arg 2 (l0.map encP), .int .i64 x]] true 0) (.arr 2 (l.map encP) true 0) (.arr 1 (R.map encPs) true 0))
  have ar := arg_rds (p := R.length) rfl (hH2 (.arr 3 [.agg [.int .i64 n, .imm .arg 2 (l0.map encP), .int .i64 x]] true 0) (.arr 2 (l.map encP) true 0) (.arr 1 (R.map encPs) true 0))
  generalize hHH : ([.arr 3 [.agg [.int .i64 n, .imm .arg 2 (l0.map encP), .int .i64 x]] true 0, .arr 2 (l.map encP) true 0, .arr 1 (R.map encPs) true 0] : Heap) = HH at al ar
  have k29 : ∀ k, callN Try.prog polG (k + 1) 29 [.int .i64 n, .sl 1 0 l.length none l.length 2, .int .i64 x, .sl 2 0 R.length none R.length 1] HH = some (.int .i64 (checkF n l x R), HH) := fun k => by
    rw [prim_call (pol := polG) (g := 29) (F := check29) (by kernel_rfl) (rs := [.int .i64 n, .imm .arg 2 (l.map encP), .int .i64 x, .imm .arg 1 (R.map encRd)]) (by simp only [mapO, al, ar]; rfl) (res := .int .i64 (checkF n l x R)) (by simp only [check29, mapO_map decP_enc, mapO_map decRd_enc]; rw [if_pos ⟨hs1, hs2⟩])]; rfl
  have k18 : ∀ k, callN Try.prog polG (k + 1) 18 [.int .i64 n, .sl 1 0 l.length none l.length 2] HH = some (.bool (rTree n l), HH) := fun k => by
    rw [prim_call (pol := polG) (g := 18) (F := tree18) (by kernel_rfl) (rs := [.int .i64 n, .imm .arg 2 (l.map encP)]) (by simp only [mapO, al]; rfl) (res := .bool (rTree n l)) (by simp only [tree18, mapO_map decP_enc])]; rfl
  have c1 := lk_c_0 n (l0.map encP) x (R0.map encRd) l.length (l.map encP) R.length (R.map encPs) (checkF n l x R) (by rw [hHH]; exact k29)
  have up : ∀ E H, RunsTo Try.prog polG 8 (sub [1, 1, 1] B8) (env8 (.agg [.int .i64 n, .imm .arg 2 (l0.map encP), .int .i64 x]) (.imm .arg 1 (R0.map encRd)) (.ptr 0 0 0 1) (.bool false) (.sl 1 0 l.length none l.length 2) (.sl 2 0 R.length none R.length 1) (.int .i64 (checkF n l x R))) HH .ret (polG.keys 8) E H →
      RunsTo Try.prog polG 8 B8 (args0 [.agg [.int .i64 n, .imm .arg 2 (l0.map encP), .int .i64 x], .imm .arg 1 (R0.map encRd)]) [] .ret (polG.keys 8) E H := fun E H t => by
    rw [← hHH] at t
    have t1 := RunsTo.seq c1 t (c := sub [1, 1] B8) (by kernel_rfl) (by kernel_rfl)
    have t2 := RunsTo.seq b1 t1 (c := sub [1] B8) (by kernel_rfl) (by kernel_rfl)
    exact RunsTo.seq a1 t2 (c := B8) (by kernel_rfl) (by kernel_rfl)
  have hts := tree_same n l
  by_cases hT : rTree n l = true
  · have hTo := hT
    rw [rTree, Bool.and_eq_true, Bool.and_eq_true, decide_eq_true_eq] at hTo
    obtain ⟨⟨hn, hlen⟩, hva, _⟩ := hTo
    have hv := List.all_eq_true.1 hva
    rw [hT] at k18 hts
    by_cases hx1 : x < 0
    · have he : checkF n l x R = 2 := by rw [checkF, if_neg (by omega)]
      have x1 := lk_x_0 n (l0.map encP) x (R0.map encRd) l.length (l.map encP) R.length (R.map encPs) (checkF n l x R) (by rw [hHH]; exact k18) hx1 he
      rw [hHH] at x1
      exact ⟨_, _, up _ _ (RunsTo.seq_out x1 (by simp) (c := sub [1, 1, 1] B8) (b := sub [1, 1, 1, 1] B8) (by kernel_rfl)), rfl⟩
    · by_cases hx2 : n ≤ x
      · have he : checkF n l x R = 2 := by rw [checkF, if_neg (by omega)]
        have x1 := lk_x_2 n (l0.map encP) x (R0.map encRd) l.length (l.map encP) R.length (R.map encPs) (checkF n l x R) (by rw [hHH]; exact k18) hx1 hx2 he
        rw [hHH] at x1
        exact ⟨_, _, up _ _ (RunsTo.seq_out x1 (by simp) (c := sub [1, 1, 1] B8) (b := sub [1, 1, 1, 1] B8) (by kernel_rfl)), rfl⟩
      · have d1 := lk_d_4 n (l0.map encP) x (R0.map encRd) l.length (l.map encP) R.length (R.map encPs) (checkF n l x R) (by rw [hHH]; exact k18) hx1 hx2
        rw [hHH] at d1
        obtain ⟨m, rfl⟩ : ∃ m : Nat, n = (m : Int) := ⟨n.toNat, by omega⟩
        have k30 : ∀ k, callN Try.prog polG (k + 1) 30 [.int .i64 (m : Int), .sl 1 0 l.length none l.length 2, .int .i64 x, .sl 2 0 R.length none R.length 1] HH = some (.bool (completeF m l x R), HH) := fun k => by
          rw [prim_call (pol := polG) (g := 30) (F := complete30) (by kernel_rfl) (rs := [.int .i64 (m : Int), .imm .arg 2 (l.map encP), .int .i64 x, .imm .arg 1 (R.map encRd)]) (by simp only [mapO, al, ar]; rfl) (res := .bool (completeF m l x R)) (by simp only [complete30, mapO_map decP_enc, mapO_map decRd_enc]; rw [if_pos ⟨⟨⟨⟨by omega, by omega⟩, hl201⟩, by omega, by omega⟩, hs1, hs2⟩, Int.toNat_natCast])]; rfl
        have hF : checkF (m : Int) l x R = if completeF m l x R = true then 0 else 10 := by
          rw [checkF, if_pos ⟨hts, by omega, by omega⟩, Int.toNat_natCast, nr_same hv, completeF]
        by_cases hc : completeF m l x R = true
        · rw [hc] at k30
          have e1 := lk_e_0 (m : Int) (l0.map encP) x (R0.map encRd) l.length (l.map encP) R.length (R.map encPs) (checkF (m : Int) l x R) (by rw [hHH]; exact k30)
          have z1 := lk_z_0 (m : Int) (l0.map encP) x (R0.map encRd) l.length (l.map encP) R.length (R.map encPs) (checkF (m : Int) l x R) (by rw [hF, if_pos hc])
          rw [hHH] at e1 z1
          have t1 := RunsTo.seq e1 z1 (c := sub [1, 1, 1, 1] B8) (by kernel_rfl) (by kernel_rfl)
          exact ⟨_, _, up _ _ (RunsTo.seq d1 t1 (c := sub [1, 1, 1] B8) (by kernel_rfl) (by kernel_rfl)), rfl⟩
        · have hc' : completeF m l x R = false := nb_false hc
          rw [hc'] at k30
          have y1 := lk_y_1 (m : Int) (l0.map encP) x (R0.map encRd) l.length (l.map encP) R.length (R.map encPs) (checkF (m : Int) l x R) (by rw [hHH]; exact k30) (by rw [hF, if_neg hc])
          rw [hHH] at y1
          have t1 := RunsTo.seq_out y1 (by simp) (c := sub [1, 1, 1, 1] B8) (b := sub [1, 1, 1, 1, 1] B8) (by kernel_rfl)
          exact ⟨_, _, up _ _ (RunsTo.seq d1 t1 (c := sub [1, 1, 1] B8) (by kernel_rfl) (by kernel_rfl)), rfl⟩
  · have hT' : rTree n l = false := nb_false hT
    rw [hT'] at k18 hts
    have he : checkF n l x R = 2 := by rw [checkF, hts, if_neg (by simp)]
    have x1 := lk_x_5 n (l0.map encP) x (R0.map encRd) l.length (l.map encP) R.length (R.map encPs) (checkF n l x R) (by rw [hHH]; exact k18) he
    rw [hHH] at x1
    exact ⟨_, _, up _ _ (RunsTo.seq_out x1 (by simp) (c := sub [1, 1, 1] B8) (b := sub [1, 1, 1, 1] B8) (by kernel_rfl)), rfl⟩
end Go.Proofs.Ytmhfkhlamnapdaa
end
section
namespace Go.HL
open Go.ChangeShapes Go.WideShapes Go.ChangeAt Go.RowKit Go.Deep
theorem okNil (w : World) (r : Nat) : okOf Ctx.nil w.heap.size false r := by
  refine ⟨fun hM => ?_, by simp⟩
  obtain ⟨b, y, h1, _, _⟩ := M_iff.1 hM
  simp [Ctx.nil] at h1
theorem cell_lt {w : World} {a : Addr} {v : Value} (h : w.cell? a = some v) : a.block < w.heap.size := by
  rcases Nat.lt_or_ge a.block w.heap.size with hl | hl
  · exact hl
  · have : w.heap[a.block]? = none := by simp [hl]
    simp [World.cell?, this] at h
end Go.HL
end
section
namespace Go.HL
open Go.ChangeShapes Go.WideShapes Go.ChangeAt Go.RowKit Go.Deep
theorem pairs_cells {H : Type} {enc : TypeId × Value → H} {P : Program} {W : World} {base fuel : Nat} {sp : Nat → Bool} {held : Bool} {t e q : TypeId} {cs : List Value} {x : DataW H × List MemPlace} (ht : P.underlying t = some (.slice e)) (he : P.underlying e = some (.array 2 q)) (hq : P.underlying q = some (.int .i64)) (ce : P.cellsOf e = 2) (cq : P.cellsOf q = 1)
    (hf : DataW.trod enc P W base sp held fuel t cs = some x) : ∃ (l : List (Int × Int)) (v : Value), cs = [v] ∧ V W (okOf Ctx.nil W.heap.size) Ctx.nil (.imm .arg 2 (l.map encP)) v := by
  rcases open_slice ht hf with ⟨h0, _⟩ | ⟨a', len, cap, m, n, D, Pl, h0, hb, hl, hm, hmm, hx, hel⟩
  · exact ⟨[], _, h0, .imm .arg 2 [] none 0 (fun _ => .bool false) (by simp) (by simp) (by simp) (by simp) (by simp) (by simp)⟩
  · subst h0
    have hlm : len ≤ m := by rw [hmm]; split <;> omega
    have each : ∀ i, i < len → ∃ p : Int × Int, W.cell? (a'.add (i * 2)) = some (.int .i64 p.1) ∧ W.cell? (a'.add (i * 2 + 1)) = some (.int .i64 p.2) := by
      intro i hi
      obtain ⟨cs', h1, h2⟩ := hel i (by omega)
      rw [ce] at h1
      obtain ⟨_, hlen, hcell⟩ := World.cells?_some h1
      obtain ⟨xs, k, _, _, _, hxl, hxs⟩ := DataW.trod_array he h2
      match cs', hlen with
      | [v0, v1], _ =>
        have g0 := hxs 0 (by omega)
        have g1 := hxs 1 (by omega)
        have hx0 : xs[0]? = some xs[0] := List.getElem?_eq_getElem (by omega)
        have hx1 : xs[1]? = some xs[1] := List.getElem?_eq_getElem (by omega)
        rw [cq, hx0] at g0
        rw [cq, hx1] at g1
        simp at g0 g1
        obtain ⟨z0, e0, _, _⟩ := DataW.trod_int hq g0
        obtain ⟨z1, e1, _, _⟩ := DataW.trod_int hq g1
        simp at e0 e1
        subst e0; subst e1
        have c0 := hcell 0 (by omega)
        have c1 := hcell 1 (by omega)
        rw [add_add] at c0 c1
        exact ⟨(z0, z1), by simpa using c0, by simpa using c1⟩
    obtain ⟨f, hf⟩ := choose_lt each
    refine ⟨(List.range len).map f, _, rfl, ?_⟩
    have hlen : (((List.range len).map f).map encP).length = len := by simp
    have key := V.imm (w := W) (ok := okOf Ctx.nil W.heap.size) (c := Ctx.nil) .arg 2 (((List.range len).map f).map encP) (some a') cap (fun j => if j % 2 = 0 then .int .i64 (f (j / 2)).1 else .int .i64 (f (j / 2)).2)
      (by rw [hlen]; exact hl) (by simp) ?_ ?_ ?_ ?_
    · rw [hlen] at key; exact key
    · intro hne
      have h0 : 0 < len := by
        rcases Nat.eq_zero_or_pos len with h | h
        · subst h; simp at hne
        · exact h
      obtain ⟨b, off, spot⟩ := a'
      have hspot : spot = none := by simpa [Addr.add] using World.cell?_spot (hf 0 h0).1
      subst hspot
      refine ⟨b, off, rfl, by simpa [Addr.add] using cell_lt (hf 0 h0).1, okNil W b, fun j hj => ?_⟩
      rw [hlen] at hj
      have hj2 : j / 2 < len := by omega
      obtain ⟨c0, c1⟩ := hf (j / 2) hj2
      by_cases hp : j % 2 = 0
      · rw [if_pos hp]
        have : j / 2 * 2 = j := by omega
        rw [this, add_plain] at c0
        exact c0
      · rw [if_neg hp]
        have : j / 2 * 2 + 1 = j := by omega
        rw [this, add_plain] at c1
        exact c1
    · intro v hv
      obtain ⟨p, _, rfl⟩ := List.mem_map.1 hv
      rfl
    · intro v hv
      obtain ⟨p, _, rfl⟩ := List.mem_map.1 hv
      rfl
    · intro i v j x hi hj
      have hil : i < len := by have := lt_of_get hi; rw [hlen] at this; exact this
      have : v = encP (f i) := by
        rw [List.getElem?_map, List.getElem?_map, List.getElem?_range hil] at hi
        simpa using hi.symm
      subst this
      have hjx : j < 2 := lt_of_get hj
      match j, hjx, hj with
      | 0, _, hj =>
        simp [encP, cellsOf] at hj
        subst hj
        have e1 : (i * 2 + 0) % 2 = 0 := by omega
        have e2 : (i * 2 + 0) / 2 = i := by omega
        rw [if_pos e1, e2]
        exact V.int _ _
      | 1, _, hj =>
        simp [encP, cellsOf] at hj
        subst hj
        have e1 : ¬ (i * 2 + 1) % 2 = 0 := by omega
        have e2 : (i * 2 + 1) / 2 = i := by omega
        rw [if_neg e1, e2]
        exact V.int _ _
def encRdH (r : List (Int × Int)) : HV := .imm .arg 2 (r.map encP)
theorem rounds_cells {H : Type} {enc : TypeId × Value → H} {P : Program} {W : World} {base fuel : Nat} {sp : Nat → Bool} {held : Bool} {s t e q : TypeId} {cs : List Value} {x : DataW H × List MemPlace} (hs : P.underlying s = some (.slice t)) (ct : P.cellsOf t = 1) (ht : P.underlying t = some (.slice e)) (he : P.underlying e = some (.array 2 q)) (hq : P.underlying q = some (.int .i64)) (ce : P.cellsOf e = 2) (cq : P.cellsOf q = 1)
    (hf : DataW.trod enc P W base sp held fuel s cs = some x) : ∃ (R : List (List (Int × Int))) (v : Value), cs = [v] ∧ V W (okOf Ctx.nil W.heap.size) Ctx.nil (.imm .arg 1 (R.map encRdH)) v := by
  rcases open_slice hs hf with ⟨h0, _⟩ | ⟨a', len, cap, m, n, D, Pl, h0, hb, hl, hm, hmm, hx, hel⟩
  · exact ⟨[], _, h0, .imm .arg 1 [] none 0 (fun _ => .bool false) (by simp) (by simp) (by simp) (by simp) (by simp) (by simp)⟩
  · subst h0
    have hlm : len ≤ m := by rw [hmm]; split <;> omega
    have each : ∀ i, i < len → ∃ p : List (Int × Int) × Value, W.cell? (a'.add i) = some p.2 ∧ V W (okOf Ctx.nil W.heap.size) Ctx.nil (encRdH p.1) p.2 := by
      intro i hi
      obtain ⟨cs', h1, h2⟩ := hel i (by omega)
      rw [ct, Nat.mul_one] at h1
      obtain ⟨_, hlen, hcell⟩ := World.cells?_some h1
      obtain ⟨l, v, rfl, hV⟩ := pairs_cells ht he hq ce cq h2
      have c0 := hcell 0 (by omega)
      rw [add_add] at c0
      exact ⟨(l, v), by simpa using c0, hV⟩
    obtain ⟨f, hf⟩ := choose_lt each
    refine ⟨(List.range len).map fun i => (f i).1, _, rfl, ?_⟩
    have hlen : (((List.range len).map fun i => (f i).1).map encRdH).length = len := by simp
    have key := V.imm (w := W) (ok := okOf Ctx.nil W.heap.size) (c := Ctx.nil) .arg 1 (((List.range len).map fun i => (f i).1).map encRdH) (some a') cap (fun j => (f j).2)
      (by rw [hlen]; exact hl) (by simp) ?_ ?_ ?_ ?_
    · rw [hlen] at key; exact key
    · intro hne
      have h0 : 0 < len := by
        rcases Nat.eq_zero_or_pos len with h | h
        · subst h; simp at hne
        · exact h
      obtain ⟨b, off, spot⟩ := a'
      have hspot : spot = none := by simpa [Addr.add] using World.cell?_spot (hf 0 h0).1
      subst hspot
      refine ⟨b, off, rfl, by simpa [Addr.add] using cell_lt (hf 0 h0).1, okNil W b, fun j hj => ?_⟩
      rw [hlen, Nat.mul_one] at hj
      have c0 := (hf j hj).1
      rw [add_plain] at c0
      exact c0
    · intro v hv
      obtain ⟨p, _, rfl⟩ := List.mem_map.1 hv
      rfl
    · intro v hv
      obtain ⟨p, _, rfl⟩ := List.mem_map.1 hv
      rfl
    · intro i v j x hi hj
      have hil : i < len := by have := lt_of_get hi; rw [hlen] at this; exact this
      have : v = encRdH (f i).1 := by
        rw [List.getElem?_map, List.getElem?_map, List.getElem?_range hil] at hi
        simpa using hi.symm
      subst this
      have hjx : j < 1 := lt_of_get hj
      obtain rfl : j = 0 := by omega
      simp [encRdH, cellsOf] at hj
      subst hj
      have e1 : i * 1 + 0 = i := by omega
      rw [e1]
      exact (hf i hil).2
end Go.HL
end
