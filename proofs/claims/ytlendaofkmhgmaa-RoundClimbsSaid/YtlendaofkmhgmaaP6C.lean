/- A part of the proof. -/
import Derived.Test.YtlendaofkmhgmaaP6B
set_option linter.unusedVariables false
set_option linter.unusedSimpArgs false
section
open Go Go.HL
namespace Go.Proofs.Ytlendaofkmhgmaa
set_option maxRecDepth 100000
open Go.Proofs.Try renaming prog → Tp
open Go.HL.HV renaming undef → Ud
noncomputable def B70 : Code := Try.f70.body.getD .skip
abbrev env70 (v0 v1 v2 v5 v6 v7 v8 v9 v11 v12 : HV) : Env := [(0, v0), (1, v1), (2, v2), (5, v5), (6, v6), (7, v7), (8, v8), (9, v9), (11, v11), (12, v12)]
theorem ed_a_0 (N : Nat) (rw ps : List HV) (f : Nat) (g0 : (if (cellsOf (.agg ps)).all cellV then some (newV (.agg ps) []) else none) = some (.ptr 0 0 0 1, [.arr 11 [.agg ps] true 0])) : RT polSo 70 (sub [0] B70) [(0, .imm .arg 1 rw), (1, .i (f : Int)), (2, .agg ps)] [] .normal (env70 (.imm .arg 1 rw) (.i (f : Int)) (.agg ps) (.ptr 0 0 0 1) (.imm .lit 3 []) Ud Ud Ud Ud Ud) [.arr 11 [.agg ps] true 0] :=
  RunsTo.hin N 60 [⟨0, 0, .ptr 0 0 0 1, [.arr 11 [.agg ps] true 0]⟩] fun kf hk => ⟨_, by kernel_rfl, (oC (g0) .nil)⟩
theorem ed_b_0 (N : Nat) (rw ps : List HV) (f : Nat)  {y7 y8 y9 y11 y12 : HV} : RT polSo 70 (sub [1, 0] B70) (env70 (.imm .arg 1 rw) (.i (f : Int)) (.agg ps) (.ptr 0 0 0 1) (.imm .lit 3 []) y7 y8 y9 y11 y12) [.arr 11 [.agg ps] true 0] .normal (env70 (.imm .arg 1 rw) (.i (f : Int)) (.agg ps) (.ptr 0 0 0 1) (.imm .lit 3 []) (.sl 1 0 0 none 0 3) y8 y9 y11 y12) [.arr 11 [.agg ps] true 0, .arr 3 [] true 0] :=
  RunsTo.hin N 60 [] fun kf hk => ⟨_, by kernel_rfl, .nil⟩
theorem ed_c_0 (N : Nat) (rw ps : List HV) (f : Nat) (m : Nat) (es : List HV) {y8 y9 y11 y12 : HV} : RT polSo 70 (sub [1, 1, 0, 0] B70) (env70 (.imm .arg 1 rw) (.i (f : Int)) (.agg ps) (.ptr 0 0 0 1) (.imm .lit 3 []) (.sl 1 0 m none m 3) y8 y9 y11 y12) [.arr 11 [.agg ps] true 0, .arr 3 es true 0] .normal (env70 (.imm .arg 1 rw) (.i (f : Int)) (.agg ps) (.ptr 0 0 0 1) (.imm .lit 3 []) (.sl 1 0 m none m 3) y8 y9 (.i (rw.length : Int)) (.i 0)) [.arr 11 [.agg ps] true 0, .arr 3 es true 0] :=
  RunsTo.hin N 60 [] fun kf hk => ⟨_, by kernel_rfl, .nil⟩
theorem ed_d_0 (N : Nat) (rw ps : List HV) (f : Nat) (m : Nat) (es : List HV) (i : Nat) {y8 y9 : HV}(g0 : (i : Int) < (rw.length : Int)) : RunsTo Tp polSo 70 (sub [1, 1, 0, 1, 0, 0, 0] B70) (env70 (.imm .arg 1 rw) (.i (f : Int)) (.agg ps) (.ptr 0 0 0 1) (.imm .lit 3 []) (.sl 1 0 m none m 3) y8 y9 (.i (rw.length : Int)) (.i (i : Int))) [.arr 11 [.agg ps] true 0, .arr 3 es true 0] .normal [0, 1, 2, 5, 6, 7, 8, 9, 11, 12, 13] [(0, .imm .arg 1 rw), (1, .i (f : Int)), (2, .agg ps), (5, .ptr 0 0 0 1), (6, .imm .lit 3 []), (7, .sl 1 0 m none m 3), (8, y8), (9, y9), (11, .i (rw.length : Int)), (12, .i (i : Int)), (13, .bool true)] [.arr 11 [.agg ps] true 0, .arr 3 es true 0] :=
  RunsTo.hin N 60 [⟨3, 0, .bool true, [.arr 11 [.agg ps] true 0, .arr 3 es true 0]⟩] fun kf hk => ⟨_, by kernel_rfl, (oB [.arr 11 [.agg ps] true 0, .arr 3 es true 0] (decide_eq_true g0) .nil)⟩
theorem ed_d_1 (N : Nat) (rw ps : List HV) (f : Nat) (m : Nat) (es : List HV) (i : Nat) {y8 y9 : HV}(g0 : ¬ ((i : Int) < (rw.length : Int))) : RunsTo Tp polSo 70 (sub [1, 1, 0, 1, 0, 0, 0] B70) (env70 (.imm .arg 1 rw) (.i (f : Int)) (.agg ps) (.ptr 0 0 0 1) (.imm .lit 3 []) (.sl 1 0 m none m 3) y8 y9 (.i (rw.length : Int)) (.i (i : Int))) [.arr 11 [.agg ps] true 0, .arr 3 es true 0] .normal [0, 1, 2, 5, 6, 7, 8, 9, 11, 12, 13] [(0, .imm .arg 1 rw), (1, .i (f : Int)), (2, .agg ps), (5, .ptr 0 0 0 1), (6, .imm .lit 3 []), (7, .sl 1 0 m none m 3), (8, y8), (9, y9), (11, .i (rw.length : Int)), (12, .i (i : Int)), (13, .bool false)] [.arr 11 [.agg ps] true 0, .arr 3 es true 0] :=
  RunsTo.hin N 60 [⟨3, 0, .bool false, [.arr 11 [.agg ps] true 0, .arr 3 es true 0]⟩] fun kf hk => ⟨_, by kernel_rfl, (oB [.arr 11 [.agg ps] true 0, .arr 3 es true 0] (decide_eq_false g0) .nil)⟩
theorem ed_et_0 (N : Nat) (rw ps : List HV) (f : Nat) (m : Nat) (es : List HV) (i : Nat) {y8 y9 : HV} : RT polSo 70 (sub [1, 1, 0, 1, 0, 0, 1, 0] B70) [(0, .imm .arg 1 rw), (1, .i (f : Int)), (2, .agg ps), (5, .ptr 0 0 0 1), (6, .imm .lit 3 []), (7, .sl 1 0 m none m 3), (8, y8), (9, y9), (11, .i (rw.length : Int)), (12, .i (i : Int)), (13, .bool true)] [.arr 11 [.agg ps] true 0, .arr 3 es true 0] .normal (env70 (.imm .arg 1 rw) (.i (f : Int)) (.agg ps) (.ptr 0 0 0 1) (.imm .lit 3 []) (.sl 1 0 m none m 3) y8 y9 (.i (rw.length : Int)) (.i (i : Int))) [.arr 11 [.agg ps] true 0, .arr 3 es true 0] :=
  RunsTo.hin N 60 [] fun kf hk => ⟨_, by kernel_rfl, .nil⟩
theorem ed_ef_0 (N : Nat) (rw ps : List HV) (f : Nat) (m : Nat) (es : List HV) (i : Nat) {y8 y9 : HV} : RT polSo 70 (sub [1, 1, 0, 1, 0, 0, 1, 0] B70) [(0, .imm .arg 1 rw), (1, .i (f : Int)), (2, .agg ps), (5, .ptr 0 0 0 1), (6, .imm .lit 3 []), (7, .sl 1 0 m none m 3), (8, y8), (9, y9), (11, .i (rw.length : Int)), (12, .i (i : Int)), (13, .bool false)] [.arr 11 [.agg ps] true 0, .arr 3 es true 0] (.exit 0) (env70 (.imm .arg 1 rw) (.i (f : Int)) (.agg ps) (.ptr 0 0 0 1) (.imm .lit 3 []) (.sl 1 0 m none m 3) y8 y9 (.i (rw.length : Int)) (.i (i : Int))) [.arr 11 [.agg ps] true 0, .arr 3 es true 0] :=
  RunsTo.hin N 60 [] fun kf hk => ⟨_, by kernel_rfl, .nil⟩
theorem ed_f_0 (N : Nat) (rw ps : List HV) (f : Nat) (m : Nat) (es : List HV) (i : Nat) {y8 y9 : HV} : RT polSo 70 (sub [1, 1, 0, 1, 0, 0, 1, 1, 0, 0, 0] B70) (env70 (.imm .arg 1 rw) (.i (f : Int)) (.agg ps) (.ptr 0 0 0 1) (.imm .lit 3 []) (.sl 1 0 m none m 3) y8 y9 (.i (rw.length : Int)) (.i (i : Int))) [.arr 11 [.agg ps] true 0, .arr 3 es true 0] .normal (env70 (.imm .arg 1 rw) (.i (f : Int)) (.agg ps) (.ptr 0 0 0 1) (.imm .lit 3 []) (.sl 1 0 m none m 3) (.i (i : Int)) y9 (.i (rw.length : Int)) (.i (i : Int))) [.arr 11 [.agg ps] true 0, .arr 3 es true 0] :=
  RunsTo.hin N 60 [] fun kf hk => ⟨_, by kernel_rfl, .nil⟩
theorem ed_g_0 (N : Nat) (rw ps : List HV) (f : Nat) (m : Nat) (es : List HV) (i : Nat) {y9 : HV} : RT polSo 70 (sub [1, 1, 0, 1, 0, 0, 1, 1, 0, 0, 1, 0] B70) (env70 (.imm .arg 1 rw) (.i (f : Int)) (.agg ps) (.ptr 0 0 0 1) (.imm .lit 3 []) (.sl 1 0 m none m 3) (.i (i : Int)) y9 (.i (rw.length : Int)) (.i (i : Int))) [.arr 11 [.agg ps] true 0, .arr 3 es true 0] .normal (env70 (.imm .arg 1 rw) (.i (f : Int)) (.agg ps) (.ptr 0 0 0 1) (.imm .lit 3 []) (.sl 1 0 m none m 3) (.i (i : Int)) (.i (f : Int)) (.i (rw.length : Int)) (.i (i : Int))) [.arr 11 [.agg ps] true 0, .arr 3 es true 0] :=
  RunsTo.hin N 60 [] fun kf hk => ⟨_, by kernel_rfl, .nil⟩
theorem ed_h_0 (N : Nat) (rw ps : List HV) (f : Nat) (m : Nat) (es : List HV) (i j : Nat) {l0 : List HV} {x0 : Int} {x1 : Int} {x2 : Int} (g0 : (j : Int) < (i : Int)) (g1 : idxV Tp 68 (.imm .arg 1 rw) (.i (j : Int)) = some (.vptr (.imm .arg 1 l0))) (g2 : idxV Tp 23 (.imm .arg 1 l0) (.i (i : Int)) = some (.vptr (.i x0))) (g3 : idxV Tp 66 (.ptr 0 0 0 1) (.i (j : Int)) = some (.ptr 0 0 j 1)) (g4 : loadV Tp [.arr 11 [.agg ps] true 0, .arr 3 es true 0] 3 (.ptr 0 0 j 1) = some (.i x1)) (g5 : idxV Tp 66 (.ptr 0 0 0 1) (.i (i : Int)) = some (.ptr 0 0 i 1)) (g6 : loadV Tp [.arr 11 [.agg ps] true 0, .arr 3 es true 0] 3 (.ptr 0 0 i 1) = some (.i x2)) (g7 : appV [.arr 11 [.agg ps] true 0, .arr 3 es true 0] 3 24 (.sl 1 0 m none m 3) [.agg [.i (IntKind.i64.wrap (IntKind.i64.wrap (x0 + x1) + x2)), .i (j : Int), .i (i : Int)]] = some (.sl 1 0 (m + 1) none (m + 1) 3, [.arr 11 [.agg ps] true 0, .arr 3 (es ++ [.agg [.i (IntKind.i64.wrap (IntKind.i64.wrap (x0 + x1) + x2)), .i (j : Int), .i (i : Int)]]) true 0])) : RT polSo 70 (sub [1, 1, 0, 1, 0, 0, 1, 1, 0, 0, 1, 1, 0, 0] B70) (env70 (.imm .arg 1 rw) (.i (f : Int)) (.agg ps) (.ptr 0 0 0 1) (.imm .lit 3 []) (.sl 1 0 m none m 3) (.i (i : Int)) (.i (j : Int)) (.i (rw.length : Int)) (.i (i : Int))) [.arr 11 [.agg ps] true 0, .arr 3 es true 0] .normal (env70 (.imm .arg 1 rw) (.i (f : Int)) (.agg ps) (.ptr 0 0 0 1) (.imm .lit 3 []) (.sl 1 0 (m + 1) none (m + 1) 3) (.i (i : Int)) (.i (IntKind.i64.wrap ((j : Int) + 1))) (.i (rw.length : Int)) (.i (i : Int))) [.arr 11 [.agg ps] true 0, .arr 3 (es ++ [.agg [.i (IntKind.i64.wrap (IntKind.i64.wrap (x0 + x1) + x2)), .i (j : Int), .i (i : Int)]]) true 0] :=
  RunsTo.hin N 60 [⟨6, 2, .bool true, [.arr 11 [.agg ps] true 0, .arr 3 es true 0]⟩, ⟨8, 3, .vptr (.imm .arg 1 l0), [.arr 11 [.agg ps] true 0, .arr 3 es true 0]⟩, ⟨8, 6, .vptr (.i x0), [.arr 11 [.agg ps] true 0, .arr 3 es true 0]⟩, ⟨8, 9, .ptr 0 0 j 1, [.arr 11 [.agg ps] true 0, .arr 3 es true 0]⟩, ⟨8, 10, .i x1, [.arr 11 [.agg ps] true 0, .arr 3 es true 0]⟩, ⟨8, 13, .ptr 0 0 i 1, [.arr 11 [.agg ps] true 0, .arr 3 es true 0]⟩, ⟨8, 14, .i x2, [.arr 11 [.agg ps] true 0, .arr 3 es true 0]⟩, ⟨8, 20, .sl 1 0 (m + 1) none (m + 1) 3, [.arr 11 [.agg ps] true 0, .arr 3 (es ++ [.agg [.i (IntKind.i64.wrap (IntKind.i64.wrap (x0 + x1) + x2)), .i (j : Int), .i (i : Int)]]) true 0]⟩] fun kf hk => ⟨_, by kernel_rfl, (oB [.arr 11 [.agg ps] true 0, .arr 3 es true 0] (decide_eq_true g0) (oP [.arr 11 [.agg ps] true 0, .arr 3 es true 0] g1 (oP [.arr 11 [.agg ps] true 0, .arr 3 es true 0] g2 (oP [.arr 11 [.agg ps] true 0, .arr 3 es true 0] g3 (oP [.arr 11 [.agg ps] true 0, .arr 3 es true 0] g4 (oP [.arr 11 [.agg ps] true 0, .arr 3 es true 0] g5 (oP [.arr 11 [.agg ps] true 0, .arr 3 es true 0] g6 (oC (g7) .nil))))))))⟩
theorem ed_h_1 (N : Nat) (rw ps : List HV) (f : Nat) (m : Nat) (es : List HV) (i j : Nat)(g0 : ¬ ((j : Int) < (i : Int))) : RT polSo 70 (sub [1, 1, 0, 1, 0, 0, 1, 1, 0, 0, 1, 1, 0, 0] B70) (env70 (.imm .arg 1 rw) (.i (f : Int)) (.agg ps) (.ptr 0 0 0 1) (.imm .lit 3 []) (.sl 1 0 m none m 3) (.i (i : Int)) (.i (j : Int)) (.i (rw.length : Int)) (.i (i : Int))) [.arr 11 [.agg ps] true 0, .arr 3 es true 0] (.exit 2) (env70 (.imm .arg 1 rw) (.i (f : Int)) (.agg ps) (.ptr 0 0 0 1) (.imm .lit 3 []) (.sl 1 0 m none m 3) (.i (i : Int)) (.i (j : Int)) (.i (rw.length : Int)) (.i (i : Int))) [.arr 11 [.agg ps] true 0, .arr 3 es true 0] :=
  RunsTo.hin N 60 [⟨6, 2, .bool false, [.arr 11 [.agg ps] true 0, .arr 3 es true 0]⟩] fun kf hk => ⟨_, by kernel_rfl, (oB [.arr 11 [.agg ps] true 0, .arr 3 es true 0] (decide_eq_false g0) .nil)⟩
theorem ed_i_0 (N : Nat) (rw ps : List HV) (f : Nat) (m : Nat) (es : List HV) (i : Nat) {y8 y9 : HV} : RT polSo 70 (sub [1, 1, 0, 1, 0, 0, 1, 1, 1] B70) (env70 (.imm .arg 1 rw) (.i (f : Int)) (.agg ps) (.ptr 0 0 0 1) (.imm .lit 3 []) (.sl 1 0 m none m 3) y8 y9 (.i (rw.length : Int)) (.i (i : Int))) [.arr 11 [.agg ps] true 0, .arr 3 es true 0] .normal (env70 (.imm .arg 1 rw) (.i (f : Int)) (.agg ps) (.ptr 0 0 0 1) (.imm .lit 3 []) (.sl 1 0 m none m 3) y8 y9 (.i (rw.length : Int)) (.i (IntKind.i64.wrap ((i : Int) + 1)))) [.arr 11 [.agg ps] true 0, .arr 3 es true 0] :=
  RunsTo.hin N 60 [] fun kf hk => ⟨_, by kernel_rfl, .nil⟩
theorem ed_j_0 (N : Nat) (rw ps : List HV) (f : Nat) (m : Nat) (es : List HV) {y8 y9 y11 y12 : HV} {H0 : Heap} (g0 : ∀ kf, N ≤ kf → callN Tp polSo (kf + 1) 76 [.sl 1 0 m none m 3, .func 77 [] []] [.arr 11 [.agg ps] true 0, .arr 3 es true 0] = some (.tuple [], H0)) : RT polSo 70 (sub [1, 1, 1] B70) (env70 (.imm .arg 1 rw) (.i (f : Int)) (.agg ps) (.ptr 0 0 0 1) (.imm .lit 3 []) (.sl 1 0 m none m 3) y8 y9 y11 y12) [.arr 11 [.agg ps] true 0, .arr 3 es true 0] .ret (env70 (.imm .arg 1 rw) (.i (f : Int)) (.agg ps) (.ptr 0 0 0 1) (.sl 1 0 m none m 3) (.sl 1 0 m none m 3) y8 y9 y11 y12) H0 :=
  RunsTo.hin N 60 [⟨10, 1, .tuple [], H0⟩] fun kf hk => ⟨_, by kernel_rfl, (oC (g0 kf (by omega)) .nil)⟩
end Go.Proofs.Ytlendaofkmhgmaa
end
section
open Go Go.HL
namespace Go.Proofs.Ytlendaofkmhgmaa
open Go.Proofs.Try renaming prog → Tp
open Go.HL.HV renaming undef → Ud
section
variable {d : List (List Int)}
abbrev imE (d : List (List Int)) (v4 v5 v6 v7 v8 v13 v14 v15 v29 v30 v31 v36 v37 v38 : HV) : Env := env46 (.imm .arg 1 (d.map encR)) (.bool false) v4 v5 v6 v7 v8 v13 v14 v15 v29 v30 v31 v36 v37 v38
abbrev imA (d : List (List Int)) (i : Nat) : Env := imE d Ud Ud Ud Ud Ud (.imm .arg 1 (d.map encR)) (.int .i64 (d.length : Int)) (.int .i64 (i : Int)) Ud Ud Ud Ud Ud Ud
abbrev imB (d : List (List Int)) (i : Nat) : Env := imE d Ud Ud Ud Ud Ud Ud Ud Ud (.imm .arg 1 (d.map encR)) (.int .i64 (d.length : Int)) (.int .i64 (i : Int)) Ud Ud Ud
abbrev imC (d : List (List Int)) (i : Nat) (l : List Int) (j : Nat) : Env := imE d Ud (.int .i64 (i : Int)) Ud Ud Ud Ud Ud Ud (.imm .arg 1 (d.map encR)) (.int .i64 (d.length : Int)) (.int .i64 (i : Int)) (.imm .arg 1 (l.map encI)) (.int .i64 (l.length : Int)) (.int .i64 (j : Int))
def rowOk (d : List (List Int)) (i : Nat) : Prop := rowLen d i ∧ ∀ v, v ∈ d.getD i [] → mi v
open Classical in
theorem im_rows (hd : d.length ≤ 1000) (hw : ∀ r, r ∈ d → r.length ≤ 1000) : ∀ (k i : Nat), i + k = d.length →
    ∃ x E, RT polM 46 (sub [1, 1, 0, 1, 0] B46) (imA d i) [] x E [] ∧
      ((x = .exit 0 ∧ E = imA d d.length ∧ ∀ a, i ≤ a → a < d.length → rowOk d a) ∨ (x = .ret ∧ E.get 2 = .bool false ∧ ¬ ∀ a, a < d.length → rowOk d a)) := by
  intro k
  induction k with
  | zero =>
    intro i hi
    have hi : i = d.length := by omega
    subst hi
    have s1 := im_l_3 0 (d.map encR) d.length [] [] (by rw [List.length_map]; omega)
    rw [List.length_map] at s1
    exact ⟨_, _, lpo s1, .inl ⟨rfl, rfl, fun a h1 h2 => by omega⟩⟩
  | succ k ih =>
    intro i hi
    have hil : i < d.length := by omega
    have hg := gri' hil
    by_cases c : (d.getD i []).length = d.length
    · have hr9 : (d.getD i []).length ≤ 1000 := by omega
      have hcf := cf_call (d.getD i []) [] hr9
      obtain ⟨N, hN⟩ := CallsTo.from hcf
      by_cases c2 : ∀ v, v ∈ d.getD i [] → mi v
      · rw [decide_eq_false (fun h => h c2)] at hN
        have s1 := im_l_1 N (d.map encR) i [] [] _ [] (by rw [List.length_map]; omega) hg (by rw [List.length_map, List.length_map]; omega) hN
        rw [wrap_succ (by omega), List.length_map] at s1
        obtain ⟨x, E, h1, h2⟩ := ih (i + 1) (by omega)
        refine ⟨x, E, lop s1 rfl h1, ?_⟩
        rcases h2 with ⟨k1, k2, k3⟩ | h2
        · exact .inl ⟨k1, k2, fun a h1 h2 => by
            by_cases e : a = i
            · rw [e]; exact ⟨c, c2⟩
            · exact k3 a (by omega) h2⟩
        · exact .inr h2
      · rw [decide_eq_true c2] at hN
        have s1 := im_l_0 N (d.map encR) i [] [] _ [] (by rw [List.length_map]; omega) hg (by rw [List.length_map, List.length_map]; omega) hN
        rw [List.length_map] at s1
        exact ⟨_, _, lpo s1, .inr ⟨rfl, rfl, fun h => c2 (h i hil).2⟩⟩
    · have s1 := im_l_2 0 (d.map encR) i [] [] _ (by rw [List.length_map]; omega) hg (by rw [List.length_map, List.length_map]; omega)
      rw [List.length_map] at s1
      exact ⟨_, _, lpo s1, .inr ⟨rfl, rfl, fun h => c (h i hil).1⟩⟩
theorem im_cells (hd : d.length ≤ 1000) (hr : ∀ a, a < d.length → rowLen d a) {i : Nat} (hi : i < d.length) : ∀ (k j : Nat), j + k = d.length →
    ∃ x E, RT polM 46 (sub [1, 1, 1, 0, 1, 0, 0, 1, 1, 0, 0, 1, 1, 0] B46) (imC d i (d.getD i []) j) [] x E [] ∧
      ((x = .exit 4 ∧ E = imC d i (d.getD i []) d.length ∧ ∀ a, j ≤ a → a < d.length → symAt d i a) ∨ (x = .ret ∧ E.get 2 = .bool false ∧ ¬ ∀ a, a < d.length → symAt d i a)) := by
  intro k
  have hl : ((d.getD i []).map encI).length = d.length := by rw [List.length_map]; exact hr i hi
  induction k with
  | zero =>
    intro j hj
    have hj : j = d.length := by omega
    subst hj
    have s1 := im_k_4 0 (d.map encR) i [] ((d.getD i []).map encI) d.length (by rw [hl]; omega)
    rw [List.length_map, List.length_map] at s1
    exact ⟨_, _, lpo s1, .inl ⟨rfl, rfl, fun a h1 h2 => by omega⟩⟩
  | succ k ih =>
    intro j hj
    have hjl : j < d.length := by omega
    have bad : ∀ E, RT polM 46 (sub [1, 1, 1, 0, 1, 0, 0, 1, 1, 0, 0, 1, 1, 0, 0] B46) (imC d i (d.getD i []) j) [] .ret E [] → E.get 2 = .bool false → ¬ symAt d i j → _ := fun E t hE hc =>
      (⟨_, E, lpo t, .inr ⟨rfl, hE, fun h => hc (h j hjl)⟩⟩ : ∃ x E, RT polM 46 (sub [1, 1, 1, 0, 1, 0, 0, 1, 1, 0, 0, 1, 1, 0] B46) (imC d i (d.getD i []) j) [] x E [] ∧
      ((x = .exit 4 ∧ E = imC d i (d.getD i []) d.length ∧ ∀ a, j ≤ a → a < d.length → symAt d i a) ∨ (x = .ret ∧ E.get 2 = .bool false ∧ ¬ ∀ a, a < d.length → symAt d i a)))
    have good : ∀ v7 v8, symAt d i j → RT polM 46 (sub [1, 1, 1, 0, 1, 0, 0, 1, 1, 0, 0, 1, 1, 0, 0] B46) (imC d i (d.getD i []) j) [] .normal (imE d Ud (.int .i64 (i : Int)) Ud v7 v8 Ud Ud Ud (.imm .arg 1 (d.map encR)) (.int .i64 (d.length : Int)) (.int .i64 (i : Int)) (.imm .arg 1 ((d.getD i []).map encI)) (.int .i64 ((d.getD i []).length : Int)) (.int .i64 (IntKind.i64.wrap ((j : Int) + 1)))) [] → _ := fun v7 v8 hc t => (by
      rw [wrap_succ (by omega)] at t
      obtain ⟨x, E, h1, h2⟩ := ih (j + 1) (by omega)
      refine ⟨x, E, lop t rfl h1, ?_⟩
      rcases h2 with ⟨k1, k2, k3⟩ | h2
      · exact .inl ⟨k1, k2, fun a h1 h2 => by
          by_cases e : a = j
          · rw [e]; exact hc
          · exact k3 a (by omega) h2⟩
      · exact .inr h2 : ∃ x E, RT polM 46 (sub [1, 1, 1, 0, 1, 0, 0, 1, 1, 0, 0, 1, 1, 0] B46) (imC d i (d.getD i []) j) [] x E [] ∧
      ((x = .exit 4 ∧ E = imC d i (d.getD i []) d.length ∧ ∀ a, j ≤ a → a < d.length → symAt d i a) ∨ (x = .ret ∧ E.get 2 = .bool false ∧ ¬ ∀ a, a < d.length → symAt d i a)))
    have gj := gri' hjl
    have g1 := gat (hr i hi) hjl
    have g2 := gat (hr j hjl) hi
    have hjm : (j : Int) < ((((d.getD i []).map encI).length : Nat) : Int) := by rw [hl]; omega
    by_cases c3 : at2 d i j = at2 d j i
    · by_cases c4 : i = j
      · by_cases c5 : at2 d i j = 0
        · have s := im_k_0 0 (d.map encR) i [] ((d.getD i []).map encI) j _ _ _ hjm g1 gj g2 c3 (by omega) c5
          rw [List.length_map, List.length_map] at s
          exact good _ _ ⟨c3, fun _ => c5⟩ s
        · have s := im_k_1 0 (d.map encR) i [] ((d.getD i []).map encI) j _ _ _ hjm g1 gj g2 c3 (by omega) c5
          rw [List.length_map, List.length_map] at s
          exact bad _ s rfl fun h => c5 (h.2 c4)
      · have s := im_k_2 0 (d.map encR) i [] ((d.getD i []).map encI) j _ _ _ hjm g1 gj g2 c3 (by omega)
        rw [List.length_map, List.length_map] at s
        exact good _ _ ⟨c3, fun h => absurd h c4⟩ s
    · have s := im_k_3 0 (d.map encR) i [] ((d.getD i []).map encI) j _ _ _ hjm g1 gj g2 c3
      rw [List.length_map, List.length_map] at s
      exact bad _ s rfl fun h => c3 h.1
theorem im_outer (hd : d.length ≤ 1000) (hr : ∀ a, a < d.length → rowLen d a) : ∀ (k i : Nat), i + k = d.length →
    ∃ x E, RT polM 46 (sub [1, 1, 1, 0, 1, 0] B46) (imB d i) [] x E [] ∧
      ((x = .exit 2 ∧ E = imB d d.length ∧ ∀ b, i ≤ b → b < d.length → ∀ a, a < d.length → symAt d b a) ∨ (x = .ret ∧ E.get 2 = .bool false ∧ ¬ ∀ b, b < d.length → ∀ a, a < d.length → symAt d b a)) := by
  intro k
  induction k with
  | zero =>
    intro i hi
    have hi : i = d.length := by omega
    subst hi
    have s1 := im_e_1 0 (d.map encR) d.length [] (by rw [List.length_map]; omega)
    have s2 := im_ff_0 0 (d.map encR) d.length []
    rw [List.length_map] at s1 s2
    have t1 := sqo s2 (c := sub [1, 1, 1, 0, 1, 0, 0, 1] B46) (b := sub [1, 1, 1, 0, 1, 0, 0, 1, 1] B46)
    have t2 := sq s1 t1 (c := sub [1, 1, 1, 0, 1, 0, 0] B46)
    exact ⟨_, _, lpo t2, .inl ⟨rfl, rfl, fun a h1 h2 => by omega⟩⟩
  | succ k ih =>
    intro i hi
    have hil : i < d.length := by omega
    have s1 := im_e_0 0 (d.map encR) i [] (by rw [List.length_map]; omega)
    have s2 := im_ft_0 0 (d.map encR) i []
    have g1 := im_g_0 0 (d.map encR) i [] [] _ (gri' hil)
    have g2 := im_h_0 0 (d.map encR) i [] ((d.getD i []).map encI)
    rw [List.length_map] at s1 s2 g1
    rw [List.length_map, List.length_map] at g2
    obtain ⟨x, E, h1, h2⟩ := im_cells hd hr hil d.length 0 (by omega)
    have h1' := lpi (e0 := imE d Ud (.int .i64 (i : Int)) (.imm .arg 1 ((d.getD i []).map encI)) Ud Ud Ud Ud Ud (.imm .arg 1 (d.map encR)) (.int .i64 (d.length : Int)) (.int .i64 (i : Int)) (.imm .arg 1 ((d.getD i []).map encI)) (.int .i64 ((d.getD i []).length : Int)) (.int .i64 0)) h1 (b := sub [1, 1, 1, 0, 1, 0, 0, 1, 1, 0, 0, 1, 1, 0, 0] B46)
    rcases h2 with ⟨rfl, rfl, k3⟩ | ⟨rfl, k2, k3⟩
    · have n1 := im_n_0 0 (d.map encR) i [] ((d.getD i []).map encI) d.length
      rw [wrap_succ (by omega), List.length_map, List.length_map] at n1
      have t1 := sq g2 (bke (c := sub [1, 1, 1, 0, 1, 0, 0, 1, 1, 0, 0, 1, 1] B46) h1') (c := sub [1, 1, 1, 0, 1, 0, 0, 1, 1, 0, 0, 1] B46)
      have t2 := RunsTo.block_normal (i := 3) (c := sub [1, 1, 1, 0, 1, 0, 0, 1, 1, 0] B46) (sq g1 t1 (c := sub [1, 1, 1, 0, 1, 0, 0, 1, 1, 0, 0] B46)) (by kernel_rfl)
      have t3 := sq s2 (sq t2 n1 (c := sub [1, 1, 1, 0, 1, 0, 0, 1, 1] B46)) (c := sub [1, 1, 1, 0, 1, 0, 0, 1] B46)
      have t4 := sq s1 t3 (c := sub [1, 1, 1, 0, 1, 0, 0] B46)
      obtain ⟨x, E, r1, r2⟩ := ih (i + 1) (by omega)
      refine ⟨x, E, lop t4 rfl r1, ?_⟩
      rcases r2 with ⟨q1, q2, q3⟩ | r2
      · exact .inl ⟨q1, q2, fun b h1 h2 => by
          by_cases e : b = i
          · rw [e]; exact fun a ha => k3 a (by omega) ha
          · exact q3 b (by omega) h2⟩
      · exact .inr r2
    · have t1 := sq g2 (RunsTo.block_ret (c := sub [1, 1, 1, 0, 1, 0, 0, 1, 1, 0, 0, 1, 1] B46) (i := 4) h1' (by kernel_rfl)) (c := sub [1, 1, 1, 0, 1, 0, 0, 1, 1, 0, 0, 1] B46)
      have t2 := RunsTo.block_ret (i := 3) (c := sub [1, 1, 1, 0, 1, 0, 0, 1, 1, 0] B46) (sq g1 t1 (c := sub [1, 1, 1, 0, 1, 0, 0, 1, 1, 0, 0] B46)) (by kernel_rfl)
      have t3 := sq s2 (sqo t2 (c := sub [1, 1, 1, 0, 1, 0, 0, 1, 1] B46) (b := sub [1, 1, 1, 0, 1, 0, 0, 1, 1, 1] B46)) (c := sub [1, 1, 1, 0, 1, 0, 0, 1] B46)
      have t4 := sq s1 t3 (c := sub [1, 1, 1, 0, 1, 0, 0] B46)
      exact ⟨_, E, lpo t4, .inr ⟨rfl, k2, fun h => k3 (h i hil)⟩⟩
theorem okD_iff2 : okD d ↔ (1 ≤ d.length ∧ d.length ≤ 11) ∧ (∀ a, a < d.length → rowOk d a) ∧ ∀ b, b < d.length → ∀ a, a < d.length → symAt d b a := by
  rw [okD_iff]
  constructor
  · rintro ⟨h1, h2, h3⟩
    refine ⟨h1, fun a ha => ⟨h2 a ha, fun v hv => ?_⟩, fun b hb a ha => (h3 b hb a ha).2⟩
    obtain ⟨j, hj, rfl⟩ := List.getElem_of_mem hv
    have hjd : j < d.length := by have := h2 a ha; unfold rowLen at this; omega
    have := (h3 a ha j hjd).1
    unfold at2 at this
    rw [getD_at hj] at this
    exact this
  · rintro ⟨h1, h2, h3⟩
    refine ⟨h1, fun a ha => (h2 a ha).1, fun b hb a ha => ⟨?_, h3 b hb a ha⟩⟩
    have hl : a < (d.getD b []).length := by have := (h2 b hb).1; unfold rowLen at this; omega
    have := (h2 b hb).2 _ (List.getElem_mem hl)
    unfold at2
    rw [getD_at hl]
    exact this
end
theorem res46 : Try.f46.results.toList = [.tmp 2] := by kernel_rfl
theorem miles_ok : PrimOk Tp 46 miles46 := by
  refine primOk_pure (pol := polM) (fn := Try.f46) (cd := B46) follows_mixed soundM (by kernel_rfl) (by kernel_rfl) (fnok polM.prim _ _ (by kernel_rfl)) (by kernel_rfl) ?_
  intro args res h
  obtain ⟨d, rfl, hq⟩ := rwF_inv h
  clear h
  split at hq
  · rename_i hc
    cases hq
    have hw : ∀ r, r ∈ d → r.length ≤ 1000 := fun r hr => by simpa using List.all_eq_true.1 hc.2 r hr
    have a1 := im_a_0 0 (d.map encR)
    have fin : ∀ b E, RT polM 46 (sub [1] B46) (imE d Ud Ud Ud Ud Ud Ud Ud Ud Ud Ud Ud Ud Ud Ud) [] .ret E [] → E.get 2 = .bool b → okB d = b →
        ∃ x E H' v, RT polM 46 B46 (args0 [.imm .arg 1 (d.map encR)]) [] x E H' ∧ (∀ i, x ≠ .exit i) ∧ resultsV Tp Try.f46 E H' = some v ∧ toRes H' (polM.deep 46) v = some (.bool (okB d)) := by
      intro b E t hE hb
      exact ⟨_, E, [], .bool b, sq a1 t (c := B46), by simp, by simp only [resultsV, res46, mapO, resultV, hE], by rw [hb]; rfl⟩
    by_cases c1 : (1 : Int) ≤ (((d.map encR).length : Nat) : Int) ∧ (((d.map encR).length : Nat) : Int) ≤ 11
    · have b1 := im_b_0 0 (d.map encR) c1
      have cc := im_c_0 0 (d.map encR)
      rw [List.length_map] at c1 cc
      obtain ⟨x, E, h1, h2⟩ := im_rows hc.1 hw d.length 0 (by omega)
      rcases h2 with ⟨rfl, rfl, k3⟩ | ⟨rfl, k2, k3⟩
      · have hr : ∀ a, a < d.length → rowLen d a := fun a ha => (k3 a (Nat.zero_le _) ha).1
        have d1 := im_d_0 0 (d.map encR) d.length [] Ud
        rw [List.length_map] at d1
        obtain ⟨x, E, r1, r2⟩ := im_outer hc.1 hr d.length 0 (by omega)
        have r1' := lpi (e0 := imE d Ud Ud Ud Ud Ud (.imm .arg 1 (d.map encR)) (.int .i64 (d.length : Int)) (.int .i64 (d.length : Int)) (.imm .arg 1 (d.map encR)) (.int .i64 (d.length : Int)) (.int .i64 0) Ud Ud Ud) r1 (b := sub [1, 1, 1, 0, 1, 0, 0] B46)
        have t1 := sq cc (bke (c := sub [1, 1, 0, 1] B46) h1) (c := sub [1, 1, 0] B46)
        rcases r2 with ⟨rfl, rfl, q3⟩ | ⟨rfl, q2, q3⟩
        · have z1 := im_z_0 0 (d.map encR) d.length []
          rw [List.length_map] at z1
          have t2 := sq d1 (bke (c := sub [1, 1, 1, 0, 1] B46) r1') (c := sub [1, 1, 1, 0] B46)
          have t3 := sq t1 (sq t2 z1 (c := sub [1, 1, 1] B46)) (c := sub [1, 1] B46)
          exact fin true _ (sq b1 t3 (c := sub [1] B46)) rfl (okB_true (okD_iff2.2 ⟨⟨by omega, by omega⟩, fun a ha => k3 a (Nat.zero_le _) ha, fun b hb => q3 b (Nat.zero_le _) hb⟩))
        · have t2 := sq d1 (RunsTo.block_ret (c := sub [1, 1, 1, 0, 1] B46) (i := 2) r1' (by kernel_rfl)) (c := sub [1, 1, 1, 0] B46)
          have t3 := sq t1 (sqo t2 (c := sub [1, 1, 1] B46) (b := sub [1, 1, 1, 1] B46)) (c := sub [1, 1] B46)
          exact fin false _ (sq b1 t3 (c := sub [1] B46)) q2 (okB_false fun h => q3 (okD_iff2.1 h).2.2)
      · have t1 := sq cc (RunsTo.block_ret (c := sub [1, 1, 0, 1] B46) (i := 0) h1 (by kernel_rfl)) (c := sub [1, 1, 0] B46)
        have t3 := sq b1 (sqo t1 (c := sub [1, 1] B46) (b := sub [1, 1, 1] B46)) (c := sub [1] B46)
        exact fin false _ t3 k2 (okB_false fun h => k3 (okD_iff2.1 h).2.1)
    · have b1 := im_b_1 0 (d.map encR) c1
      rw [List.length_map] at c1
      exact fin false _ (sqo b1 (c := sub [1] B46) (b := sub [1, 1] B46)) rfl (okB_false fun h => c1 ⟨by have := h.1.1; omega, by have := h.1.2; omega⟩)
  · cases hq
end Go.Proofs.Ytlendaofkmhgmaa
end
section
open Go Go.HL
namespace Go.Proofs.Ytlendaofkmhgmaa
set_option maxRecDepth 100000
open Go.Proofs.Try renaming prog → Tp
open Go.HL.HV renaming undef → Ud
noncomputable def B52 : Code := Try.f52.body.getD .skip
abbrev env52 (v0 v2 : HV) : Env := [(0, v0), (2, v2)]
theorem cl_1 (l : List HV)(g0 : nilTest Tp .eql 23 (.imm .arg 1 l) = some (.bool false)) (g1 : appV [] 1 8 (.imm .lit 1 []) l = some (.sl 0 0 l.length none l.length 1, [.arr 1 l true 0])) : RT pol 52 (sub [] B52) [(0, .imm .arg 1 l)] [] .ret (env52 (.imm .arg 1 l) (.sl 0 0 l.length none l.length 1)) [.arr 1 l true 0] :=
  RunsTo.hin 0 60 [⟨1, 1, .bool false, []⟩, ⟨3, 2, .sl 0 0 l.length none l.length 1, [.arr 1 l true 0]⟩] fun kf hk => ⟨_, by kernel_rfl, (oP [] g0 (oC (g1) .nil))⟩
end Go.Proofs.Ytlendaofkmhgmaa
end
section
open Go Go.HL
namespace Go.Proofs.Ytlendaofkmhgmaa
open Go.Proofs.Try renaming prog → Tp
open Go.HL.HV renaming undef → Ud
theorem prim_miles {pol' : Pol} (hp : pol'.prim 46 = some miles46) {d : List (List Int)} (h1 : d.length ≤ 1000) (h2 : (d.all fun r => decide (r.length ≤ 1000)) = true) (H : Heap) (b : Bool) (hb : okB d = b) : ∀ k, callN Tp pol' (k + 1) 46 [.imm .arg 1 (d.map encR)] H = some (.bool b, H) := fun k => by
  rw [prim_call (pol := pol') (g := 46) (F := miles46) hp (rs := [.imm .arg 1 (d.map encR)]) (by simp only [mapO, arg_rw]) (res := .bool b) (by simp only [miles46, rwF, mapO_map decR_enc]; rw [if_pos ⟨h1, h2⟩, hb])]; rfl
theorem revP_len {l : List Int} {i j : Nat} (h : i ≤ j) (hj : j < l.length) : (revP l i j).length = l.length := by
  simp only [revP, List.length_append, List.length_take, List.length_reverse, List.length_drop]
  omega
theorem revP_get {l : List Int} {i j : Nat} (h : i ≤ j) (hj : j < l.length) (k : Nat) : (revP l i j)[k]? = if i ≤ k ∧ k ≤ j then l[i + j - k]? else l[k]? := by
  unfold revP
  by_cases c1 : k < i
  · rw [List.getElem?_append_left (by simp; omega), List.getElem?_take, if_pos c1, if_neg (by omega)]
  · rw [List.getElem?_append_right (by simp; omega), List.length_take, Nat.min_eq_left (by omega)]
    by_cases c2 : k ≤ j
    · rw [if_pos ⟨by omega, c2⟩, List.getElem?_append_left (by simp; omega), List.getElem?_reverse (by simp; omega), List.length_take, List.length_drop, Nat.min_eq_left (by omega), List.getElem?_take, if_pos (by omega), List.getElem?_drop]
      congr 1
      omega
    · rw [if_neg (by omega), List.getElem?_append_right (by simp; omega), List.length_reverse, List.length_take, List.length_drop, Nat.min_eq_left (by omega), List.getElem?_drop]
      congr 1
      omega
end Go.Proofs.Ytlendaofkmhgmaa
end
section
open Go Go.HL
namespace Go.Proofs.Ytlendaofkmhgmaa
open Go.Proofs.Try renaming prog → Tp
open Go.HL.HV renaming undef → Ud
theorem res52 : Try.f52.results.toList = [.tmp 2] := by kernel_rfl
theorem clone_run (v : Int) (l : List Int) (hl : (v :: l).length ≤ 1000) : ∃ k, callN Tp pol k 52 [.imm .arg 1 ((v :: l).map encI)] [] = some (.sl 0 0 (v :: l).length none (v :: l).length 1, [bI (v :: l)]) := by
  have hb : ∀ (l : List Int), bndL (l.map encI) = 0 := by
    intro l
    induction l with
    | nil => rfl
    | cons a l ih => simp only [List.map_cons, bndL, ih, encI, bnd]; rfl
  have hap : appV [] 1 8 (.imm .lit 1 []) ((v :: l).map encI) = some (.sl 0 0 ((v :: l).map encI).length none ((v :: l).map encI).length 1, [.arr 1 ((v :: l).map encI) true 0]) := by
    have hne : (v :: l).map encI ≠ [] := by simp
    simp only [appV, if_neg hne]
    rw [if_pos ⟨.inr trivial, by simp only [List.length_nil, List.length_map, roomMax]; omega⟩, hb]
    simp
  have hnt : nilTest Tp .eql 23 (.imm .arg 1 ((v :: l).map encI)) = some (.bool false) := by
    have hu : Tp.underlying 23 = some (.slice 3) := u23
    simp only [nilTest, hu, knownNil, List.map_cons, nilOp]
  obtain ⟨m, h⟩ := cl_1 ((v :: l).map encI) hnt hap
  obtain ⟨e1, g1, g2⟩ := h m m (Nat.le_refl m) (Nat.le_refl m)
  refine ⟨m + 1, ?_⟩
  have hrc := resCell_sl (H := [bI (v :: l)]) (no := [0]) (b := 0) (k := 1) (m := (v :: l).length) (cap := none) (els := (v :: l).map encI) rfl (by simp) (mapO_self (fun r => frz_int 4 r) _)
  have hown : ownedAll [bI (v :: l)] false (.sl 0 0 (v :: l).length none (v :: l).length 1) = [0] := rfl
  have hpr : pureRun Tp pol (evC Tp pol (callN Tp pol m) m) 52 Try.f52 B52 [.imm .arg 1 ((v :: l).map encI)] = some (.own 1 ((v :: l).map encI)) := by
    unfold pureRun
    have hg1 : evC Tp pol (callN Tp pol m) m 52 B52 (args0 [.imm .arg 1 ((v :: l).map encI)]) [] = some (.ret, e1, [bI (v :: l)]) := g1
    rw [hg1]
    have hres : resultsV Tp Try.f52 e1 [bI (v :: l)] = some (.sl 0 0 (v :: l).length none (v :: l).length 1) := by
      have := resultsV_restr (P := Tp) (fn := Try.f52) (K := pol.keys 52) (e := e1) (H := [bI (v :: l)]) (by kernel_rfl)
      rw [← this, g2]
      simp only [resultsV, res52, mapO, resultV]
      simp [Env.get]
    simp only [hres]
    show toRes _ false _ = _
    simp only [toRes, hown, List.nodup_cons, List.not_mem_nil, not_false_eq_true, List.nodup_nil, and_self, if_true, resVal, hrc]
  have hp : pol.prim 52 = none := by kernel_rfl
  have hs : pol.shared 52 = false := by kernel_rfl
  have hf : Tp.funcs[52]? = some Try.f52 := by kernel_rfl
  have hbd : Try.f52.body = some B52 := by kernel_rfl
  have ha : toArg [] 6 (.imm .arg 1 ((v :: l).map encI)) = some (.imm .arg 1 ((v :: l).map encI)) := by
    show argP (.imm .arg 1 ((v :: l).map encI)) = _
    simp only [argP, argP_ints']
  have hno : ((v :: l).map encI).any isOwn = false := by
    rw [List.any_eq_false]
    intro v hv
    obtain ⟨k, _, rfl⟩ := List.mem_map.1 hv
    simp [encI, isOwn]
  simp only [callN, doCall, hp, hf, hbd, hs, Bool.false_eq_true, if_false, mapO, ha]
  have hpc : pureCall Tp pol (evC Tp pol (callN Tp pol m) m) 52 Try.f52 B52 [.imm .arg 1 ((v :: l).map encI)] = some (.own 1 ((v :: l).map encI)) := by
    unfold pureCall
    rw [if_pos (by kernel_rfl)]
    simp only [List.map_cons] at hpr ⊢
    exact hpr
  rw [hpc]
  simp only [recv, recvVal, recvCell, hno, List.length_map]
  rfl
theorem clone_ok : PrimOk Tp 52 clone52 := by
  refine primOk_of (pol := pol) sound (by kernel_rfl) fun args res h => ?_
  obtain ⟨l, rfl, hq⟩ := liF_inv h
  clear h
  split at hq
  · rename_i hl
    cases hq
    cases l with
    | nil => exact ⟨30, .sl 0 0 0 none 0 1, [.arr 1 [] true 0], false, by kernel_rfl, rfl⟩
    | cons v l =>
      obtain ⟨k, hk⟩ := clone_run v l hl
      exact ⟨k, _, _, false, hk, res_li (b := 0) rfl rfl⟩
  · cases hq
end Go.Proofs.Ytlendaofkmhgmaa
end
section
open Go Go.HL
namespace Go.Proofs.Ytlendaofkmhgmaa
structure Rv (o : List Int) (lo n i : Nat) (c : List Int) : Prop where
  len : c.length = o.length
  get : ∀ k, k < o.length → c.getD k 0 = if lo ≤ k ∧ k < lo + n ∧ (k < lo + i ∨ lo + n ≤ k + i) then o.getD (2 * lo + n - 1 - k) 0 else o.getD k 0
theorem Rv.zero (o : List Int) (lo n : Nat) : Rv o lo n 0 o := ⟨rfl, fun k hk => by rw [if_neg (by omega)]⟩
theorem getD_set (o : List Int) (i k : Nat) (v : Int) (hi : i < o.length) : (o.set i v).getD k 0 = if i = k then v else o.getD k 0 := by
  simp only [List.getD, List.getElem?_set]
  by_cases e : i = k
  · subst e; simp [hi]
  · simp [e]
theorem Rv.step {o c : List Int} {lo n i : Nat} (h : Rv o lo n i c) (hb : lo + n ≤ o.length) (hi : 2 * i + 1 < n) : Rv o lo n (i + 1) ((c.set (lo + i) (c.getD (lo + (n - 1 - i)) 0)).set (lo + (n - 1 - i)) (c.getD (lo + i) 0)) := by
  have hl := h.len
  refine ⟨by simp [hl], fun k hk => ?_⟩
  rw [getD_set _ _ _ _ (by rw [List.length_set]; omega), getD_set _ _ _ _ (by omega)]
  have e1 := h.get (lo + i) (by omega)
  have e2 := h.get (lo + (n - 1 - i)) (by omega)
  rw [if_neg (by omega)] at e1 e2
  by_cases c1 : lo + (n - 1 - i) = k
  · rw [if_pos c1, if_pos (by omega), e1]
    congr 1
    omega
  · rw [if_neg c1]
    by_cases c2 : lo + i = k
    · rw [if_pos c2, if_pos (by omega), e2]
      congr 1
      omega
    · rw [if_neg c2, h.get k hk]
      by_cases c3 : lo ≤ k ∧ k < lo + n ∧ (k < lo + i ∨ lo + n ≤ k + i)
      · rw [if_pos c3, if_pos (by omega)]
      · rw [if_neg c3, if_neg (by omega)]
theorem Rv.done {o c : List Int} {lo n i : Nat} (h : Rv o lo n i c) (hn : 1 ≤ n) (hb : lo + n ≤ o.length) (hi : n ≤ 2 * i + 1) : c = revP o lo (lo + n - 1) := by
  have hr := revP_len (l := o) (i := lo) (j := lo + n - 1) (by omega) (by omega)
  apply List.ext_getElem (by rw [hr]; exact h.len)
  intro k h1 h2
  have hk : k < o.length := by rw [← h.len]; exact h1
  have e := h.get k hk
  have e2 := revP_get (l := o) (i := lo) (j := lo + n - 1) (by omega) (by omega) k
  rw [List.getElem?_eq_getElem h2] at e2
  rw [← getD_at h1, e]
  by_cases c1 : lo ≤ k ∧ k ≤ lo + n - 1
  · rw [if_pos c1, List.getElem?_eq_getElem (by omega)] at e2
    have e3 := Option.some.inj e2
    rw [e3]
    by_cases c2 : k < lo + i ∨ lo + n ≤ k + i
    · rw [if_pos ⟨c1.1, by omega, c2⟩, getD_at (by omega)]
      congr 1
      omega
    · rw [if_neg (by omega), getD_at hk]
      congr 1
      omega
  · rw [if_neg c1, List.getElem?_eq_getElem hk] at e2
    rw [if_neg (by omega), getD_at hk]
    exact (Option.some.inj e2).symm
end Go.Proofs.Ytlendaofkmhgmaa
end
section
open Go Go.HL
namespace Go.Proofs.Ytlendaofkmhgmaa
open Go.Proofs.Try renaming prog → Tp
open Go.HL.HV renaming undef → Ud
set_option maxRecDepth 100000 in
theorem awake_fast : callNF Tp pol 200 20 [] [] = some (.bool true, []) := by kernel_rfl
theorem awake_prim : PrimOk Tp 20 awakeF := by
  refine primOk_of (pol := pol) sound (by kernel_rfl) fun args res h => ?_
  match args, h with
  | [], h =>
    cases h
    exact ⟨200, _, _, false, by rw [← callNF_eq]; exact awake_fast, rfl⟩
end Go.Proofs.Ytlendaofkmhgmaa
end
section
open Go Go.HL
namespace Go.Proofs.Ytlendaofkmhgmaa
theorem tabL_len (R : List (List Int)) : (tabL R).length ≤ 12 ∧ ((tabL R).all fun r => decide (r.length ≤ 1000)) = true := by
  refine ⟨by simp only [tabL, List.length_map, List.length_take]; omega, List.all_eq_true.2 fun r hr => ?_⟩
  unfold tabL at hr
  obtain ⟨q, _, rfl⟩ := List.mem_map.1 hr
  exact decide_eq_true (by rw [List.length_take]; omega)
end Go.Proofs.Ytlendaofkmhgmaa
end
section
open Go Go.HL
namespace Go.Proofs.Ytlendaofkmhgmaa
open Go.Proofs.Try renaming prog → Tp
open Go.HL.HV renaming undef → Ud
section
variable {d : List (List Int)}
theorem g22' {v : Nat} (hv : v < d.length) : idxV Tp 22 (.imm .arg 1 (d.map encR)) (.int .i64 (v : Int)) = some (.vptr (.imm .arg 1 ((d.getD v []).map encI))) := gr hv
theorem g23' (h : okD d) {v u : Nat} (hv : v < d.length) (hu : u < d.length) : idxV Tp 23 (.imm .arg 1 ((d.getD v []).map encI)) (.int .i64 (u : Int)) = some (.vptr (.int .i64 (at2 d v u))) := gx (by rw [h.2.1 v hv]; exact hu)
end
end Go.Proofs.Ytlendaofkmhgmaa
end
section
open Go Go.HL Go.HL.So
namespace Go.Proofs.Ytlendaofkmhgmaa
open Go.Proofs.Try renaming prog → Tp
open Go.HL.HV renaming undef → Ud
theorem res70 : Try.f70.results.toList = [.tmp 6] := by kernel_rfl
theorem u66 : Tp.underlying 66 = some (.array 11 3) := by kernel_rfl
def Small (ps : List Int) : Prop := ps.length = 11 ∧ ∀ x ∈ ps, -1000000000 ≤ x ∧ x ≤ 1000000000
def mpF (f : List (List Int) → Int → List Int → Option HV) : List HV → Option HV
  | [.imm .arg 1 rw, .int .i64 a, .agg pv] => (match mapO decR rw, mapO decI pv with | some R, some ps => f R a ps | _, _ => none)
  | _ => none
theorem mpF_inv {f : List (List Int) → Int → List Int → Option HV} {args : List HV} {res : HV} (h : mpF f args = some res) : ∃ R a ps, args = [.imm .arg 1 (R.map encR), .int .i64 a, .agg (ps.map encI)] ∧ f R a ps = some res := by
  unfold mpF at h
  split at h
  · rename_i rw a pv
    split at h
    · rename_i R ps hR hp
      exact ⟨R, a, ps, by rw [mapO_inv decR_inv hR, mapO_inv decI_inv hp], h⟩
    · cases h
  · cases h
open Classical in
noncomputable def edges70 : List HV → Option HV := mpF fun R a ps => if okD R ∧ (0 ≤ a ∧ a ≤ R.length) ∧ Small ps then some (.own 3 ((edg R ps a.toNat).map encE)) else none
section
variable {d : List (List Int)} {ps : List Int} {f : Nat}
abbrev pB (ps : List Int) : Blk := .arr 11 [.agg (ps.map encI)] true 0
abbrev edH (ps : List Int) (l : List Ed) : Heap := [pB ps, bE encE l]
theorem Small.at (h : Small ps) {i : Nat} (hi : i < 11) : -1000000000 ≤ ps.getD i 0 ∧ ps.getD i 0 ≤ 1000000000 := by
  have hl := h.1
  have : ps.getD i 0 = ps[i] := by simp [List.getD, List.getElem?_eq_getElem (show i < ps.length by omega)]
  rw [this]; exact h.2 _ (List.getElem_mem _)
theorem gmn {R : List (List Int)} {y : Nat} (hy : y < R.length) : idxV Tp 68 (.imm .arg 1 (R.map encR)) (.int .i64 (y : Int)) = some (.vptr (.imm .arg 1 ((R.getD y []).map encI))) := by
  have := gm (R := R) (y := (y : Int)) (by omega) (by omega)
  rwa [Int.toNat_natCast] at this
theorem box_p (hp : ps.length = 11) : (if (cellsOf (.agg (ps.map encI))).all cellV then some (newV (.agg (ps.map encI)) []) else none) = some (.ptr 0 0 0 1, [pB ps]) := by
  have h : (cellsOf (.agg (ps.map encI))).all cellV = true := by simp [cellsOf, cellV, encI]
  rw [if_pos h]
  simp only [newV, cellsOf, bnd, ints_bnd, List.length_map, hp]; rfl
theorem px {H : Heap} {b tot : Nat} {i : Nat} (hi : i < 11) : idxV Tp 66 (.ptr b 0 0 tot) (.int .i64 (i : Int)) = some (.ptr b 0 i tot) := by
  have := idx_arr (P := Tp) (t := 66) (e := 3) (b := b) (i := 0) (m := 11) (tot := tot) (ik := .i64) (n := (i : Int)) u66 z3 (by omega) (by omega)
  rwa [Int.toNat_natCast] at this
theorem pl_at {H : Heap} {b i : Nat} (hb : H[b]? = some (pB ps)) (hp : ps.length = 11) (hi : i < 11) : loadV Tp H 3 (.ptr b 0 i 1) = some (.int .i64 (ps.getD i 0)) :=
  load_cell (b := b) hb rfl rfl a3 i3 (by rw [List.getElem?_map, List.getElem?_eq_getElem (by omega)]; simp [List.getD, List.getElem?_eq_getElem (show i < ps.length by omega), encI])
theorem encE_bnd : ∀ (l : List Ed), bndL (l.map encE) = 0
  | [] => rfl
  | a :: l => by simp only [List.map_cons, bndL, encE_bnd l, encE, bnd]; rfl
theorem app_E {H : Heap} {b : Nat} {o : List Ed} (hb : H[b]? = some (bE encE o)) (hl : o.length ≤ 1000) (e : Ed) :
    appV H 3 24 (.sl b 0 o.length none o.length 3) [encE e] = some (.sl b 0 (o.length + 1) none (o.length + 1) 3, H.set b (bE encE (o ++ [e]))) := by
  have := app_sl (H := H) (k := 3) (bytes := 24) (b := b) (n := o.length) (mx := 0) (els := o.map encE) (xs := [encE e]) hb (by simp) (by simp) (by simp only [roomMax, List.length_singleton]; omega) (encE_bnd [e])
  rw [this]
  simp only [bE, List.map_append, List.map_cons, List.map_nil, List.length_singleton]
theorem edRow_len {b : Nat} : ∀ k a, (edRow d ps b k a).length = k
  | 0, _ => rfl
  | k + 1, a => by simp [edRow, edRow_len k]
abbrev edE (d : List (List Int)) (ps : List Int) (f m : Nat) (v8 v9 v11 v12 : HV) : Env := (env70 (.imm .arg 1 (d.map encR)) (.int .i64 (f : Int)) (.agg (ps.map encI)) (.ptr 0 0 0 1) (.imm .lit 3 []) (.sl 1 0 m none m 3) v8 v9 v11 v12)
theorem ed_in (hd : okD d) (hp : Small ps) {i : Nat} (hi : i < d.length) : ∀ k j (o : List Ed), j + k = i → o.length + k ≤ 500 →
    RT polSo 70 (sub [1, 1, 0, 1, 0, 0, 1, 1, 0, 0, 1, 1, 0] B70) (edE d ps f o.length (.int .i64 (i : Int)) (.int .i64 (j : Int)) (.int .i64 (d.length : Int)) (.int .i64 (i : Int))) (edH ps o) (.exit 2)
      (edE d ps f (o ++ edRow d ps i k j).length (.int .i64 (i : Int)) (.int .i64 (i : Int)) (.int .i64 (d.length : Int)) (.int .i64 (i : Int))) (edH ps (o ++ edRow d ps i k j)) := by
  have hn := hd.1
  intro k
  induction k with
  | zero =>
    intro j o hj hl
    have : j = i := by omega
    subst this
    have s := ed_h_1 0 (d.map encR) (ps.map encI) f o.length (o.map encE) j j (by omega)
    rw [List.length_map] at s
    rw [edRow, List.append_nil]
    exact lpo (s)
  | succ k ih =>
    intro j o hj hl
    have b1 := hd.at (i := j) (j := i) (by omega) hi
    have b2 := hp.at (i := j) (by omega)
    have b3 := hp.at (i := i) (by omega)
    have e : IntKind.i64.wrap (IntKind.i64.wrap (at2 d j i + ps.getD j 0) + ps.getD i 0) = cst d ps j i := by
      rw [wrap_id (n := at2 d j i + ps.getD j 0) (by omega) (by omega), wrap_id (by omega) (by omega)]; rfl
    have ap := app_E (H := edH ps o) (b := 1) (o := o) rfl (by omega) (mkE d ps j i)
    have s := ed_h_0 0 (d.map encR) (ps.map encI) f o.length (o.map encE) i j (by omega) (gmn (by omega)) (g23' hd (by omega) hi) (px (H := []) (by omega)) (pl_at (H := edH ps o) rfl hp.1 (by omega)) (px (H := []) (by omega)) (pl_at (H := edH ps o) rfl hp.1 (by omega)) (by
      rw [e]
      rw [show [HV.agg [.int .i64 (cst d ps j i), .int .i64 (j : Int), .int .i64 (i : Int)]] = [encE (mkE d ps j i)] from rfl]
      have := ap
      rw [show edH ps o = [.arr 11 [.agg (ps.map encI)] true 0, .arr 3 (o.map encE) true 0] from rfl] at this
      rw [this]
      simp [bE, edH])
    rw [wrap_succ (by omega), List.length_map] at s
    have hs : o.map encE ++ [HV.agg [.int .i64 (IntKind.i64.wrap (IntKind.i64.wrap (at2 d j i + ps.getD j 0) + ps.getD i 0)), .int .i64 (j : Int), .int .i64 (i : Int)]] = (o ++ [mkE d ps j i]).map encE := by rw [e]; simp [encE]
    rw [hs] at s
    have r := ih (j + 1) (o ++ [mkE d ps j i]) (by omega) (by simp; omega)
    rw [List.append_assoc, show [mkE d ps j i] ++ edRow d ps i k (j + 1) = edRow d ps i (k + 1) j from rfl, show (o ++ [mkE d ps j i]).length = o.length + 1 by simp] at r
    exact lop (s) (gc_eq _ rfl) (r)
theorem ed_out (hd : okD d) (hp : Small ps) (hf : f ≤ d.length) : ∀ k i (o : List Ed), i + k = d.length → o.length + k * (i + k) ≤ 200 →
    ∃ y8 y9, RT polSo 70 (sub [1, 1, 0, 1, 0] B70) (edE d ps f o.length Ud Ud (.int .i64 (d.length : Int)) (.int .i64 (i : Int))) (edH ps o) (.exit 0)
      (edE d ps f (o ++ edAll d ps f k i).length y8 y9 (.int .i64 (d.length : Int)) (.int .i64 (d.length : Int))) (edH ps (o ++ edAll d ps f k i)) := by
  have hn := hd.1
  intro k
  induction k with
  | zero =>
    intro i o hi hl
    have : i = d.length := by omega
    subst this
    have s := ed_d_1 0 (d.map encR) (ps.map encI) f o.length (o.map encE) d.length (y8 := Ud) (y9 := Ud) (by simp)
    have s2 := ed_ef_0 0 (d.map encR) (ps.map encI) f o.length (o.map encE) d.length (y8 := Ud) (y9 := Ud)
    rw [List.length_map] at s s2
    rw [edAll, List.append_nil]
    exact ⟨_, _, lpo (sq (s) (sqo (s2) (c := sub [1, 1, 0, 1, 0, 0, 1] B70) (b := sub [1, 1, 0, 1, 0, 0, 1, 1] B70)) (c := sub [1, 1, 0, 1, 0, 0] B70))⟩
  | succ k ih =>
    intro i o hi hl
    have hm : o.length + (k + 1) * (i + (k + 1)) = o.length + (i + (k + 1)) + k * (i + 1 + k) := by
      rw [Nat.add_mul, Nat.one_mul, show i + (k + 1) = i + 1 + k by omega]; omega
    have s := ed_d_0 0 (d.map encR) (ps.map encI) f o.length (o.map encE) i (y8 := Ud) (y9 := Ud) (by rw [List.length_map]; omega)
    have s2 := ed_et_0 0 (d.map encR) (ps.map encI) f o.length (o.map encE) i (y8 := Ud) (y9 := Ud)
    have s3 := ed_f_0 0 (d.map encR) (ps.map encI) f o.length (o.map encE) i (y8 := Ud) (y9 := Ud)
    have s4 := ed_g_0 0 (d.map encR) (ps.map encI) f o.length (o.map encE) i (y9 := Ud)
    rw [List.length_map] at s s2 s3 s4
    by_cases hfi : f ≤ i
    · have r := ed_in (f := f) hd hp (i := i) (by omega) (i - f) f o (by omega) (by omega)
      have s5 := ed_i_0 0 (d.map encR) (ps.map encI) f (o ++ edRow d ps i (i - f) f).length ((o ++ edRow d ps i (i - f) f).map encE) i (y8 := .int .i64 (i : Int)) (y9 := .int .i64 (i : Int))
      rw [wrap_succ (by omega), List.length_map] at s5
      have st := sq (s) (sq (s2) (sq (RunsTo.block_normal (i := 1) (c := sub [1, 1, 0, 1, 0, 0, 1, 1, 0] B70) (sq (s3) (sq (s4) (bke (c := sub [1, 1, 0, 1, 0, 0, 1, 1, 0, 0, 1, 1] B70) (r)) (c := sub [1, 1, 0, 1, 0, 0, 1, 1, 0, 0, 1] B70)) (c := sub [1, 1, 0, 1, 0, 0, 1, 1, 0, 0] B70)) (by kernel_rfl)) (s5) (c := sub [1, 1, 0, 1, 0, 0, 1, 1] B70)) (c := sub [1, 1, 0, 1, 0, 0, 1] B70)) (c := sub [1, 1, 0, 1, 0, 0] B70)
      obtain ⟨y8, y9, r2⟩ := ih (i + 1) (o ++ edRow d ps i (i - f) f) (by omega) (by rw [List.length_append, edRow_len]; omega)
      rw [List.append_assoc, show edRow d ps i (i - f) f ++ edAll d ps f k (i + 1) = edAll d ps f (k + 1) i from rfl] at r2
      exact ⟨y8, y9, lop (st) (gc_eq _ rfl) (r2)⟩
    · have sx := ed_h_1 0 (d.map encR) (ps.map encI) f o.length (o.map encE) i f (by omega)
      have s5 := ed_i_0 0 (d.map encR) (ps.map encI) f o.length (o.map encE) i (y8 := .int .i64 (i : Int)) (y9 := .int .i64 (f : Int))
      rw [List.length_map] at sx s5
      rw [wrap_succ (by omega)] at s5
      have st := sq (s) (sq (s2) (sq (RunsTo.block_normal (i := 1) (c := sub [1, 1, 0, 1, 0, 0, 1, 1, 0] B70) (sq (s3) (sq (s4) (bke (c := sub [1, 1, 0, 1, 0, 0, 1, 1, 0, 0, 1, 1] B70) (lpo (sx) (c := sub [1, 1, 0, 1, 0, 0, 1, 1, 0, 0, 1, 1, 0] B70))) (c := sub [1, 1, 0, 1, 0, 0, 1, 1, 0, 0, 1] B70)) (c := sub [1, 1, 0, 1, 0, 0, 1, 1, 0, 0] B70)) (by kernel_rfl)) (s5) (c := sub [1, 1, 0, 1, 0, 0, 1, 1] B70)) (c := sub [1, 1, 0, 1, 0, 0, 1] B70)) (c := sub [1, 1, 0, 1, 0, 0] B70)
      obtain ⟨y8, y9, r2⟩ := ih (i + 1) o (by omega) (by omega)
      have e : edAll d ps f (k + 1) i = edAll d ps f k (i + 1) := by
        rw [edAll, show i - f = 0 by omega]; rfl
      rw [← e] at r2
      exact ⟨y8, y9, lop (st) (gc_eq _ rfl) (r2)⟩
end
theorem frz_E {H : Heap} {no : List Nat} {n : Nat} (e : Ed) : frz H no (n + 1) (encE e) = some (encE e) := by
  show (match mapO (frz H no n) [.int .i64 e.1, .int .i64 e.2.1, .int .i64 e.2.2] with | some l => some (HV.agg l) | none => none) = _
  have h1 : ∀ x : Int, frz H no n (.int .i64 x) = some (.int .i64 x) := fun x => frz_int n x
  simp only [mapO, h1]; rfl
theorem edges_ok : PrimOk Tp 70 edges70 := by
  refine primOk_pure (pol := polSo) (fn := Try.f70) (cd := B70) follows_mixed soundSo (by kernel_rfl) (by kernel_rfl) (fnok polSo.prim _ _ (by kernel_rfl)) (by kernel_rfl) ?_
  intro args res h
  obtain ⟨d, a0, ps, rfl, hq⟩ := mpF_inv h
  clear h
  split at hq
  · rename_i hc
    obtain ⟨hd, ha, hp⟩ := hc
    cases hq
    have hn := hd.1
    obtain ⟨f, rfl⟩ : ∃ x : Nat, a0 = (x : Int) := ⟨a0.toNat, by omega⟩
    rw [Int.toNat_natCast]
    have s0 := ed_a_0 0 (d.map encR) (ps.map encI) f (box_p hp.1)
    have s1 := ed_b_0 0 (d.map encR) (ps.map encI) f (y7 := Ud) (y8 := Ud) (y9 := Ud) (y11 := Ud) (y12 := Ud)
    have s2 := ed_c_0 0 (d.map encR) (ps.map encI) f 0 [] (y8 := Ud) (y9 := Ud) (y11 := Ud) (y12 := Ud)
    rw [List.length_map] at s2
    have hkk : d.length * d.length ≤ 11 * 11 := Nat.mul_le_mul hn.2 hn.2
    obtain ⟨y8, y9, r⟩ := ed_out (f := f) hd hp (by omega) d.length 0 [] (by omega) (by simp; omega)
    rw [List.nil_append] at r
    have hl := edAll_len (d := d) (p := ps) (f := f) d.length 0
    rw [Nat.zero_add] at hl
    obtain ⟨l', hc, h1, h2⟩ := sortE_ok (H := edH ps (edAll d ps f d.length 0)) (db := 1) (l := edAll d ps f d.length 0) (by omega) rfl rfl (by simp [mxs, Blk.mx, bE])
    have he := edg_eq (by omega) h1 h2
    subst he
    obtain ⟨N, hN⟩ := hc.from
    have s3 := ed_j_0 N (d.map encR) (ps.map encI) f (edAll d ps f d.length 0).length ((edAll d ps f d.length 0).map encE) (y8 := y8) (y9 := y9) (y11 := .int .i64 (d.length : Int)) (y12 := .int .i64 (d.length : Int)) hN
    have r' := lpi (e0 := edE d ps f 0 Ud Ud (.int .i64 (d.length : Int)) (.int .i64 0)) r (b := sub [1, 1, 0, 1, 0, 0] B70)
    have t := sq (s0) (sq (s1) (sq (sq (s2) (bke (c := sub [1, 1, 0, 1] B70) (r')) (c := sub [1, 1, 0] B70)) (s3) (c := sub [1, 1] B70)) (c := sub [1] B70)) (c := B70)
    have hll : (edAll d ps f d.length 0).length = (edg d ps f).length := h1.length_eq.symm
    rw [hll] at t
    have hr := resCell_sl (H := [pB ps, bE encE (edg d ps f)]) (no := [1]) (b := 1) (k := 3) (m := (edg d ps f).length) (cap := none) (els := (edg d ps f).map encE) rfl (by simp) (mapO_self (fun e => frz_E (n := 3) e) _)
    have ho : ownedAll [pB ps, bE encE (edg d ps f)] false (.sl 1 0 (edg d ps f).length none (edg d ps f).length 3) = [1] := by simp [ownedAll, cellsOf, owned, bE]
    refine ⟨_, _, _, .sl 1 0 (edg d ps f).length none (edg d ps f).length 3, t, by simp, by simp only [resultsV, res70]; rfl, ?_⟩
    show toRes [pB ps, bE encE (edg d ps f)] false (.sl 1 0 (edg d ps f).length none (edg d ps f).length 3) = _
    simp only [toRes, ho, List.nodup_cons, List.not_mem_nil, not_false_eq_true, List.nodup_nil, and_self, if_true, resVal, hr]
  · cases hq
end Go.Proofs.Ytlendaofkmhgmaa
end
section
open Go Go.HL Go.HL.So
namespace Go.Proofs.Ytlendaofkmhgmaa
open Go.Proofs.Try renaming prog → Tp
open Go.HL.HV renaming undef → Ud
theorem getDs (o : List Int) (i k : Nat) (v : Int) (hi : i < o.length) : (o.set i v).getD k 0 = if i = k then v else o.getD k 0 := by
  simp only [List.getD, List.getElem?_set, hi]
  split
  · rename_i e; subst e; simp
  · rfl
def rlb (o w : Int) : Nat → Nat → List Int → List Int
  | 0, _, g => g
  | k + 1, j, g => rlb o w k (j + 1) (if g.getD j 0 = o then g.set j w else g)
def krP : List Ed → List Int → List Ed
  | [], _ => []
  | e :: l, g => if g.getD e.2.1.toNat 0 = g.getD e.2.2.toNat 0 then krP l g else e :: krP l (rlb (g.getD e.2.1.toNat 0) (g.getD e.2.2.toNat 0) g.length 0 g)
def krD : List Ed → List Int → List Ed
  | [], _ => []
  | e :: l, g => if g.getD e.2.1.toNat 0 = g.getD e.2.2.toNat 0 then krD l g else e :: krD l (rlb (g.getD e.2.2.toNat 0) (g.getD e.2.1.toNat 0) g.length 0 g)
def iota (n : Nat) : List Int := (List.range n).map fun i : Nat => (i : Int)
def treeL (d : List (List Int)) (ps : List Int) (f : Nat) : List Ed := krP (edg d ps f) (iota d.length)
theorem rlb_len (o w : Int) : ∀ k j g, (rlb o w k j g).length = g.length
  | 0, _, _ => rfl
  | k + 1, j, g => by
    rw [rlb, rlb_len o w k]
    split
    · simp
    · rfl
theorem rlb_get (o w : Int) : ∀ k j (g : List Int), j + k = g.length → ∀ x, (rlb o w k j g).getD x 0 = if j ≤ x ∧ x < g.length ∧ g.getD x 0 = o then w else g.getD x 0
  | 0, j, g, h, x => by rw [rlb, if_neg (by omega)]
  | k + 1, j, g, h, x => by
    rw [rlb]
    by_cases c : g.getD j 0 = o
    · rw [if_pos c, rlb_get o w k (j + 1) _ (by simp; omega), List.length_set, getDs _ _ _ _ (by omega)]
      by_cases e : j = x
      · subst e
        rw [if_neg (by omega), if_pos rfl, if_pos ⟨Nat.le_refl _, by omega, c⟩]
      · rw [if_neg e]
        by_cases c2 : j + 1 ≤ x ∧ x < g.length ∧ g.getD x 0 = o
        · rw [if_pos c2, if_pos ⟨by omega, c2.2⟩]
        · rw [if_neg c2, if_neg (fun h => c2 ⟨by omega, h.2⟩)]
    · rw [if_neg c, rlb_get o w k (j + 1) g (by omega)]
      by_cases c2 : j + 1 ≤ x ∧ x < g.length ∧ g.getD x 0 = o
      · rw [if_pos c2, if_pos ⟨by omega, c2.2⟩]
      · rw [if_neg c2, if_neg (fun h => c2 ⟨by
          rcases Nat.lt_or_ge j x with h1 | h1
          · omega
          · have : x = j := by omega
            subst this; exact absurd h.2.2 c, h.2⟩)]
theorem rlb_at (o w : Int) (g : List Int) {x : Nat} (hx : x < g.length) : (rlb o w g.length 0 g).getD x 0 = if g.getD x 0 = o then w else g.getD x 0 := by
  rw [rlb_get o w g.length 0 g (by omega)]
  by_cases c : g.getD x 0 = o
  · rw [if_pos ⟨Nat.zero_le _, hx, c⟩, if_pos c]
  · rw [if_neg (fun h => c h.2.2), if_neg c]
def Eqv (n : Nat) (g h : List Int) : Prop := (g.length = n ∧ h.length = n) ∧ ∀ x y, x < n → y < n → (g.getD x 0 = g.getD y 0 ↔ h.getD x 0 = h.getD y 0)
def EIn (n : Nat) (l : List Ed) : Prop := ∀ e ∈ l, (0 ≤ e.2.1 ∧ e.2.1.toNat < n) ∧ 0 ≤ e.2.2 ∧ e.2.2.toNat < n
theorem Eqv.step {n : Nat} {g h : List Int} (he : Eqv n g h) {a b : Nat} (ha : a < n) (hb : b < n) : Eqv n (rlb (g.getD a 0) (g.getD b 0) g.length 0 g) (rlb (h.getD b 0) (h.getD a 0) h.length 0 h) := by
  obtain ⟨⟨h1, h2⟩, h3⟩ := he
  refine ⟨⟨by rw [rlb_len]; exact h1, by rw [rlb_len]; exact h2⟩, fun x y hx hy => ?_⟩
  rw [rlb_at _ _ _ (by omega), rlb_at _ _ _ (by omega), rlb_at _ _ _ (by omega), rlb_at _ _ _ (by omega)]
  have q1 := h3 x a hx ha
  have q2 := h3 y a hy ha
  have q3 := h3 x b hx hb
  have q4 := h3 y b hy hb
  have q5 := h3 x y hx hy
  have q6 := h3 a b ha hb
  generalize g.getD x 0 = gx at *
  generalize g.getD y 0 = gy at *
  generalize g.getD a 0 = ga at *
  generalize g.getD b 0 = gb at *
  generalize h.getD x 0 = hx' at *
  generalize h.getD y 0 = hy' at *
  generalize h.getD a 0 = ha' at *
  generalize h.getD b 0 = hb' at *
  split <;> split <;> split <;> split <;> (constructor <;> intro q <;> omega)
theorem kr_eq {n : Nat} : ∀ (l : List Ed) (g h : List Int), EIn n l → Eqv n g h → krP l g = krD l h
  | [], _, _, _, _ => rfl
  | e :: l, g, h, hl, he => by
    obtain ⟨⟨_, h1⟩, _, h2⟩ := hl e (by simp)
    have hl' : EIn n l := fun x hx => hl x (by simp [hx])
    rw [krP, krD]
    by_cases c : g.getD e.2.1.toNat 0 = g.getD e.2.2.toNat 0
    · rw [if_pos c, if_pos ((he.2 _ _ h1 h2).1 c), kr_eq l g h hl' he]
    · rw [if_neg c, if_neg (fun q => c ((he.2 _ _ h1 h2).2 q)), kr_eq l _ _ hl' (he.step h1 h2)]
theorem Eqv.refl {n : Nat} {g : List Int} (h : g.length = n) : Eqv n g g := ⟨⟨h, h⟩, fun _ _ _ _ => Iff.rfl⟩
theorem iota_len (n : Nat) : (iota n).length = n := by simp [iota]
theorem iota_at {n x : Nat} (hx : x < n) : (iota n).getD x 0 = (x : Int) := by simp [iota, List.getD, List.getElem?_map, List.getElem?_range hx]
theorem edg_in {d : List (List Int)} {ps : List Int} {f : Nat} (hf : f ≤ d.length) : EIn d.length (edg d ps f) := fun e he => by
  obtain ⟨x, y, h, rfl⟩ := ((edg_ok (d := d) (p := ps) hf).2 e).1 he
  refine ⟨⟨?_, ?_⟩, ?_, ?_⟩
  · show (0 : Int) ≤ (x : Int); omega
  · show ((x : Int)).toNat < d.length; omega
  · show (0 : Int) ≤ (y : Int); omega
  · show ((y : Int)).toNat < d.length; omega
theorem krP_len : ∀ (l : List Ed) (g : List Int), (krP l g).length ≤ l.length
  | [], _ => Nat.le_refl _
  | e :: l, g => by
    rw [krP]
    split
    · have := krP_len l g; simp; omega
    · have := krP_len l (rlb (g.getD e.2.1.toNat 0) (g.getD e.2.2.toNat 0) g.length 0 g); rw [List.length_cons, List.length_cons]; omega
theorem krP_mem {e : Ed} : ∀ (l : List Ed) (g : List Int), e ∈ krP l g → e ∈ l
  | [], _, h => h
  | x :: l, g, h => by
    rw [krP] at h
    split at h
    · exact List.mem_cons_of_mem _ (krP_mem l g h)
    · rcases List.mem_cons.1 h with rfl | h
      · simp
      · exact List.mem_cons_of_mem _ (krP_mem l _ h)
theorem edg_len {d : List (List Int)} {ps : List Int} {f : Nat} (hd : okD d) (hf : f ≤ d.length) : (edg d ps f).length ≤ 121 := by
  have hn := hd.1
  have hkk : d.length * d.length ≤ 11 * 11 := Nat.mul_le_mul hn.2 hn.2
  have hl := edAll_len (d := d) (p := ps) (f := f) d.length 0
  rw [Nat.zero_add] at hl
  obtain ⟨h1, h2⟩ := edg_ok (d := d) (p := ps) hf
  have nd : (edg d ps f).Nodup := h1.imp (fun {a b} h e => by subst e; exact ltE_lin.rf _ h)
  have := nd.length_le_of_subset (l₂ := edAll d ps f d.length 0) (fun e he => by
    obtain ⟨x, y, h, e'⟩ := (h2 e).1 he
    exact (mem_edAll _ _).2 ⟨x, y, by omega, e'⟩)
  omega
open Classical in
noncomputable def spanning61 : List HV → Option HV := mpF fun R a ps => if okD R ∧ (0 ≤ a ∧ a ≤ R.length) ∧ Small ps then some (.own 3 ((treeL R ps a.toNat).map encE)) else none
noncomputable def polSp : Pol := { pol with prim := fun g => if g == 70 then some edges70 else none }
theorem soundSp (n : Nat) : CallSound Tp (callN Tp polSp n) := sound_prim _ (fun g f h => by
  split at h
  · rename_i hg; cases h; rw [eq_of_beq hg]; exact edges_ok
  · cases h) n
end Go.Proofs.Ytlendaofkmhgmaa
end
section
open Go Go.HL
namespace Go.Proofs.Ytlendaofkmhgmaa
set_option maxRecDepth 100000
open Go.Proofs.Try renaming prog → Tp
open Go.HL.HV renaming undef → Ud
noncomputable def B61 : Code := Try.f61.body.getD .skip
abbrev env61 (v0 v1 v2 v5 v6 v7 v8 v9 v11 v12 v13 v14 v19 v20 v31 v32 v33 v55 v56 : HV) : Env := [(0, v0), (1, v1), (2, v2), (5, v5), (6, v6), (7, v7), (8, v8), (9, v9), (11, v11), (12, v12), (13, v13), (14, v14), (19, v19), (20, v20), (31, v31), (32, v32), (33, v33), (55, v55), (56, v56)]
theorem spn_a_0 (rw ps : List HV) (f : Nat) (g0 : (if (cellsOf (.agg ps)).all cellV then some (newV (.agg ps) []) else none) = some (.ptr 0 0 0 1, [.arr 11 [.agg ps] true 0])) : RT polSp 61 (sub [0] B61) [(0, .imm .arg 1 rw), (1, .i (f : Int)), (2, .agg ps)] [] .normal (env61 (.imm .arg 1 rw) (.i (f : Int)) (.agg ps) (.ptr 0 0 0 1) (.imm .lit 3 []) Ud Ud Ud Ud Ud Ud Ud Ud Ud Ud Ud Ud Ud Ud) [.arr 11 [.agg ps] true 0] :=
  RunsTo.hin 0 60 [⟨0, 0, .ptr 0 0 0 1, [.arr 11 [.agg ps] true 0]⟩] fun kf hk => ⟨_, by kernel_rfl, (oC (g0) .nil)⟩
theorem spn_b_0 (rw ps : List HV) (f : Nat)  {y7 y8 y9 y11 y12 y13 y14 y19 y20 y31 y32 y33 y55 y56 : HV}(g0 : makeV Tp false 23 (.i (rw.length : Int)) (.i (rw.length : Int)) [.arr 11 [.agg ps] true 0] = some (.sl 1 0 rw.length (some rw.length) rw.length 1, [.arr 11 [.agg ps] true 0, .arr 1 (List.replicate rw.length (.i 0)) true 0])) : RT polSp 61 (sub [1, 0] B61) (env61 (.imm .arg 1 rw) (.i (f : Int)) (.agg ps) (.ptr 0 0 0 1) (.imm .lit 3 []) y7 y8 y9 y11 y12 y13 y14 y19 y20 y31 y32 y33 y55 y56) [.arr 11 [.agg ps] true 0] .normal (env61 (.imm .arg 1 rw) (.i (f : Int)) (.agg ps) (.ptr 0 0 0 1) (.imm .lit 3 []) (.sl 1 0 rw.length (some rw.length) rw.length 1) y8 y9 y11 y12 y13 y14 y19 y20 y31 y32 y33 y55 y56) [.arr 11 [.agg ps] true 0, .arr 1 (List.replicate rw.length (.i 0)) true 0] :=
  RunsTo.hin 0 60 [⟨1, 2, .sl 1 0 rw.length (some rw.length) rw.length 1, [.arr 11 [.agg ps] true 0, .arr 1 (List.replicate rw.length (.i 0)) true 0]⟩] fun kf hk => ⟨_, by kernel_rfl, (oC (g0) .nil)⟩
theorem spn_c_0 (rw ps : List HV) (f : Nat) (n : Nat) (gs : List HV) {y8 y9 y11 y12 y13 y14 y19 y20 y31 y32 y33 y55 y56 : HV} : RT polSp 61 (sub [1, 1, 0, 0] B61) (env61 (.imm .arg 1 rw) (.i (f : Int)) (.agg ps) (.ptr 0 0 0 1) (.imm .lit 3 []) (.sl 1 0 n (some n) n 1) y8 y9 y11 y12 y13 y14 y19 y20 y31 y32 y33 y55 y56) [.arr 11 [.agg ps] true 0, .arr 1 gs true 0] .normal (env61 (.imm .arg 1 rw) (.i (f : Int)) (.agg ps) (.ptr 0 0 0 1) (.imm .lit 3 []) (.sl 1 0 n (some n) n 1) y8 y9 y11 y12 y13 y14 (.i (n : Int)) (.i 0) y31 y32 y33 y55 y56) [.arr 11 [.agg ps] true 0, .arr 1 gs true 0] :=
  RunsTo.hin 0 60 [] fun kf hk => ⟨_, by kernel_rfl, .nil⟩
theorem spn_d_0 (rw ps : List HV) (f : Nat) (n : Nat) (gs : List HV) (i : Nat) {y8 y9 y11 y12 y13 y14 y31 y32 y33 y55 y56 : HV} {el0 : List HV} (g0 : (i : Int) < (n : Int)) (g1 : idxV Tp 23 (.sl 1 0 n (some n) n 1) (.i (i : Int)) = some (.ptr 1 i 0 n)) (g2 : storeV Tp [.arr 11 [.agg ps] true 0, .arr 1 gs true 0] 3 (.ptr 1 i 0 n) (.i (i : Int)) = some [.arr 11 [.agg ps] true 0, .arr 1 el0 true 0]) : RT polSp 61 (sub [1, 1, 0, 1, 0, 0] B61) (env61 (.imm .arg 1 rw) (.i (f : Int)) (.agg ps) (.ptr 0 0 0 1) (.imm .lit 3 []) (.sl 1 0 n (some n) n 1) y8 y9 y11 y12 y13 y14 (.i (n : Int)) (.i (i : Int)) y31 y32 y33 y55 y56) [.arr 11 [.agg ps] true 0, .arr 1 gs true 0] .normal (env61 (.imm .arg 1 rw) (.i (f : Int)) (.agg ps) (.ptr 0 0 0 1) (.imm .lit 3 []) (.sl 1 0 n (some n) n 1) (.i (i : Int)) y9 y11 y12 y13 y14 (.i (n : Int)) (.i (IntKind.i64.wrap ((i : Int) + 1))) y31 y32 y33 y55 y56) [.arr 11 [.agg ps] true 0, .arr 1 el0 true 0] :=
  RunsTo.hin 0 60 [⟨3, 0, .bool true, [.arr 11 [.agg ps] true 0, .arr 1 gs true 0]⟩, ⟨5, 3, .ptr 1 i 0 n, [.arr 11 [.agg ps] true 0, .arr 1 gs true 0]⟩, ⟨5, 4, .tuple [], [.arr 11 [.agg ps] true 0, .arr 1 el0 true 0]⟩] fun kf hk => ⟨_, by kernel_rfl, (oB [.arr 11 [.agg ps] true 0, .arr 1 gs true 0] (decide_eq_true g0) (oP [.arr 11 [.agg ps] true 0, .arr 1 gs true 0] g1 (oS g2 .nil)))⟩
theorem spn_d_1 (rw ps : List HV) (f : Nat) (n : Nat) (gs : List HV) (i : Nat) {y8 y9 y11 y12 y13 y14 y31 y32 y33 y55 y56 : HV}(g0 : ¬ ((i : Int) < (n : Int))) : RT polSp 61 (sub [1, 1, 0, 1, 0, 0] B61) (env61 (.imm .arg 1 rw) (.i (f : Int)) (.agg ps) (.ptr 0 0 0 1) (.imm .lit 3 []) (.sl 1 0 n (some n) n 1) y8 y9 y11 y12 y13 y14 (.i (n : Int)) (.i (i : Int)) y31 y32 y33 y55 y56) [.arr 11 [.agg ps] true 0, .arr 1 gs true 0] (.exit 0) (env61 (.imm .arg 1 rw) (.i (f : Int)) (.agg ps) (.ptr 0 0 0 1) (.imm .lit 3 []) (.sl 1 0 n (some n) n 1) y8 y9 y11 y12 y13 y14 (.i (n : Int)) (.i (i : Int)) y31 y32 y33 y55 y56) [.arr 11 [.agg ps] true 0, .arr 1 gs true 0] :=
  RunsTo.hin 0 60 [⟨3, 0, .bool false, [.arr 11 [.agg ps] true 0, .arr 1 gs true 0]⟩] fun kf hk => ⟨_, by kernel_rfl, (oB [.arr 11 [.agg ps] true 0, .arr 1 gs true 0] (decide_eq_false g0) .nil)⟩
theorem spn_e_0 (rw ps : List HV) (f : Nat) (n : Nat) (gs : List HV) {y8 y9 y11 y12 y13 y14 y19 y20 y31 y32 y33 y55 y56 : HV} : RT polSp 61 (sub [1, 1, 1, 0] B61) (env61 (.imm .arg 1 rw) (.i (f : Int)) (.agg ps) (.ptr 0 0 0 1) (.imm .lit 3 []) (.sl 1 0 n (some n) n 1) y8 y9 y11 y12 y13 y14 y19 y20 y31 y32 y33 y55 y56) [.arr 11 [.agg ps] true 0, .arr 1 gs true 0] .normal (env61 (.imm .arg 1 rw) (.i (f : Int)) (.agg ps) (.ptr 0 0 0 1) (.imm .lit 3 []) (.sl 1 0 n (some n) n 1) y8 (.sl 2 0 0 none 0 3) y11 y12 y13 y14 y19 y20 y31 y32 y33 y55 y56) [.arr 11 [.agg ps] true 0, .arr 1 gs true 0, .arr 3 [] true 0] :=
  RunsTo.hin 0 60 [] fun kf hk => ⟨_, by kernel_rfl, .nil⟩
theorem spn_f_0 (rw ps : List HV) (f : Nat) (n : Nat) (gs : List HV) (m : Nat) (os : List HV) {y8 y11 y12 y13 y14 y19 y20 y31 y32 y33 y55 y56 : HV} {q : Nat} {es : List HV} (g0 : loadV Tp [.arr 11 [.agg ps] true 0, .arr 1 gs true 0, .arr 3 os true 0] 66 (.ptr 0 0 0 1) = some (.agg ps)) (g1 : ∀ kf, callN Tp polSp (kf + 1) 70 [.imm .arg 1 rw, .i (f : Int), .agg ps] [.arr 11 [.agg ps] true 0, .arr 1 gs true 0, .arr 3 os true 0] = some (.sl 3 0 q none q 3, [.arr 11 [.agg ps] true 0, .arr 1 gs true 0, .arr 3 os true 0, .arr 3 es true 0])) : RT polSp 61 (sub [1, 1, 1, 1, 0, 0] B61) (env61 (.imm .arg 1 rw) (.i (f : Int)) (.agg ps) (.ptr 0 0 0 1) (.imm .lit 3 []) (.sl 1 0 n (some n) n 1) y8 (.sl 2 0 m none m 3) y11 y12 y13 y14 y19 y20 y31 y32 y33 y55 y56) [.arr 11 [.agg ps] true 0, .arr 1 gs true 0, .arr 3 os true 0] .normal (env61 (.imm .arg 1 rw) (.i (f : Int)) (.agg ps) (.ptr 0 0 0 1) (.imm .lit 3 []) (.sl 1 0 n (some n) n 1) y8 (.sl 2 0 m none m 3) y11 y12 y13 y14 y19 y20 (.sl 3 0 q none q 3) (.i (q : Int)) (.i 0) y55 y56) [.arr 11 [.agg ps] true 0, .arr 1 gs true 0, .arr 3 os true 0, .arr 3 es true 0] :=
  RunsTo.hin 0 60 [⟨8, 2, .agg ps, [.arr 11 [.agg ps] true 0, .arr 1 gs true 0, .arr 3 os true 0]⟩, ⟨8, 3, .sl 3 0 q none q 3, [.arr 11 [.agg ps] true 0, .arr 1 gs true 0, .arr 3 os true 0, .arr 3 es true 0]⟩] fun kf hk => ⟨_, by kernel_rfl, (oP [.arr 11 [.agg ps] true 0, .arr 1 gs true 0, .arr 3 os true 0] g0 (oC (g1 kf) .nil))⟩
theorem spn_g_0 (rw ps : List HV) (f : Nat) (n : Nat) (gs : List HV) (m : Nat) (os : List HV) (q : Nat) (es : List HV) (i : Nat) {y5 y8 y11 y12 y13 y14 y19 y20 y55 y56 : HV}(g0 : (i : Int) < (q : Int)) : RunsTo Tp polSp 61 (sub [1, 1, 1, 1, 0, 1, 0, 0, 0] B61) (env61 (.imm .arg 1 rw) (.i (f : Int)) (.agg ps) y5 (.imm .lit 3 []) (.sl 1 0 n (some n) n 1) y8 (.sl 2 0 m none m 3) y11 y12 y13 y14 y19 y20 (.sl 3 0 q none q 3) (.i (q : Int)) (.i (i : Int)) y55 y56) [.arr 11 [.agg ps] true 0, .arr 1 gs true 0, .arr 3 os true 0, .arr 3 es true 0] .normal [0, 1, 2, 5, 6, 7, 8, 9, 11, 12, 13, 14, 19, 20, 31, 32, 33, 55, 56, 34] [(0, .imm .arg 1 rw), (1, .i (f : Int)), (2, .agg ps), (5, y5), (6, .imm .lit 3 []), (7, .sl 1 0 n (some n) n 1), (8, y8), (9, .sl 2 0 m none m 3), (11, y11), (12, y12), (13, y13), (14, y14), (19, y19), (20, y20), (31, .sl 3 0 q none q 3), (32, .i (q : Int)), (33, .i (i : Int)), (55, y55), (56, y56), (34, .bool true)] [.arr 11 [.agg ps] true 0, .arr 1 gs true 0, .arr 3 os true 0, .arr 3 es true 0] :=
  RunsTo.hin 0 60 [⟨9, 0, .bool true, [.arr 11 [.agg ps] true 0, .arr 1 gs true 0, .arr 3 os true 0, .arr 3 es true 0]⟩] fun kf hk => ⟨_, by kernel_rfl, (oB [.arr 11 [.agg ps] true 0, .arr 1 gs true 0, .arr 3 os true 0, .arr 3 es true 0] (decide_eq_true g0) .nil)⟩
theorem spn_g_1 (rw ps : List HV) (f : Nat) (n : Nat) (gs : List HV) (m : Nat) (os : List HV) (q : Nat) (es : List HV) (i : Nat) {y5 y8 y11 y12 y13 y14 y19 y20 y55 y56 : HV}(g0 : ¬ ((i : Int) < (q : Int))) : RunsTo Tp polSp 61 (sub [1, 1, 1, 1, 0, 1, 0, 0, 0] B61) (env61 (.imm .arg 1 rw) (.i (f : Int)) (.agg ps) y5 (.imm .lit 3 []) (.sl 1 0 n (some n) n 1) y8 (.sl 2 0 m none m 3) y11 y12 y13 y14 y19 y20 (.sl 3 0 q none q 3) (.i (q : Int)) (.i (i : Int)) y55 y56) [.arr 11 [.agg ps] true 0, .arr 1 gs true 0, .arr 3 os true 0, .arr 3 es true 0] .normal [0, 1, 2, 5, 6, 7, 8, 9, 11, 12, 13, 14, 19, 20, 31, 32, 33, 55, 56, 34] [(0, .imm .arg 1 rw), (1, .i (f : Int)), (2, .agg ps), (5, y5), (6, .imm .lit 3 []), (7, .sl 1 0 n (some n) n 1), (8, y8), (9, .sl 2 0 m none m 3), (11, y11), (12, y12), (13, y13), (14, y14), (19, y19), (20, y20), (31, .sl 3 0 q none q 3), (32, .i (q : Int)), (33, .i (i : Int)), (55, y55), (56, y56), (34, .bool false)] [.arr 11 [.agg ps] true 0, .arr 1 gs true 0, .arr 3 os true 0, .arr 3 es true 0] :=
  RunsTo.hin 0 60 [⟨9, 0, .bool false, [.arr 11 [.agg ps] true 0, .arr 1 gs true 0, .arr 3 os true 0, .arr 3 es true 0]⟩] fun kf hk => ⟨_, by kernel_rfl, (oB [.arr 11 [.agg ps] true 0, .arr 1 gs true 0, .arr 3 os true 0, .arr 3 es true 0] (decide_eq_false g0) .nil)⟩
theorem spn_ht_0 (rw ps : List HV) (f : Nat) (n : Nat) (gs : List HV) (m : Nat) (os : List HV) (q : Nat) (es : List HV) (i : Nat) {y5 y8 y11 y12 y13 y14 y19 y20 y55 y56 : HV} : RT polSp 61 (sub [1, 1, 1, 1, 0, 1, 0, 0, 1, 0] B61) [(0, .imm .arg 1 rw), (1, .i (f : Int)), (2, .agg ps), (5, y5), (6, .imm .lit 3 []), (7, .sl 1 0 n (some n) n 1), (8, y8), (9, .sl 2 0 m none m 3), (11, y11), (12, y12), (13, y13), (14, y14), (19, y19), (20, y20), (31, .sl 3 0 q none q 3), (32, .i (q : Int)), (33, .i (i : Int)), (55, y55), (56, y56), (34, .bool true)] [.arr 11 [.agg ps] true 0, .arr 1 gs true 0, .arr 3 os true 0, .arr 3 es true 0] .normal (env61 (.imm .arg 1 rw) (.i (f : Int)) (.agg ps) y5 (.imm .lit 3 []) (.sl 1 0 n (some n) n 1) y8 (.sl 2 0 m none m 3) y11 y12 y13 y14 y19 y20 (.sl 3 0 q none q 3) (.i (q : Int)) (.i (i : Int)) y55 y56) [.arr 11 [.agg ps] true 0, .arr 1 gs true 0, .arr 3 os true 0, .arr 3 es true 0] :=
  RunsTo.hin 0 60 [] fun kf hk => ⟨_, by kernel_rfl, .nil⟩
theorem spn_hf_0 (rw ps : List HV) (f : Nat) (n : Nat) (gs : List HV) (m : Nat) (os : List HV) (q : Nat) (es : List HV) (i : Nat) {y5 y8 y11 y12 y13 y14 y19 y20 y55 y56 : HV} : RT polSp 61 (sub [1, 1, 1, 1, 0, 1, 0, 0, 1, 0] B61) [(0, .imm .arg 1 rw), (1, .i (f : Int)), (2, .agg ps), (5, y5), (6, .imm .lit 3 []), (7, .sl 1 0 n (some n) n 1), (8, y8), (9, .sl 2 0 m none m 3), (11, y11), (12, y12), (13, y13), (14, y14), (19, y19), (20, y20), (31, .sl 3 0 q none q 3), (32, .i (q : Int)), (33, .i (i : Int)), (55, y55), (56, y56), (34, .bool false)] [.arr 11 [.agg ps] true 0, .arr 1 gs true 0, .arr 3 os true 0, .arr 3 es true 0] (.exit 2) (env61 (.imm .arg 1 rw) (.i (f : Int)) (.agg ps) y5 (.imm .lit 3 []) (.sl 1 0 n (some n) n 1) y8 (.sl 2 0 m none m 3) y11 y12 y13 y14 y19 y20 (.sl 3 0 q none q 3) (.i (q : Int)) (.i (i : Int)) y55 y56) [.arr 11 [.agg ps] true 0, .arr 1 gs true 0, .arr 3 os true 0, .arr 3 es true 0] :=
  RunsTo.hin 0 60 [] fun kf hk => ⟨_, by kernel_rfl, .nil⟩
theorem spn_i_0 (rw ps : List HV) (f : Nat) (n : Nat) (gs : List HV) (m : Nat) (os : List HV) (q : Nat) (es : List HV) (i : Nat) (ec : Int) (ea eb : Nat) {y5 y8 y11 y12 y13 y14 y19 y20 y55 y56 : HV}(g0 : idxV Tp 88 (.sl 3 0 q none q 3) (.i (i : Int)) = some (.ptr 3 i 0 q)) (g1 : loadV Tp [.arr 11 [.agg ps] true 0, .arr 1 gs true 0, .arr 3 os true 0, .arr 3 es true 0] 91 (.ptr 3 i 0 q) = some (.agg [.i ec, .i (ea : Int), .i (eb : Int)])) : RT polSp 61 (sub [1, 1, 1, 1, 0, 1, 0, 0, 1, 1, 0, 0, 0] B61) (env61 (.imm .arg 1 rw) (.i (f : Int)) (.agg ps) y5 (.imm .lit 3 []) (.sl 1 0 n (some n) n 1) y8 (.sl 2 0 m none m 3) y11 y12 y13 y14 y19 y20 (.sl 3 0 q none q 3) (.i (q : Int)) (.i (i : Int)) y55 y56) [.arr 11 [.agg ps] true 0, .arr 1 gs true 0, .arr 3 os true 0, .arr 3 es true 0] .normal (env61 (.imm .arg 1 rw) (.i (f : Int)) (.agg ps) y5 (.imm .lit 3 []) (.sl 1 0 n (some n) n 1) y8 (.sl 2 0 m none m 3) (.ptr 4 0 0 1) y12 y13 y14 y19 y20 (.sl 3 0 q none q 3) (.i (q : Int)) (.i (i : Int)) y55 y56) [.arr 11 [.agg ps] true 0, .arr 1 gs true 0, .arr 3 os true 0, .arr 3 es true 0, .arr 3 [.agg [.i ec, .i (ea : Int), .i (eb : Int)]] true 0] :=
  RunsTo.hin 0 60 [⟨10, 0, .ptr 3 i 0 q, [.arr 11 [.agg ps] true 0, .arr 1 gs true 0, .arr 3 os true 0, .arr 3 es true 0]⟩, ⟨10, 1, .agg [.i ec, .i (ea : Int), .i (eb : Int)], [.arr 11 [.agg ps] true 0, .arr 1 gs true 0, .arr 3 os true 0, .arr 3 es true 0]⟩] fun kf hk => ⟨_, by kernel_rfl, (oP [.arr 11 [.agg ps] true 0, .arr 1 gs true 0, .arr 3 os true 0, .arr 3 es true 0] g0 (oP [.arr 11 [.agg ps] true 0, .arr 1 gs true 0, .arr 3 os true 0, .arr 3 es true 0] g1 .nil))⟩
theorem spn_j_0 (rw ps : List HV) (f : Nat) (n : Nat) (gs : List HV) (m : Nat) (os : List HV) (q : Nat) (es : List HV) (i : Nat) (ec : Int) (ea eb : Nat) {y5 y8 y12 y13 y14 y19 y20 y55 y56 : HV} {x0 : Int} {x1 : Int} (g0 : idxV Tp 23 (.sl 1 0 n (some n) n 1) (.i (ea : Int)) = some (.ptr 1 ea 0 n)) (g1 : loadV Tp [.arr 11 [.agg ps] true 0, .arr 1 gs true 0, .arr 3 os true 0, .arr 3 es true 0, .arr 3 [.agg [.i ec, .i (ea : Int), .i (eb : Int)]] true 0] 3 (.ptr 1 ea 0 n) = some (.i x0)) (g2 : idxV Tp 23 (.sl 1 0 n (some n) n 1) (.i (eb : Int)) = some (.ptr 1 eb 0 n)) (g3 : loadV Tp [.arr 11 [.agg ps] true 0, .arr 1 gs true 0, .arr 3 os true 0, .arr 3 es true 0, .arr 3 [.agg [.i ec, .i (ea : Int), .i (eb : Int)]] true 0] 3 (.ptr 1 eb 0 n) = some (.i x1)) : RT polSp 61 (sub [1, 1, 1, 1, 0, 1, 0, 0, 1, 1, 0, 0, 1, 0] B61) (env61 (.imm .arg 1 rw) (.i (f : Int)) (.agg ps) y5 (.imm .lit 3 []) (.sl 1 0 n (some n) n 1) y8 (.sl 2 0 m none m 3) (.ptr 4 0 0 1) y12 y13 y14 y19 y20 (.sl 3 0 q none q 3) (.i (q : Int)) (.i (i : Int)) y55 y56) [.arr 11 [.agg ps] true 0, .arr 1 gs true 0, .arr 3 os true 0, .arr 3 es true 0, .arr 3 [.agg [.i ec, .i (ea : Int), .i (eb : Int)]] true 0] .normal (env61 (.imm .arg 1 rw) (.i (f : Int)) (.agg ps) y5 (.imm .lit 3 []) (.sl 1 0 n (some n) n 1) y8 (.sl 2 0 m none m 3) (.ptr 4 0 0 1) (.i x0) (.i x1) y14 y19 y20 (.sl 3 0 q none q 3) (.i (q : Int)) (.i (i : Int)) y55 y56) [.arr 11 [.agg ps] true 0, .arr 1 gs true 0, .arr 3 os true 0, .arr 3 es true 0, .arr 3 [.agg [.i ec, .i (ea : Int), .i (eb : Int)]] true 0] :=
  RunsTo.hin 0 60 [⟨11, 3, .ptr 1 ea 0 n, [.arr 11 [.agg ps] true 0, .arr 1 gs true 0, .arr 3 os true 0, .arr 3 es true 0, .arr 3 [.agg [.i ec, .i (ea : Int), .i (eb : Int)]] true 0]⟩, ⟨11, 4, .i x0, [.arr 11 [.agg ps] true 0, .arr 1 gs true 0, .arr 3 os true 0, .arr 3 es true 0, .arr 3 [.agg [.i ec, .i (ea : Int), .i (eb : Int)]] true 0]⟩, ⟨11, 8, .ptr 1 eb 0 n, [.arr 11 [.agg ps] true 0, .arr 1 gs true 0, .arr 3 os true 0, .arr 3 es true 0, .arr 3 [.agg [.i ec, .i (ea : Int), .i (eb : Int)]] true 0]⟩, ⟨11, 9, .i x1, [.arr 11 [.agg ps] true 0, .arr 1 gs true 0, .arr 3 os true 0, .arr 3 es true 0, .arr 3 [.agg [.i ec, .i (ea : Int), .i (eb : Int)]] true 0]⟩] fun kf hk => ⟨_, by kernel_rfl, (oP [.arr 11 [.agg ps] true 0, .arr 1 gs true 0, .arr 3 os true 0, .arr 3 es true 0, .arr 3 [.agg [.i ec, .i (ea : Int), .i (eb : Int)]] true 0] g0 (oP [.arr 11 [.agg ps] true 0, .arr 1 gs true 0, .arr 3 os true 0, .arr 3 es true 0, .arr 3 [.agg [.i ec, .i (ea : Int), .i (eb : Int)]] true 0] g1 (oP [.arr 11 [.agg ps] true 0, .arr 1 gs true 0, .arr 3 os true 0, .arr 3 es true 0, .arr 3 [.agg [.i ec, .i (ea : Int), .i (eb : Int)]] true 0] g2 (oP [.arr 11 [.agg ps] true 0, .arr 1 gs true 0, .arr 3 os true 0, .arr 3 es true 0, .arr 3 [.agg [.i ec, .i (ea : Int), .i (eb : Int)]] true 0] g3 .nil))))⟩
theorem spn_k_0 (rw ps : List HV) (f : Nat) (n : Nat) (gs : List HV) (m : Nat) (os : List HV) (q : Nat) (es : List HV) (i : Nat) (ec : Int) (ea eb : Nat) (o w : Int) {y5 y8 y14 y19 y20 y55 y56 : HV}(g0 : o = w) : RT polSp 61 (sub [1, 1, 1, 1, 0, 1, 0, 0, 1, 1, 0, 0, 1, 1, 0] B61) (env61 (.imm .arg 1 rw) (.i (f : Int)) (.agg ps) y5 (.imm .lit 3 []) (.sl 1 0 n (some n) n 1) y8 (.sl 2 0 m none m 3) (.ptr 4 0 0 1) (.i o) (.i w) y14 y19 y20 (.sl 3 0 q none q 3) (.i (q : Int)) (.i (i : Int)) y55 y56) [.arr 11 [.agg ps] true 0, .arr 1 gs true 0, .arr 3 os true 0, .arr 3 es true 0, .arr 3 [.agg [.i ec, .i (ea : Int), .i (eb : Int)]] true 0] (.exit 3) (env61 (.imm .arg 1 rw) (.i (f : Int)) (.agg ps) y5 (.imm .lit 3 []) (.sl 1 0 n (some n) n 1) y8 (.sl 2 0 m none m 3) (.ptr 4 0 0 1) (.i o) (.i w) y14 y19 y20 (.sl 3 0 q none q 3) (.i (q : Int)) (.i (i : Int)) y55 y56) [.arr 11 [.agg ps] true 0, .arr 1 gs true 0, .arr 3 os true 0, .arr 3 es true 0, .arr 3 [.agg [.i ec, .i (ea : Int), .i (eb : Int)]] true 0] :=
  RunsTo.hin 0 60 [⟨12, 2, .bool true, [.arr 11 [.agg ps] true 0, .arr 1 gs true 0, .arr 3 os true 0, .arr 3 es true 0, .arr 3 [.agg [.i ec, .i (ea : Int), .i (eb : Int)]] true 0]⟩] fun kf hk => ⟨_, by kernel_rfl, (oB [.arr 11 [.agg ps] true 0, .arr 1 gs true 0, .arr 3 os true 0, .arr 3 es true 0, .arr 3 [.agg [.i ec, .i (ea : Int), .i (eb : Int)]] true 0] (decide_eq_true g0) .nil)⟩
theorem spn_k_1 (rw ps : List HV) (f : Nat) (n : Nat) (gs : List HV) (m : Nat) (os : List HV) (q : Nat) (es : List HV) (i : Nat) (ec : Int) (ea eb : Nat) (o w : Int) {y5 y8 y14 y19 y20 y55 y56 : HV}(g0 : ¬ (o = w)) : RT polSp 61 (sub [1, 1, 1, 1, 0, 1, 0, 0, 1, 1, 0, 0, 1, 1, 0] B61) (env61 (.imm .arg 1 rw) (.i (f : Int)) (.agg ps) y5 (.imm .lit 3 []) (.sl 1 0 n (some n) n 1) y8 (.sl 2 0 m none m 3) (.ptr 4 0 0 1) (.i o) (.i w) y14 y19 y20 (.sl 3 0 q none q 3) (.i (q : Int)) (.i (i : Int)) y55 y56) [.arr 11 [.agg ps] true 0, .arr 1 gs true 0, .arr 3 os true 0, .arr 3 es true 0, .arr 3 [.agg [.i ec, .i (ea : Int), .i (eb : Int)]] true 0] .normal (env61 (.imm .arg 1 rw) (.i (f : Int)) (.agg ps) y5 (.imm .lit 3 []) (.sl 1 0 n (some n) n 1) y8 (.sl 2 0 m none m 3) (.ptr 4 0 0 1) (.i o) (.i w) y14 y19 y20 (.sl 3 0 q none q 3) (.i (q : Int)) (.i (i : Int)) y55 y56) [.arr 11 [.agg ps] true 0, .arr 1 gs true 0, .arr 3 os true 0, .arr 3 es true 0, .arr 3 [.agg [.i ec, .i (ea : Int), .i (eb : Int)]] true 0] :=
  RunsTo.hin 0 60 [⟨12, 2, .bool false, [.arr 11 [.agg ps] true 0, .arr 1 gs true 0, .arr 3 os true 0, .arr 3 es true 0, .arr 3 [.agg [.i ec, .i (ea : Int), .i (eb : Int)]] true 0]⟩] fun kf hk => ⟨_, by kernel_rfl, (oB [.arr 11 [.agg ps] true 0, .arr 1 gs true 0, .arr 3 os true 0, .arr 3 es true 0, .arr 3 [.agg [.i ec, .i (ea : Int), .i (eb : Int)]] true 0] (decide_eq_false g0) .nil)⟩
theorem spn_l_0 (rw ps : List HV) (f : Nat) (n : Nat) (gs : List HV) (m : Nat) (os : List HV) (q : Nat) (es : List HV) (i : Nat) (ec : Int) (ea eb : Nat) (o w : Int) {y5 y8 y14 y19 y20 y55 y56 : HV}(g0 : appV [.arr 11 [.agg ps] true 0, .arr 1 gs true 0, .arr 3 os true 0, .arr 3 es true 0, .arr 3 [.agg [.i ec, .i (ea : Int), .i (eb : Int)]] true 0] 3 24 (.sl 2 0 m none m 3) [.agg [.i ec, .i (ea : Int), .i (eb : Int)]] = some (.sl 2 0 (m + 1) none (m + 1) 3, [.arr 11 [.agg ps] true 0, .arr 1 gs true 0, .arr 3 (os ++ [.agg [.i ec, .i (ea : Int), .i (eb : Int)]]) true 0, .arr 3 es true 0, .arr 3 [.agg [.i ec, .i (ea : Int), .i (eb : Int)]] true 0])) : RT polSp 61 (sub [1, 1, 1, 1, 0, 1, 0, 0, 1, 1, 0, 0, 1, 1, 1, 0] B61) (env61 (.imm .arg 1 rw) (.i (f : Int)) (.agg ps) y5 (.imm .lit 3 []) (.sl 1 0 n (some n) n 1) y8 (.sl 2 0 m none m 3) (.ptr 4 0 0 1) (.i o) (.i w) y14 y19 y20 (.sl 3 0 q none q 3) (.i (q : Int)) (.i (i : Int)) y55 y56) [.arr 11 [.agg ps] true 0, .arr 1 gs true 0, .arr 3 os true 0, .arr 3 es true 0, .arr 3 [.agg [.i ec, .i (ea : Int), .i (eb : Int)]] true 0] .normal (env61 (.imm .arg 1 rw) (.i (f : Int)) (.agg ps) y5 (.imm .lit 3 []) (.sl 1 0 n (some n) n 1) y8 (.sl 2 0 (m + 1) none (m + 1) 3) (.ptr 4 0 0 1) (.i o) (.i w) y14 y19 y20 (.sl 3 0 q none q 3) (.i (q : Int)) (.i (i : Int)) y55 y56) [.arr 11 [.agg ps] true 0, .arr 1 gs true 0, .arr 3 (os ++ [.agg [.i ec, .i (ea : Int), .i (eb : Int)]]) true 0, .arr 3 es true 0, .arr 3 [.agg [.i ec, .i (ea : Int), .i (eb : Int)]] true 0] :=
  RunsTo.hin 0 60 [⟨13, 3, .sl 2 0 (m + 1) none (m + 1) 3, [.arr 11 [.agg ps] true 0, .arr 1 gs true 0, .arr 3 (os ++ [.agg [.i ec, .i (ea : Int), .i (eb : Int)]]) true 0, .arr 3 es true 0, .arr 3 [.agg [.i ec, .i (ea : Int), .i (eb : Int)]] true 0]⟩] fun kf hk => ⟨_, by kernel_rfl, (oC (g0) .nil)⟩
theorem spn_m_0 (rw ps : List HV) (f : Nat) (n : Nat) (gs : List HV) (m : Nat) (os : List HV) (q : Nat) (es : List HV) (i : Nat) (ec : Int) (ea eb : Nat) {y5 y8 y12 y13 y14 y19 y20 y55 y56 : HV} : RT polSp 61 (sub [1, 1, 1, 1, 0, 1, 0, 0, 1, 1, 0, 0, 1, 1, 1, 1, 0] B61) (env61 (.imm .arg 1 rw) (.i (f : Int)) (.agg ps) y5 (.imm .lit 3 []) (.sl 1 0 n (some n) n 1) y8 (.sl 2 0 m none m 3) (.ptr 4 0 0 1) y12 y13 y14 y19 y20 (.sl 3 0 q none q 3) (.i (q : Int)) (.i (i : Int)) y55 y56) [.arr 11 [.agg ps] true 0, .arr 1 gs true 0, .arr 3 os true 0, .arr 3 es true 0, .arr 3 [.agg [.i ec, .i (ea : Int), .i (eb : Int)]] true 0] .normal (env61 (.imm .arg 1 rw) (.i (f : Int)) (.agg ps) y5 (.imm .lit 3 []) (.sl 1 0 n (some n) n 1) y8 (.sl 2 0 m none m 3) (.ptr 4 0 0 1) y12 y13 y14 y19 y20 (.sl 3 0 q none q 3) (.i (q : Int)) (.i (i : Int)) (.i (n : Int)) (.i 0)) [.arr 11 [.agg ps] true 0, .arr 1 gs true 0, .arr 3 os true 0, .arr 3 es true 0, .arr 3 [.agg [.i ec, .i (ea : Int), .i (eb : Int)]] true 0] :=
  RunsTo.hin 0 60 [] fun kf hk => ⟨_, by kernel_rfl, .nil⟩
theorem spn_n_0 (rw ps : List HV) (f : Nat) (n : Nat) (gs : List HV) (m : Nat) (os : List HV) (q : Nat) (es : List HV) (i : Nat) (ec : Int) (ea eb : Nat) (o w : Int) (j : Nat) {y5 y8 y11 y14 y19 y20 : HV} {x0 : Int} {el0 : List HV} (g0 : (j : Int) < (n : Int)) (g1 : idxV Tp 23 (.sl 1 0 n (some n) n 1) (.i (j : Int)) = some (.ptr 1 j 0 n)) (g2 : loadV Tp [.arr 11 [.agg ps] true 0, .arr 1 gs true 0, .arr 3 os true 0, .arr 3 es true 0, .arr 3 [.agg [.i ec, .i (ea : Int), .i (eb : Int)]] true 0] 3 (.ptr 1 j 0 n) = some (.i x0)) (g3 : x0 = o) (g4 : idxV Tp 23 (.sl 1 0 n (some n) n 1) (.i (j : Int)) = some (.ptr 1 j 0 n)) (g5 : storeV Tp [.arr 11 [.agg ps] true 0, .arr 1 gs true 0, .arr 3 os true 0, .arr 3 es true 0, .arr 3 [.agg [.i ec, .i (ea : Int), .i (eb : Int)]] true 0] 3 (.ptr 1 j 0 n) (.i w) = some [.arr 11 [.agg ps] true 0, .arr 1 el0 true 0, .arr 3 os true 0, .arr 3 es true 0, .arr 3 [.agg [.i ec, .i (ea : Int), .i (eb : Int)]] true 0]) : RT polSp 61 (sub [1, 1, 1, 1, 0, 1, 0, 0, 1, 1, 0, 0, 1, 1, 1, 1, 1, 0, 0] B61) (env61 (.imm .arg 1 rw) (.i (f : Int)) (.agg ps) y5 (.imm .lit 3 []) (.sl 1 0 n (some n) n 1) y8 (.sl 2 0 m none m 3) y11 (.i o) (.i w) y14 y19 y20 (.sl 3 0 q none q 3) (.i (q : Int)) (.i (i : Int)) (.i (n : Int)) (.i (j : Int))) [.arr 11 [.agg ps] true 0, .arr 1 gs true 0, .arr 3 os true 0, .arr 3 es true 0, .arr 3 [.agg [.i ec, .i (ea : Int), .i (eb : Int)]] true 0] .normal (env61 (.imm .arg 1 rw) (.i (f : Int)) (.agg ps) y5 (.imm .lit 3 []) (.sl 1 0 n (some n) n 1) y8 (.sl 2 0 m none m 3) y11 (.i o) (.i w) (.i (j : Int)) y19 y20 (.sl 3 0 q none q 3) (.i (q : Int)) (.i (i : Int)) (.i (n : Int)) (.i (IntKind.i64.wrap ((j : Int) + 1)))) [.arr 11 [.agg ps] true 0, .arr 1 el0 true 0, .arr 3 os true 0, .arr 3 es true 0, .arr 3 [.agg [.i ec, .i (ea : Int), .i (eb : Int)]] true 0] :=
  RunsTo.hin 0 60 [⟨15, 0, .bool true, [.arr 11 [.agg ps] true 0, .arr 1 gs true 0, .arr 3 os true 0, .arr 3 es true 0, .arr 3 [.agg [.i ec, .i (ea : Int), .i (eb : Int)]] true 0]⟩, ⟨17, 2, .ptr 1 j 0 n, [.arr 11 [.agg ps] true 0, .arr 1 gs true 0, .arr 3 os true 0, .arr 3 es true 0, .arr 3 [.agg [.i ec, .i (ea : Int), .i (eb : Int)]] true 0]⟩, ⟨17, 3, .i x0, [.arr 11 [.agg ps] true 0, .arr 1 gs true 0, .arr 3 os true 0, .arr 3 es true 0, .arr 3 [.agg [.i ec, .i (ea : Int), .i (eb : Int)]] true 0]⟩, ⟨17, 5, .bool true, [.arr 11 [.agg ps] true 0, .arr 1 gs true 0, .arr 3 os true 0, .arr 3 es true 0, .arr 3 [.agg [.i ec, .i (ea : Int), .i (eb : Int)]] true 0]⟩, ⟨18, 3, .ptr 1 j 0 n, [.arr 11 [.agg ps] true 0, .arr 1 gs true 0, .arr 3 os true 0, .arr 3 es true 0, .arr 3 [.agg [.i ec, .i (ea : Int), .i (eb : Int)]] true 0]⟩, ⟨18, 4, .tuple [], [.arr 11 [.agg ps] true 0, .arr 1 el0 true 0, .arr 3 os true 0, .arr 3 es true 0, .arr 3 [.agg [.i ec, .i (ea : Int), .i (eb : Int)]] true 0]⟩] fun kf hk => ⟨_, by kernel_rfl, (oB [.arr 11 [.agg ps] true 0, .arr 1 gs true 0, .arr 3 os true 0, .arr 3 es true 0, .arr 3 [.agg [.i ec, .i (ea : Int), .i (eb : Int)]] true 0] (decide_eq_true g0) (oP [.arr 11 [.agg ps] true 0, .arr 1 gs true 0, .arr 3 os true 0, .arr 3 es true 0, .arr 3 [.agg [.i ec, .i (ea : Int), .i (eb : Int)]] true 0] g1 (oP [.arr 11 [.agg ps] true 0, .arr 1 gs true 0, .arr 3 os true 0, .arr 3 es true 0, .arr 3 [.agg [.i ec, .i (ea : Int), .i (eb : Int)]] true 0] g2 (oB [.arr 11 [.agg ps] true 0, .arr 1 gs true 0, .arr 3 os true 0, .arr 3 es true 0, .arr 3 [.agg [.i ec, .i (ea : Int), .i (eb : Int)]] true 0] (decide_eq_true g3) (oP [.arr 11 [.agg ps] true 0, .arr 1 gs true 0, .arr 3 os true 0, .arr 3 es true 0, .arr 3 [.agg [.i ec, .i (ea : Int), .i (eb : Int)]] true 0] g4 (oS g5 .nil))))))⟩
theorem spn_n_1 (rw ps : List HV) (f : Nat) (n : Nat) (gs : List HV) (m : Nat) (os : List HV) (q : Nat) (es : List HV) (i : Nat) (ec : Int) (ea eb : Nat) (o w : Int) (j : Nat) {y5 y8 y11 y14 y19 y20 : HV} {x0 : Int} (g0 : (j : Int) < (n : Int)) (g1 : idxV Tp 23 (.sl 1 0 n (some n) n 1) (.i (j : Int)) = some (.ptr 1 j 0 n)) (g2 : loadV Tp [.arr 11 [.agg ps] true 0, .arr 1 gs true 0, .arr 3 os true 0, .arr 3 es true 0, .arr 3 [.agg [.i ec, .i (ea : Int), .i (eb : Int)]] true 0] 3 (.ptr 1 j 0 n) = some (.i x0)) (g3 : ¬ (x0 = o)) : RT polSp 61 (sub [1, 1, 1, 1, 0, 1, 0, 0, 1, 1, 0, 0, 1, 1, 1, 1, 1, 0, 0] B61) (env61 (.imm .arg 1 rw) (.i (f : Int)) (.agg ps) y5 (.imm .lit 3 []) (.sl 1 0 n (some n) n 1) y8 (.sl 2 0 m none m 3) y11 (.i o) (.i w) y14 y19 y20 (.sl 3 0 q none q 3) (.i (q : Int)) (.i (i : Int)) (.i (n : Int)) (.i (j : Int))) [.arr 11 [.agg ps] true 0, .arr 1 gs true 0, .arr 3 os true 0, .arr 3 es true 0, .arr 3 [.agg [.i ec, .i (ea : Int), .i (eb : Int)]] true 0] .normal (env61 (.imm .arg 1 rw) (.i (f : Int)) (.agg ps) y5 (.imm .lit 3 []) (.sl 1 0 n (some n) n 1) y8 (.sl 2 0 m none m 3) y11 (.i o) (.i w) (.i (j : Int)) y19 y20 (.sl 3 0 q none q 3) (.i (q : Int)) (.i (i : Int)) (.i (n : Int)) (.i (IntKind.i64.wrap ((j : Int) + 1)))) [.arr 11 [.agg ps] true 0, .arr 1 gs true 0, .arr 3 os true 0, .arr 3 es true 0, .arr 3 [.agg [.i ec, .i (ea : Int), .i (eb : Int)]] true 0] :=
  RunsTo.hin 0 60 [⟨15, 0, .bool true, [.arr 11 [.agg ps] true 0, .arr 1 gs true 0, .arr 3 os true 0, .arr 3 es true 0, .arr 3 [.agg [.i ec, .i (ea : Int), .i (eb : Int)]] true 0]⟩, ⟨17, 2, .ptr 1 j 0 n, [.arr 11 [.agg ps] true 0, .arr 1 gs true 0, .arr 3 os true 0, .arr 3 es true 0, .arr 3 [.agg [.i ec, .i (ea : Int), .i (eb : Int)]] true 0]⟩, ⟨17, 3, .i x0, [.arr 11 [.agg ps] true 0, .arr 1 gs true 0, .arr 3 os true 0, .arr 3 es true 0, .arr 3 [.agg [.i ec, .i (ea : Int), .i (eb : Int)]] true 0]⟩, ⟨17, 5, .bool false, [.arr 11 [.agg ps] true 0, .arr 1 gs true 0, .arr 3 os true 0, .arr 3 es true 0, .arr 3 [.agg [.i ec, .i (ea : Int), .i (eb : Int)]] true 0]⟩] fun kf hk => ⟨_, by kernel_rfl, (oB [.arr 11 [.agg ps] true 0, .arr 1 gs true 0, .arr 3 os true 0, .arr 3 es true 0, .arr 3 [.agg [.i ec, .i (ea : Int), .i (eb : Int)]] true 0] (decide_eq_true g0) (oP [.arr 11 [.agg ps] true 0, .arr 1 gs true 0, .arr 3 os true 0, .arr 3 es true 0, .arr 3 [.agg [.i ec, .i (ea : Int), .i (eb : Int)]] true 0] g1 (oP [.arr 11 [.agg ps] true 0, .arr 1 gs true 0, .arr 3 os true 0, .arr 3 es true 0, .arr 3 [.agg [.i ec, .i (ea : Int), .i (eb : Int)]] true 0] g2 (oB [.arr 11 [.agg ps] true 0, .arr 1 gs true 0, .arr 3 os true 0, .arr 3 es true 0, .arr 3 [.agg [.i ec, .i (ea : Int), .i (eb : Int)]] true 0] (decide_eq_false g3) .nil))))⟩
theorem spn_n_2 (rw ps : List HV) (f : Nat) (n : Nat) (gs : List HV) (m : Nat) (os : List HV) (q : Nat) (es : List HV) (i : Nat) (ec : Int) (ea eb : Nat) (o w : Int) (j : Nat) {y5 y8 y11 y14 y19 y20 : HV}(g0 : ¬ ((j : Int) < (n : Int))) : RT polSp 61 (sub [1, 1, 1, 1, 0, 1, 0, 0, 1, 1, 0, 0, 1, 1, 1, 1, 1, 0, 0] B61) (env61 (.imm .arg 1 rw) (.i (f : Int)) (.agg ps) y5 (.imm .lit 3 []) (.sl 1 0 n (some n) n 1) y8 (.sl 2 0 m none m 3) y11 (.i o) (.i w) y14 y19 y20 (.sl 3 0 q none q 3) (.i (q : Int)) (.i (i : Int)) (.i (n : Int)) (.i (j : Int))) [.arr 11 [.agg ps] true 0, .arr 1 gs true 0, .arr 3 os true 0, .arr 3 es true 0, .arr 3 [.agg [.i ec, .i (ea : Int), .i (eb : Int)]] true 0] (.exit 4) (env61 (.imm .arg 1 rw) (.i (f : Int)) (.agg ps) y5 (.imm .lit 3 []) (.sl 1 0 n (some n) n 1) y8 (.sl 2 0 m none m 3) y11 (.i o) (.i w) y14 y19 y20 (.sl 3 0 q none q 3) (.i (q : Int)) (.i (i : Int)) (.i (n : Int)) (.i (j : Int))) [.arr 11 [.agg ps] true 0, .arr 1 gs true 0, .arr 3 os true 0, .arr 3 es true 0, .arr 3 [.agg [.i ec, .i (ea : Int), .i (eb : Int)]] true 0] :=
  RunsTo.hin 0 60 [⟨15, 0, .bool false, [.arr 11 [.agg ps] true 0, .arr 1 gs true 0, .arr 3 os true 0, .arr 3 es true 0, .arr 3 [.agg [.i ec, .i (ea : Int), .i (eb : Int)]] true 0]⟩] fun kf hk => ⟨_, by kernel_rfl, (oB [.arr 11 [.agg ps] true 0, .arr 1 gs true 0, .arr 3 os true 0, .arr 3 es true 0, .arr 3 [.agg [.i ec, .i (ea : Int), .i (eb : Int)]] true 0] (decide_eq_false g0) .nil)⟩
theorem spn_o_0 (rw ps : List HV) (f : Nat) (n : Nat) (gs : List HV) (m : Nat) (os : List HV) (q : Nat) (es : List HV) (i : Nat) (ec : Int) (ea eb : Nat) {y5 y8 y11 y12 y13 y14 y19 y20 y55 y56 : HV} : RT polSp 61 (sub [1, 1, 1, 1, 0, 1, 0, 0, 1, 1, 1] B61) (env61 (.imm .arg 1 rw) (.i (f : Int)) (.agg ps) y5 (.imm .lit 3 []) (.sl 1 0 n (some n) n 1) y8 (.sl 2 0 m none m 3) y11 y12 y13 y14 y19 y20 (.sl 3 0 q none q 3) (.i (q : Int)) (.i (i : Int)) y55 y56) [.arr 11 [.agg ps] true 0, .arr 1 gs true 0, .arr 3 os true 0, .arr 3 es true 0, .arr 3 [.agg [.i ec, .i (ea : Int), .i (eb : Int)]] true 0] .normal (env61 (.imm .arg 1 rw) (.i (f : Int)) (.agg ps) y5 (.imm .lit 3 []) (.sl 1 0 n (some n) n 1) y8 (.sl 2 0 m none m 3) y11 y12 y13 y14 y19 y20 (.sl 3 0 q none q 3) (.i (q : Int)) (.i (IntKind.i64.wrap ((i : Int) + 1))) y55 y56) [.arr 11 [.agg ps] true 0, .arr 1 gs true 0, .arr 3 os true 0, .arr 3 es true 0, .arr 3 [.agg [.i ec, .i (ea : Int), .i (eb : Int)]] true 0] :=
  RunsTo.hin 0 60 [] fun kf hk => ⟨_, by kernel_rfl, .nil⟩
theorem spn_p_0 (rw ps : List HV) (f : Nat) (n : Nat) (gs : List HV) (m : Nat) (os : List HV) (q : Nat) (es : List HV) {y5 y7 y8 y11 y12 y13 y14 y19 y20 y31 y32 y33 y55 y56 : HV} : RT polSp 61 (sub [1, 1, 1, 1, 1] B61) (env61 (.imm .arg 1 rw) (.i (f : Int)) (.agg ps) y5 (.imm .lit 3 []) y7 y8 (.sl 2 0 m none m 3) y11 y12 y13 y14 y19 y20 y31 y32 y33 y55 y56) [.arr 11 [.agg ps] true 0, .arr 1 gs true 0, .arr 3 os true 0, .arr 3 es true 0] .ret (env61 (.imm .arg 1 rw) (.i (f : Int)) (.agg ps) y5 (.sl 2 0 m none m 3) y7 y8 (.sl 2 0 m none m 3) y11 y12 y13 y14 y19 y20 y31 y32 y33 y55 y56) [.arr 11 [.agg ps] true 0, .arr 1 gs true 0, .arr 3 os true 0, .arr 3 es true 0] :=
  RunsTo.hin 0 60 [] fun kf hk => ⟨_, by kernel_rfl, .nil⟩
end Go.Proofs.Ytlendaofkmhgmaa
end
section
open Go Go.HL Go.HL.So
namespace Go.Proofs.Ytlendaofkmhgmaa
open Go.Proofs.Try renaming prog → Tp
open Go.HL.HV renaming undef → Ud
theorem res61 : Try.f61.results.toList = [.tmp 6] := by kernel_rfl
theorem ixg {n b k : Nat} {cap : Option Nat} (hk : k < n) : idxV Tp 23 (.sl b 0 n cap n 1) (.int .i64 (k : Int)) = some (.ptr b k 0 n) := by
  have := idx_sl (P := Tp) (t := 23) (b := b) (len := n) (tot := n) (cap := cap) (ik := .i64) (n := (k : Int)) u23 z3 (by omega) (by omega)
  rwa [Int.toNat_natCast] at this
theorem ixe {n b k : Nat} {cap : Option Nat} (hk : k < n) : idxV Tp 88 (.sl b 0 n cap n 3) (.int .i64 (k : Int)) = some (.ptr b k 0 n) := ixs (db := b) (n := n) (cap := cap) rfl hk
theorem ldg {H : Heap} {b k n : Nat} {g : List Int} (hb : H[b]? = some (bI g)) (hn : g.length = n) (hk : k < n) : loadV Tp H 3 (.ptr b k 0 n) = some (.int .i64 (g.getD k 0)) := by
  subst hn; exact load_out hb hk
theorem stg {H : Heap} {b k n : Nat} {g : List Int} (hb : H[b]? = some (bI g)) (hn : g.length = n) (hk : k < n) (v : Int) : storeV Tp H 3 (.ptr b k 0 n) (.int .i64 v) = some (H.set b (bI (g.set k v))) := by
  subst hn; exact store_out hb hk v
theorem lde {H : Heap} {b k n : Nat} {l : List Ed} (hb : H[b]? = some (bE encE l)) (hn : l.length = n) (hk : k < n) : loadV Tp H 91 (.ptr b k 0 n) = some (encE (at_ l k)) :=
  load_agg (b := b) hb (by simpa using hn.symm) (by rw [List.getElem?_map, List.getElem?_eq_getElem (by omega)]; simp [at_, List.getD, List.getElem?_eq_getElem (show k < l.length by omega), encE]) a91 s91
section
variable {d : List (List Int)} {ps : List Int} {f : Nat}
abbrev spH (ps g : List Int) (os es : List Ed) : Heap := [pB ps, bI g, bE encE os, bE encE es]
abbrev spX (ps g : List Int) (os es : List Ed) (e : Ed) : Heap := [pB ps, bI g, bE encE os, bE encE es, .arr 3 [encE e] true 0]
abbrev mkQ (c : Int) (a b : Nat) : Ed := (c, (a : Int), (b : Int))
theorem sp_in (hd : okD d) {i ea eb : Nat} {ec o w : Int} {os es : List Ed} : ∀ k j (g : List Int), g.length = d.length → j + k = d.length →
    ∃ y14, RT polSp 61 (sub [1, 1, 1, 1, 0, 1, 0, 0, 1, 1, 0, 0, 1, 1, 1, 1, 1, 0] B61) (env61 (.imm .arg 1 (d.map encR)) (.int .i64 (f : Int)) (.agg (ps.map encI)) Ud (.imm .lit 3 []) (.sl 1 0 d.length (some d.length) d.length 1) Ud (.sl 2 0 os.length none os.length 3) Ud (.int .i64 o) (.int .i64 w) Ud Ud Ud (.sl 3 0 es.length none es.length 3) (.int .i64 (es.length : Int)) (.int .i64 (i : Int)) (.int .i64 (d.length : Int)) (.int .i64 (j : Int))) (spX ps g os es (mkQ ec ea eb)) (.exit 4)
      (env61 (.imm .arg 1 (d.map encR)) (.int .i64 (f : Int)) (.agg (ps.map encI)) Ud (.imm .lit 3 []) (.sl 1 0 d.length (some d.length) d.length 1) Ud (.sl 2 0 os.length none os.length 3) Ud (.int .i64 o) (.int .i64 w) y14 Ud Ud (.sl 3 0 es.length none es.length 3) (.int .i64 (es.length : Int)) (.int .i64 (i : Int)) (.int .i64 (d.length : Int)) (.int .i64 (d.length : Int))) (spX ps (rlb o w k j g) os es (mkQ ec ea eb)) := by
  have hn := hd.1
  intro k
  induction k with
  | zero =>
    intro j g hg hj
    have : j = d.length := by omega
    subst this
    exact ⟨_, lpo (spn_n_2 (d.map encR) (ps.map encI) f d.length (g.map encI) os.length (os.map encE) es.length (es.map encE) i ec ea eb o w d.length (by omega))⟩
  | succ k ih =>
    intro j g hg hj
    by_cases c : g.getD j 0 = o
    · have s := spn_n_0 (d.map encR) (ps.map encI) f d.length (g.map encI) os.length (os.map encE) es.length (es.map encE) i ec ea eb o w j (y5 := Ud) (y8 := Ud) (y11 := Ud) (y14 := Ud) (y19 := Ud) (y20 := Ud) (by omega) (ixg (by omega)) (ldg (H := spX ps g os es (mkQ ec ea eb)) (g := g) rfl hg (by omega)) c (ixg (by omega)) (stg (H := spX ps g os es (mkQ ec ea eb)) (b := 1) (k := j) rfl hg (by omega) w)
      rw [wrap_succ (by omega)] at s
      obtain ⟨y14, r⟩ := ih (j + 1) (g.set j w) (by simpa using hg) (by omega)
      rw [rlb, if_pos c]
      exact ⟨y14, lop (s) (gc_eq _ rfl) (r)⟩
    · have s := spn_n_1 (d.map encR) (ps.map encI) f d.length (g.map encI) os.length (os.map encE) es.length (es.map encE) i ec ea eb o w j (y5 := Ud) (y8 := Ud) (y11 := Ud) (y14 := Ud) (y19 := Ud) (y20 := Ud) (by omega) (ixg (by omega)) (ldg (H := spX ps g os es (mkQ ec ea eb)) (g := g) rfl hg (by omega)) c
      rw [wrap_succ (by omega)] at s
      obtain ⟨y14, r⟩ := ih (j + 1) g hg (by omega)
      rw [rlb, if_neg c]
      exact ⟨y14, lop (s) (gc_eq _ rfl) (r)⟩
theorem gcX {ps g g2 : List Int} {os os2 es : List Ed} {e : Ed} {r : Nat} (hr : r ≤ 4) : gc (spH ps g os es).length r (spX ps g2 os2 es e) = spH ps g2 os2 es := by
  unfold gc
  have : max (spH ps g os es).length (max r (mxs (spX ps g2 os2 es e))) = 4 := by
    have h1 : mxs (spX ps g2 os2 es e) = 0 := by simp [mxs, Blk.mx, bE]
    rw [h1]; show max 4 (max r 0) = 4; omega
  rw [this]; rfl
theorem app_Em {H : Heap} {b : Nat} {o : List Ed} (hb : H[b]? = some (bE encE o)) (hl : o.length ≤ 1000) (e : Ed) :
    appV H 3 24 (.sl b 0 o.length none o.length 3) [encE e] = some (.sl b 0 (o.length + 1) none (o.length + 1) 3, H.set b (.arr 3 (o.map encE ++ [encE e]) true 0)) := by
  have := app_sl (H := H) (k := 3) (bytes := 24) (b := b) (n := o.length) (mx := 0) (els := o.map encE) (xs := [encE e]) hb (by simp) (by simp) (by simp only [roomMax, List.length_singleton]; omega) (encE_bnd [e])
  rw [this]; rfl
abbrev spO (d : List (List Int)) (ps : List Int) (f m q : Nat) (v33 : HV) : Env := (env61 (.imm .arg 1 (d.map encR)) (.int .i64 (f : Int)) (.agg (ps.map encI)) Ud (.imm .lit 3 []) (.sl 1 0 d.length (some d.length) d.length 1) Ud (.sl 2 0 m none m 3) Ud Ud Ud Ud Ud Ud (.sl 3 0 q none q 3) (.int .i64 (q : Int)) v33 Ud Ud)
theorem hgc {g2 : List Int} {es : List Ed} {e : Ed} (g : List Int) (os os2 : List Ed) (m i : Nat) : gc (spH ps g os es).length (bndE (spO d ps f m es.length (.int .i64 (i : Int)))) (spX ps g2 os2 es e) = spH ps g2 os2 es := gcX (by simp [bndE, bnd, bndL, ints_bnd])
theorem sp_out (hd : okD d) {es : List Ed} (he : EIn d.length es) (hq : es.length ≤ 500) : ∀ k i (os : List Ed) (g : List Int), i + k = es.length → g.length = d.length → os.length + k ≤ 500 →
    ∃ g' E, RT polSp 61 (sub [1, 1, 1, 1, 0, 1, 0] B61) (spO d ps f os.length es.length (.int .i64 (i : Int))) (spH ps g os es) (.exit 2) E (spH ps g' (os ++ krP (es.drop i) g) es) ∧
      ∃ y5 y8 y11 y12 y13 y14 y19 y20 y33 y55 y56, E = (env61 (.imm .arg 1 (d.map encR)) (.int .i64 (f : Int)) (.agg (ps.map encI)) y5 (.imm .lit 3 []) (.sl 1 0 d.length (some d.length) d.length 1) y8 (.sl 2 0 (os ++ krP (es.drop i) g).length none (os ++ krP (es.drop i) g).length 3) y11 y12 y13 y14 y19 y20 (.sl 3 0 es.length none es.length 3) (.int .i64 (es.length : Int)) y33 y55 y56) := by
  have hn := hd.1
  intro k
  induction k with
  | zero =>
    intro i os g hi hg ho
    have : i = es.length := by omega
    subst this
    rw [List.drop_length, krP, List.append_nil]
    have s := spn_g_1 (d.map encR) (ps.map encI) f d.length (g.map encI) os.length (os.map encE) es.length (es.map encE) es.length (y5 := Ud) (y8 := Ud) (y11 := Ud) (y12 := Ud) (y13 := Ud) (y14 := Ud) (y19 := Ud) (y20 := Ud) (y55 := Ud) (y56 := Ud) (by omega)
    have s2 := spn_hf_0 (d.map encR) (ps.map encI) f d.length (g.map encI) os.length (os.map encE) es.length (es.map encE) es.length (y5 := Ud) (y8 := Ud) (y11 := Ud) (y12 := Ud) (y13 := Ud) (y14 := Ud) (y19 := Ud) (y20 := Ud) (y55 := Ud) (y56 := Ud)
    exact ⟨g, _, lpo (sq (s) (sqo (s2) (c := sub [1, 1, 1, 1, 0, 1, 0, 0, 1] B61) (b := sub [1, 1, 1, 1, 0, 1, 0, 0, 1, 1] B61)) (c := sub [1, 1, 1, 1, 0, 1, 0, 0] B61)), _, _, _, _, _, _, _, _, _, _, _, rfl⟩
  | succ k ih =>
    intro i os g hi hg ho
    have hdrop : es.drop i = at_ es i :: es.drop (i + 1) := by
      rw [List.drop_eq_getElem_cons (by omega)]
      simp [at_, List.getD, List.getElem?_eq_getElem (show i < es.length by omega)]
    have hmem : at_ es i ∈ es := by
      have : at_ es i = es[i] := by simp [at_, List.getD, List.getElem?_eq_getElem (show i < es.length by omega)]
      rw [this]; exact List.getElem_mem _
    obtain ⟨ec, ea, eb, hae, ha, hb⟩ : ∃ (ec : Int) (ea eb : Nat), at_ es i = mkQ ec ea eb ∧ ea < d.length ∧ eb < d.length := by
      obtain ⟨⟨h1, h2⟩, h3, h4⟩ := he _ hmem
      refine ⟨(at_ es i).1, (at_ es i).2.1.toNat, (at_ es i).2.2.toNat, ?_, h2, h4⟩
      show at_ es i = ((at_ es i).1, _, _)
      rw [Int.toNat_of_nonneg h1, Int.toNat_of_nonneg h3]
    rw [hdrop, hae, krP]
    simp only [Int.toNat_natCast]
    have s := spn_g_0 (d.map encR) (ps.map encI) f d.length (g.map encI) os.length (os.map encE) es.length (es.map encE) i (y5 := Ud) (y8 := Ud) (y11 := Ud) (y12 := Ud) (y13 := Ud) (y14 := Ud) (y19 := Ud) (y20 := Ud) (y55 := Ud) (y56 := Ud) (by omega)
    have s2 := spn_ht_0 (d.map encR) (ps.map encI) f d.length (g.map encI) os.length (os.map encE) es.length (es.map encE) i (y5 := Ud) (y8 := Ud) (y11 := Ud) (y12 := Ud) (y13 := Ud) (y14 := Ud) (y19 := Ud) (y20 := Ud) (y55 := Ud) (y56 := Ud)
    have hl := lde (H := spH ps g os es) (b := 3) (k := i) (l := es) rfl rfl (by omega)
    rw [hae] at hl
    have s3 := spn_i_0 (d.map encR) (ps.map encI) f d.length (g.map encI) os.length (os.map encE) es.length (es.map encE) i ec ea eb (y5 := Ud) (y8 := Ud) (y11 := Ud) (y12 := Ud) (y13 := Ud) (y14 := Ud) (y19 := Ud) (y20 := Ud) (y55 := Ud) (y56 := Ud) (ixe (by omega)) hl
    have s4 := spn_j_0 (d.map encR) (ps.map encI) f d.length (g.map encI) os.length (os.map encE) es.length (es.map encE) i ec ea eb (y5 := Ud) (y8 := Ud) (y12 := Ud) (y13 := Ud) (y14 := Ud) (y19 := Ud) (y20 := Ud) (y55 := Ud) (y56 := Ud) (ixg ha) (ldg (H := spX ps g os es (mkQ ec ea eb)) (g := g) rfl hg ha) (ixg hb) (ldg (H := spX ps g os es (mkQ ec ea eb)) (g := g) rfl hg hb)
    by_cases c : g.getD ea 0 = g.getD eb 0
    · rw [if_pos c]
      have s5 := spn_k_0 (d.map encR) (ps.map encI) f d.length (g.map encI) os.length (os.map encE) es.length (es.map encE) i ec ea eb (g.getD ea 0) (g.getD eb 0) (y5 := Ud) (y8 := Ud) (y14 := Ud) (y19 := Ud) (y20 := Ud) (y55 := Ud) (y56 := Ud) c
      have s6 := spn_o_0 (d.map encR) (ps.map encI) f d.length (g.map encI) os.length (os.map encE) es.length (es.map encE) i ec ea eb (y5 := Ud) (y8 := Ud) (y14 := Ud) (y19 := Ud) (y20 := Ud) (y55 := Ud) (y56 := Ud) (y11 := .ptr 4 0 0 1) (y12 := .int .i64 (g.getD ea 0)) (y13 := .int .i64 (g.getD eb 0))
      rw [wrap_succ (by omega)] at s6
      have st := sq (s) (sq (s2) (sq (bke (c := sub [1, 1, 1, 1, 0, 1, 0, 0, 1, 1, 0] B61) (sq (s3) (sq (s4) (sqo (s5) (c := sub [1, 1, 1, 1, 0, 1, 0, 0, 1, 1, 0, 0, 1, 1] B61) (b := sub [1, 1, 1, 1, 0, 1, 0, 0, 1, 1, 0, 0, 1, 1, 1] B61)) (c := sub [1, 1, 1, 1, 0, 1, 0, 0, 1, 1, 0, 0, 1] B61)) (c := sub [1, 1, 1, 1, 0, 1, 0, 0, 1, 1, 0, 0] B61))) (s6) (c := sub [1, 1, 1, 1, 0, 1, 0, 0, 1, 1] B61)) (c := sub [1, 1, 1, 1, 0, 1, 0, 0, 1] B61)) (c := sub [1, 1, 1, 1, 0, 1, 0, 0] B61)
      obtain ⟨g', E, r, q⟩ := ih (i + 1) os g (by omega) hg (by omega)
      exact ⟨g', E, lop (st) (hgc (ps := ps) (d := d) (f := f) (es := es) (g2 := g) (e := mkQ ec ea eb) g os os os.length (i + 1)) (r), q⟩
    · rw [if_neg c]
      have s5 := spn_k_1 (d.map encR) (ps.map encI) f d.length (g.map encI) os.length (os.map encE) es.length (es.map encE) i ec ea eb (g.getD ea 0) (g.getD eb 0) (y5 := Ud) (y8 := Ud) (y14 := Ud) (y19 := Ud) (y20 := Ud) (y55 := Ud) (y56 := Ud) c
      have s7 := spn_l_0 (d.map encR) (ps.map encI) f d.length (g.map encI) os.length (os.map encE) es.length (es.map encE) i ec ea eb (g.getD ea 0) (g.getD eb 0) (y5 := Ud) (y8 := Ud) (y14 := Ud) (y19 := Ud) (y20 := Ud) (y55 := Ud) (y56 := Ud) (app_Em (H := spX ps g os es (mkQ ec ea eb)) (b := 2) (o := os) rfl (by omega) (mkQ ec ea eb))
      have hs : os.map encE ++ [HV.agg [.int .i64 ec, .int .i64 (ea : Int), .int .i64 (eb : Int)]] = (os ++ [mkQ ec ea eb]).map encE := by simp [encE]
      rw [hs] at s7
      have s8 := spn_m_0 (d.map encR) (ps.map encI) f d.length (g.map encI) (os.length + 1) ((os ++ [mkQ ec ea eb]).map encE) es.length (es.map encE) i ec ea eb (y5 := Ud) (y8 := Ud) (y14 := Ud) (y19 := Ud) (y20 := Ud) (y55 := Ud) (y56 := Ud) (y12 := .int .i64 (g.getD ea 0)) (y13 := .int .i64 (g.getD eb 0))
      obtain ⟨y14, r0⟩ := sp_in (ps := ps) (f := f) hd (i := i) (ea := ea) (eb := eb) (ec := ec) (o := g.getD ea 0) (w := g.getD eb 0) (os := os ++ [mkQ ec ea eb]) (es := es) d.length 0 g hg (by omega)
      rw [show (os ++ [mkQ ec ea eb]).length = os.length + 1 by simp, ← hg] at r0
      have r0' := lpi (e0 := (env61 (.imm .arg 1 (d.map encR)) (.int .i64 (f : Int)) (.agg (ps.map encI)) Ud (.imm .lit 3 []) (.sl 1 0 g.length (some g.length) g.length 1) Ud (.sl 2 0 (os.length + 1) none (os.length + 1) 3) (.ptr 4 0 0 1) (.int .i64 (g.getD ea 0)) (.int .i64 (g.getD eb 0)) Ud Ud Ud (.sl 3 0 es.length none es.length 3) (.int .i64 (es.length : Int)) (.int .i64 (i : Int)) (.int .i64 (g.length : Int)) (.int .i64 0))) r0 (b := sub [1, 1, 1, 1, 0, 1, 0, 0, 1, 1, 0, 0, 1, 1, 1, 1, 1, 0, 0] B61)
      rw [hg] at r0'
      have hg2 : (rlb (g.getD ea 0) (g.getD eb 0) d.length 0 g).length = d.length := by rw [rlb_len, hg]
      have s6 := spn_o_0 (d.map encR) (ps.map encI) f d.length ((rlb (g.getD ea 0) (g.getD eb 0) d.length 0 g).map encI) (os.length + 1) ((os ++ [mkQ ec ea eb]).map encE) es.length (es.map encE) i ec ea eb (y5 := Ud) (y8 := Ud) (y11 := Ud) (y19 := Ud) (y20 := Ud) (y14 := y14) (y12 := .int .i64 (g.getD ea 0)) (y13 := .int .i64 (g.getD eb 0)) (y55 := .int .i64 (d.length : Int)) (y56 := .int .i64 (d.length : Int))
      rw [wrap_succ (by omega)] at s6
      have st := sq (s) (sq (s2) (sq (RunsTo.block_normal (i := 3) (c := sub [1, 1, 1, 1, 0, 1, 0, 0, 1, 1, 0] B61) (sq (s3) (sq (s4) (sq (s5) (sq (s7) (sq (s8) (bke (c := sub [1, 1, 1, 1, 0, 1, 0, 0, 1, 1, 0, 0, 1, 1, 1, 1, 1] B61) (r0')) (c := sub [1, 1, 1, 1, 0, 1, 0, 0, 1, 1, 0, 0, 1, 1, 1, 1] B61)) (c := sub [1, 1, 1, 1, 0, 1, 0, 0, 1, 1, 0, 0, 1, 1, 1] B61)) (c := sub [1, 1, 1, 1, 0, 1, 0, 0, 1, 1, 0, 0, 1, 1] B61)) (c := sub [1, 1, 1, 1, 0, 1, 0, 0, 1, 1, 0, 0, 1] B61)) (c := sub [1, 1, 1, 1, 0, 1, 0, 0, 1, 1, 0, 0] B61)) (by kernel_rfl)) (s6) (c := sub [1, 1, 1, 1, 0, 1, 0, 0, 1, 1] B61)) (c := sub [1, 1, 1, 1, 0, 1, 0, 0, 1] B61)) (c := sub [1, 1, 1, 1, 0, 1, 0, 0] B61)
      obtain ⟨g', E, r, q⟩ := ih (i + 1) (os ++ [mkQ ec ea eb]) _ (by omega) hg2 (by simp; omega)
      rw [List.append_assoc] at r q
      rw [hg]
      rw [show (os ++ [mkQ ec ea eb]).length = os.length + 1 by simp] at r
      exact ⟨g', E, lop (st) (hgc (ps := ps) (d := d) (f := f) (es := es) (g2 := rlb (g.getD ea 0) (g.getD eb 0) d.length 0 g) (e := mkQ ec ea eb) g os (os ++ [mkQ ec ea eb]) (os.length + 1) (i + 1)) (r), q⟩
theorem spn_init (hd : okD d) : ∀ k i (g : List Int), i + k = d.length → g.length = d.length → (∀ x, x < i → g.getD x 0 = (x : Int)) →
    ∃ y8, RT polSp 61 (sub [1, 1, 0, 1, 0] B61) (env61 (.imm .arg 1 (d.map encR)) (.int .i64 (f : Int)) (.agg (ps.map encI)) (.ptr 0 0 0 1) (.imm .lit 3 []) (.sl 1 0 d.length (some d.length) d.length 1) Ud Ud Ud Ud Ud Ud (.int .i64 (d.length : Int)) (.int .i64 (i : Int)) Ud Ud Ud Ud Ud) [pB ps, bI g] (.exit 0)
      (env61 (.imm .arg 1 (d.map encR)) (.int .i64 (f : Int)) (.agg (ps.map encI)) (.ptr 0 0 0 1) (.imm .lit 3 []) (.sl 1 0 d.length (some d.length) d.length 1) y8 Ud Ud Ud Ud Ud (.int .i64 (d.length : Int)) (.int .i64 (d.length : Int)) Ud Ud Ud Ud Ud) [pB ps, bI (iota d.length)] := by
  have hn := hd.1
  intro k
  induction k with
  | zero =>
    intro i g hi hg hx
    have : i = d.length := by omega
    subst this
    have e : g = iota d.length := by
      apply List.ext_getElem?
      intro x
      by_cases hxl : x < d.length
      · have h1 := hx x hxl
        have h2 := iota_at hxl
        rw [List.getElem?_eq_getElem (by omega), List.getElem?_eq_getElem (by rw [iota_len]; exact hxl)]
        simp only [List.getD, List.getElem?_eq_getElem (show x < g.length by omega), Option.getD_some] at h1
        simp only [List.getD, List.getElem?_eq_getElem (show x < (iota d.length).length by rw [iota_len]; exact hxl), Option.getD_some] at h2
        rw [h1, h2]
      · rw [List.getElem?_eq_none (by omega), List.getElem?_eq_none (by rw [iota_len]; omega)]
    rw [e]
    exact ⟨_, lpo (spn_d_1 (d.map encR) (ps.map encI) f d.length ((iota d.length).map encI) d.length (by omega))⟩
  | succ k ih =>
    intro i g hi hg hx
    have s := spn_d_0 (d.map encR) (ps.map encI) f d.length (g.map encI) i (y8 := Ud) (y9 := Ud) (y11 := Ud) (y12 := Ud) (y13 := Ud) (y14 := Ud) (y31 := Ud) (y32 := Ud) (y33 := Ud) (y55 := Ud) (y56 := Ud) (by omega) (ixg (by omega)) (stg (H := [pB ps, bI g]) (b := 1) (k := i) rfl hg (by omega) (i : Int))
    rw [wrap_succ (by omega)] at s
    obtain ⟨y8, r⟩ := ih (i + 1) (g.set i (i : Int)) (by omega) (by simpa using hg) (fun x hx2 => by
      rw [getDs _ _ _ _ (by omega)]
      split
      · rename_i e; rw [e]
      · exact hx x (by omega))
    exact ⟨y8, lop (s) (gc_eq _ rfl) (r)⟩
end
theorem toRes_E {H : Heap} {b : Nat} {l : List Ed} (hb : H[b]? = some (bE encE l)) : toRes H false (.sl b 0 l.length none l.length 3) = some (.own 3 (l.map encE)) := by
  have hr := resCell_sl (H := H) (no := [b]) (b := b) (k := 3) (m := l.length) (cap := none) (els := l.map encE) hb (by simp) (mapO_self (fun e => frz_E (n := 3) e) _)
  have ho : ownedAll H false (.sl b 0 l.length none l.length 3) = [b] := by simp [ownedAll, cellsOf, owned, hb, bE]
  simp only [toRes, ho, List.nodup_cons, List.not_mem_nil, not_false_eq_true, List.nodup_nil, and_self, if_true, resVal, hr]
theorem encE_any (l : List Ed) : (l.map encE).any isOwn = false := by
  rw [List.any_eq_false]
  intro v hv
  obtain ⟨k, _, rfl⟩ := List.mem_map.1 hv
  simp [encE, isOwn]
theorem recv_E (l : List Ed) (H : Heap) : recv (.own 3 (l.map encE)) H = (.sl H.length 0 l.length none l.length 3, H ++ [bE encE l]) := by
  simp only [recv, recvVal, recvCell, encE_any, List.length_map]
  rfl
theorem arg_agg (H : Heap) (ps : List Int) : toArg H 6 (.agg (ps.map encI)) = some (.agg (ps.map encI)) := by
  show (match mapO (toArg H 5) (ps.map encI) with | some l => some (HV.agg l) | none => none) = _
  have hm : mapO (toArg H 5) (ps.map encI) = some (ps.map encI) := mapO_self (f := toArg H 5) (g := encI) (fun _ => rfl) ps
  rw [hm]
theorem q70 {pol' : Pol} (hp : pol'.prim 70 = some edges70) {d : List (List Int)} {ps : List Int} {f : Nat} {v : HV} (hd : okD d) (hf : f ≤ d.length) (hs : Small ps) (H : Heap) (hv : toArg H 6 v = some (.imm .arg 1 (d.map encR))) :
    ∀ kf, callN Tp pol' (kf + 1) 70 [v, .int .i64 (f : Int), .agg (ps.map encI)] H = some (.sl H.length 0 (edg d ps f).length none (edg d ps f).length 3, H ++ [bE encE (edg d ps f)]) := fun kf => by
  rw [prim_call (pol := pol') (g := 70) (F := edges70) hp (rs := [.imm .arg 1 (d.map encR), .int .i64 (f : Int), .agg (ps.map encI)]) (by simp only [mapO, hv, arg_agg]; rfl) (res := .own 3 ((edg d ps f).map encE)) (by simp only [edges70, mpF, mapO_map decR_enc, mapO_map decI_enc]; rw [if_pos ⟨hd, by omega, hs⟩, Int.toNat_natCast]), recv_E]
theorem pl_all {H : Heap} {ps : List Int} {b : Nat} (hb : H[b]? = some (pB ps)) (hp : ps.length = 11) : loadV Tp H 66 (.ptr b 0 0 1) = some (.agg (ps.map encI)) :=
  load_agg (b := b) hb rfl rfl (by kernel_rfl) (by rw [show tySize Tp 66 = some 11 by kernel_rfl]; simp [hp])
theorem spanning_ok : PrimOk Tp 61 spanning61 := by
  refine primOk_pure (pol := polSp) (fn := Try.f61) (cd := B61) follows_mixed soundSp (by kernel_rfl) (by kernel_rfl) (fnok polSp.prim _ _ (by kernel_rfl)) (by kernel_rfl) ?_
  intro args res h
  obtain ⟨d, a0, ps, rfl, hq⟩ := mpF_inv h
  clear h
  split at hq
  · rename_i hc
    obtain ⟨hd, ha, hp⟩ := hc
    cases hq
    have hn := hd.1
    obtain ⟨f, rfl⟩ : ∃ x : Nat, a0 = (x : Int) := ⟨a0.toNat, by omega⟩
    rw [Int.toNat_natCast]
    have s0 := spn_a_0 (d.map encR) (ps.map encI) f (box_p hp.1)
    have mk := makeV_ok (P := Tp) (H := [pB ps]) (t := 23) (e := 3) (k := 1) (bt := 8) (zv := .int .i64 0) (n := (d.length : Int)) u23 (by kernel_rfl) (by simp [cellsOf, cellV]) (by simp [cellsOf]) (by omega) (by omega) (by simp only [roomMax]; omega)
    rw [Int.toNat_natCast] at mk
    have hrep : List.replicate d.length (HV.int .i64 0) = (List.replicate d.length (0 : Int)).map encI := by simp [encI]
    rw [hrep] at mk
    have s1 := spn_b_0 (d.map encR) (ps.map encI) f (y7 := Ud) (y8 := Ud) (y9 := Ud) (y11 := Ud) (y12 := Ud) (y13 := Ud) (y14 := Ud) (y19 := Ud) (y20 := Ud) (y31 := Ud) (y32 := Ud) (y33 := Ud) (y55 := Ud) (y56 := Ud) (by rw [List.length_map, hrep]; exact mk)
    rw [List.length_map, hrep] at s1
    have s2 := spn_c_0 (d.map encR) (ps.map encI) f d.length ((List.replicate d.length (0 : Int)).map encI) (y8 := Ud) (y9 := Ud) (y11 := Ud) (y12 := Ud) (y13 := Ud) (y14 := Ud) (y19 := Ud) (y20 := Ud) (y31 := Ud) (y32 := Ud) (y33 := Ud) (y55 := Ud) (y56 := Ud)
    obtain ⟨y8, r1⟩ := spn_init (ps := ps) (f := f) hd d.length 0 (List.replicate d.length 0) (by omega) (by simp) (fun x hx => by omega)
    have s3 := spn_e_0 (d.map encR) (ps.map encI) f d.length ((iota d.length).map encI) (y9 := Ud) (y11 := Ud) (y12 := Ud) (y13 := Ud) (y14 := Ud) (y31 := Ud) (y32 := Ud) (y33 := Ud) (y55 := Ud) (y56 := Ud) (y8 := y8) (y19 := .int .i64 (d.length : Int)) (y20 := .int .i64 (d.length : Int))
    have s4 := spn_f_0 (d.map encR) (ps.map encI) f d.length ((iota d.length).map encI) 0 [] (y11 := Ud) (y12 := Ud) (y13 := Ud) (y14 := Ud) (y31 := Ud) (y32 := Ud) (y33 := Ud) (y55 := Ud) (y56 := Ud) (y8 := y8) (y19 := .int .i64 (d.length : Int)) (y20 := .int .i64 (d.length : Int)) (pl_all (b := 0) rfl hp.1) (q70 (pol' := polSp) (by kernel_rfl) hd (by omega) hp _ (arg_rw _ d))
    have hel := edg_len (ps := ps) (f := f) hd (by omega)
    obtain ⟨g', E, r2, y5, y8', y11, y12, y13, y14, y19, y20, y33, y55, y56, rfl⟩ := sp_out (ps := ps) (f := f) hd (edg_in (ps := ps) (f := f) (by omega)) (by omega) (edg d ps f).length 0 [] (iota d.length) (by omega) (iota_len _) (by simp; omega)
    rw [List.drop_zero, List.nil_append] at r2
    have et : krP (edg d ps f) (iota d.length) = treeL d ps f := rfl
    rw [et] at r2
    have r2' := lpi (e0 := (env61 (.imm .arg 1 (d.map encR)) (.int .i64 (f : Int)) (.agg (ps.map encI)) (.ptr 0 0 0 1) (.imm .lit 3 []) (.sl 1 0 d.length (some d.length) d.length 1) y8 (.sl 2 0 0 none 0 3) Ud Ud Ud Ud (.int .i64 (d.length : Int)) (.int .i64 (d.length : Int)) (.sl 3 0 (edg d ps f).length none (edg d ps f).length 3) (.int .i64 ((edg d ps f).length : Int)) (.int .i64 0) Ud Ud)) r2 (b := sub [1, 1, 1, 1, 0, 1, 0, 0] B61)
    have z := spn_p_0 (d.map encR) (ps.map encI) f d.length (g'.map encI) (treeL d ps f).length ((treeL d ps f).map encE) (edg d ps f).length ((edg d ps f).map encE) (y7 := .sl 1 0 d.length (some d.length) d.length 1) (y8 := y8') (y11 := y11) (y12 := y12) (y13 := y13) (y14 := y14) (y19 := y19) (y20 := y20) (y31 := .sl 3 0 (edg d ps f).length none (edg d ps f).length 3) (y32 := .int .i64 ((edg d ps f).length : Int)) (y33 := y33) (y55 := y55) (y56 := y56) (y5 := y5)
    have t := sq (s0) (sq (s1) (sq (sq (s2) (bke (c := sub [1, 1, 0, 1] B61) (r1)) (c := sub [1, 1, 0] B61)) (sq (s3) (sq (sq (s4) (bke (c := sub [1, 1, 1, 1, 0, 1] B61) (r2')) (c := sub [1, 1, 1, 1, 0] B61)) (z) (c := sub [1, 1, 1, 1] B61)) (c := sub [1, 1, 1] B61)) (c := sub [1, 1] B61)) (c := sub [1] B61)) (c := B61)
    exact ⟨_, _, _, .sl 2 0 (treeL d ps f).length none (treeL d ps f).length 3, t, by simp, by simp only [resultsV, res61]; rfl, toRes_E rfl⟩
  · cases hq
end Go.Proofs.Ytlendaofkmhgmaa
end
section
open Go Go.HL Go.HL.So
namespace Go.Proofs.Ytlendaofkmhgmaa
open Go.Proofs.Try renaming prog → Tp
open Go.HL.HV renaming undef → Ud
def two2 : Nat → List Ed → List Ed
  | _, [] => []
  | w, e :: l => if e.2.1 = 0 ∧ w < 2 then e :: two2 (w + 1) l else two2 w l
def chosen (d : List (List Int)) (ps : List Int) : List Ed := treeL d ps 1 ++ two2 0 (edg d ps 0)
def dstep (t : List Int) (e : Ed) : List Int := (t.set e.2.1.toNat (t.getD e.2.1.toNat 0 + 1)).set e.2.2.toNat ((t.set e.2.1.toNat (t.getD e.2.1.toNat 0 + 1)).getD e.2.2.toNat 0 + 1)
def degs (l : List Ed) : List Int := l.foldl dstep (List.replicate 11 0)
def sumA (l : List Ed) (s : Int) : Int := l.foldl (fun s e => s + e.1) s
def sumP (ps : List Int) (s : Int) : Int := ps.foldl (fun s n => s - 2 * n) s
def boundS (d : List (List Int)) (ps : List Int) : Int := sumP ps (sumA (chosen d ps) 0)
theorem two2_full : ∀ (l : List Ed) (w : Nat), 2 ≤ w → two2 w l = []
  | [], _, _ => rfl
  | e :: l, w, h => by rw [two2, if_neg (by omega), two2_full l w h]
theorem two2_mem {e : Ed} : ∀ (l : List Ed) (w : Nat), e ∈ two2 w l → e ∈ l
  | [], _, h => by cases h
  | x :: l, w, h => by
    rw [two2] at h
    split at h
    · rcases List.mem_cons.1 h with rfl | h
      · simp
      · exact List.mem_cons_of_mem _ (two2_mem l _ h)
    · exact List.mem_cons_of_mem _ (two2_mem l _ h)
theorem two2_len : ∀ (l : List Ed) (w : Nat), (two2 w l).length + w ≤ max w 2
  | [], w => by simp [two2]; omega
  | e :: l, w => by
    rw [two2]
    split
    · have := two2_len l (w + 1); rw [List.length_cons]; omega
    · exact two2_len l w
theorem chosen_in {d : List (List Int)} {ps : List Int} (hd : okD d) : EIn d.length (chosen d ps) := fun e he => by
  have hn := hd.1
  rcases List.mem_append.1 he with h | h
  · exact edg_in (f := 1) (by omega) e (krP_mem _ _ h)
  · exact edg_in (f := 0) (by omega) e (two2_mem _ _ h)
theorem chosen_len {d : List (List Int)} {ps : List Int} (hd : okD d) : (chosen d ps).length ≤ 123 := by
  have hn := hd.1
  unfold chosen
  rw [List.length_append]
  have h1 := edg_len (ps := ps) (f := 1) hd (by omega)
  have h2 := krP_len (edg d ps 1) (iota d.length)
  have h3 := two2_len (edg d ps 0) 0
  unfold treeL
  omega
def costOk (l : List Ed) : Prop := ∀ e ∈ l, -3000000000 ≤ e.1 ∧ e.1 ≤ 3000000000
theorem edg_cost {d : List (List Int)} {ps : List Int} {f : Nat} (hd : okD d) (hp : Small ps) (hf : f ≤ d.length) : costOk (edg d ps f) := fun e he => by
  have hn := hd.1
  obtain ⟨x, y, h, rfl⟩ := ((edg_ok (d := d) (p := ps) hf).2 e).1 he
  have b1 := hd.at (i := x) (j := y) (by omega) (by omega)
  have b2 := hp.at (i := x) (by omega)
  have b3 := hp.at (i := y) (by omega)
  simp only [mkE, cst]
  omega
theorem chosen_cost {d : List (List Int)} {ps : List Int} (hd : okD d) (hp : Small ps) : costOk (chosen d ps) := fun e he => by
  have hn := hd.1
  rcases List.mem_append.1 he with h | h
  · exact edg_cost (f := 1) hd hp (by omega) e (krP_mem _ _ h)
  · exact edg_cost (f := 0) hd hp (by omega) e (two2_mem _ _ h)
def CtB (t : List Int) (k : Nat) : Prop := t.length = 11 ∧ ∀ x, x < 11 → 0 ≤ t.getD x 0 ∧ t.getD x 0 ≤ 2 * (k : Int)
theorem CtB.step {t : List Int} {k : Nat} (h : CtB t k) {e : Ed} (ha : e.2.1.toNat < 11) (hb : e.2.2.toNat < 11) : CtB (dstep t e) (k + 1) := by
  obtain ⟨h1, h2⟩ := h
  refine ⟨by simp [dstep, h1], fun x hx => ?_⟩
  unfold dstep
  rw [getDs _ _ _ _ (by simp [h1, hb]), getDs _ _ _ _ (by rw [h1]; exact ha), getDs _ _ _ _ (by rw [h1]; exact ha)]
  have q1 := h2 x hx
  have q2 := h2 _ ha
  have q3 := h2 _ hb
  split
  · split <;> omega
  · split <;> omega
theorem CtB.zero : CtB (List.replicate 11 0) 0 := ⟨rfl, fun x hx => by
  have : (List.replicate 11 (0 : Int)).getD x 0 = 0 := by rw [List.getD, List.getElem?_replicate, if_pos hx]; rfl
  rw [this]; omega⟩
open Classical in
noncomputable def bound50 : List HV → Option HV
  | [.imm .arg 1 rw, .agg pv] => (match mapO decR rw, mapO decI pv with | some R, some ps => if okD R ∧ Small ps then some (.tuple [.int .i64 (boundS R ps), .agg ((degs (chosen R ps)).map encI)]) else none | _, _ => none)
  | _ => none
noncomputable def polBo : Pol := { pol with prim := fun g => if g == 70 then some edges70 else if g == 61 then some spanning61 else none }
theorem soundBo (n : Nat) : CallSound Tp (callN Tp polBo n) := sound_prim _ (fun g f h => by
  split at h
  · rename_i hg; cases h; rw [eq_of_beq hg]; exact edges_ok
  split at h
  · rename_i hg; cases h; rw [eq_of_beq hg]; exact spanning_ok
  · cases h) n
theorem q61 {pol' : Pol} (hp : pol'.prim 61 = some spanning61) {d : List (List Int)} {ps : List Int} {f : Nat} {v : HV} (hd : okD d) (hf : f ≤ d.length) (hs : Small ps) (H : Heap) (hv : toArg H 6 v = some (.imm .arg 1 (d.map encR))) :
    ∀ kf, callN Tp pol' (kf + 1) 61 [v, .int .i64 (f : Int), .agg (ps.map encI)] H = some (.sl H.length 0 (treeL d ps f).length none (treeL d ps f).length 3, H ++ [bE encE (treeL d ps f)]) := fun kf => by
  rw [prim_call (pol := pol') (g := 61) (F := spanning61) hp (rs := [.imm .arg 1 (d.map encR), .int .i64 (f : Int), .agg (ps.map encI)]) (by simp only [mapO, hv, arg_agg]; rfl) (res := .own 3 ((treeL d ps f).map encE)) (by simp only [spanning61, mpF, mapO_map decR_enc, mapO_map decI_enc]; rw [if_pos ⟨hd, by omega, hs⟩, Int.toNat_natCast]), recv_E]
end Go.Proofs.Ytlendaofkmhgmaa
end
section
open Go Go.HL
namespace Go.Proofs.Ytlendaofkmhgmaa
set_option maxRecDepth 100000
open Go.Proofs.Try renaming prog → Tp
open Go.HL.HV renaming undef → Ud
noncomputable def B50 : Code := Try.f50.body.getD .skip
abbrev env50 (v0 v1 v3 v4 v5 v6 v7 v9 v10 v11 v13 v15 v21 v22 v23 v41 v42 v43 v64 v65 : HV) : Env := [(0, v0), (1, v1), (3, v3), (4, v4), (5, v5), (6, v6), (7, v7), (9, v9), (10, v10), (11, v11), (13, v13), (15, v15), (21, v21), (22, v22), (23, v23), (41, v41), (42, v42), (43, v43), (64, v64), (65, v65)]
theorem bo_a_0 (rw ps : List HV) (g0 : (if (cellsOf (.agg ps)).all cellV then some (newV (.agg ps) []) else none) = some (.ptr 0 0 0 1, [.arr 11 [.agg ps] true 0])) : RT polBo 50 (sub [0] B50) [(0, .imm .arg 1 rw), (1, .agg ps)] [] .normal (env50 (.imm .arg 1 rw) (.agg ps) (.ptr 0 0 0 1) (.i 0) (.ptr 1 0 0 1) Ud Ud Ud Ud Ud Ud Ud Ud Ud Ud Ud Ud Ud Ud Ud) [.arr 11 [.agg ps] true 0, .arr 11 [.agg [.i 0, .i 0, .i 0, .i 0, .i 0, .i 0, .i 0, .i 0, .i 0, .i 0, .i 0]] true 0] :=
  RunsTo.hin 0 60 [⟨0, 0, .ptr 0 0 0 1, [.arr 11 [.agg ps] true 0]⟩] fun kf hk => ⟨_, by kernel_rfl, (oC (g0) .nil)⟩
theorem bo_b_0 (rw ps : List HV)  {y6 y7 y9 y10 y11 y13 y15 y21 y22 y23 y41 y42 y43 y64 y65 : HV} {m : Nat} {cs : List HV} (g0 : loadV Tp [.arr 11 [.agg ps] true 0, .arr 11 [.agg [.i 0, .i 0, .i 0, .i 0, .i 0, .i 0, .i 0, .i 0, .i 0, .i 0, .i 0]] true 0] 66 (.ptr 0 0 0 1) = some (.agg ps)) (g1 : ∀ kf, callN Tp polBo (kf + 1) 61 [.imm .arg 1 rw, .i 1, .agg ps] [.arr 11 [.agg ps] true 0, .arr 11 [.agg [.i 0, .i 0, .i 0, .i 0, .i 0, .i 0, .i 0, .i 0, .i 0, .i 0, .i 0]] true 0] = some (.sl 2 0 m none m 3, [.arr 11 [.agg ps] true 0, .arr 11 [.agg [.i 0, .i 0, .i 0, .i 0, .i 0, .i 0, .i 0, .i 0, .i 0, .i 0, .i 0]] true 0, .arr 3 cs true 0])) : RT polBo 50 (sub [1, 0] B50) (env50 (.imm .arg 1 rw) (.agg ps) (.ptr 0 0 0 1) (.i 0) (.ptr 1 0 0 1) y6 y7 y9 y10 y11 y13 y15 y21 y22 y23 y41 y42 y43 y64 y65) [.arr 11 [.agg ps] true 0, .arr 11 [.agg [.i 0, .i 0, .i 0, .i 0, .i 0, .i 0, .i 0, .i 0, .i 0, .i 0, .i 0]] true 0] .normal (env50 (.imm .arg 1 rw) (.agg ps) (.ptr 0 0 0 1) (.i 0) (.ptr 1 0 0 1) (.sl 2 0 m none m 3) y7 y9 y10 y11 y13 y15 y21 y22 y23 y41 y42 y43 y64 y65) [.arr 11 [.agg ps] true 0, .arr 11 [.agg [.i 0, .i 0, .i 0, .i 0, .i 0, .i 0, .i 0, .i 0, .i 0, .i 0, .i 0]] true 0, .arr 3 cs true 0] :=
  RunsTo.hin 0 60 [⟨1, 1, .agg ps, [.arr 11 [.agg ps] true 0, .arr 11 [.agg [.i 0, .i 0, .i 0, .i 0, .i 0, .i 0, .i 0, .i 0, .i 0, .i 0, .i 0]] true 0]⟩, ⟨1, 2, .sl 2 0 m none m 3, [.arr 11 [.agg ps] true 0, .arr 11 [.agg [.i 0, .i 0, .i 0, .i 0, .i 0, .i 0, .i 0, .i 0, .i 0, .i 0, .i 0]] true 0, .arr 3 cs true 0]⟩] fun kf hk => ⟨_, by kernel_rfl, (oP [.arr 11 [.agg ps] true 0, .arr 11 [.agg [.i 0, .i 0, .i 0, .i 0, .i 0, .i 0, .i 0, .i 0, .i 0, .i 0, .i 0]] true 0] g0 (oC (g1 kf) .nil))⟩
theorem bo_c_0 (rw ps : List HV) (m : Nat) (cs : List HV) {y7 y9 y10 y11 y13 y15 y21 y22 y23 y41 y42 y43 y64 y65 : HV} : RT polBo 50 (sub [1, 1, 0] B50) (env50 (.imm .arg 1 rw) (.agg ps) (.ptr 0 0 0 1) (.i 0) (.ptr 1 0 0 1) (.sl 2 0 m none m 3) y7 y9 y10 y11 y13 y15 y21 y22 y23 y41 y42 y43 y64 y65) [.arr 11 [.agg ps] true 0, .arr 11 [.agg [.i 0, .i 0, .i 0, .i 0, .i 0, .i 0, .i 0, .i 0, .i 0, .i 0, .i 0]] true 0, .arr 3 cs true 0] .normal (env50 (.imm .arg 1 rw) (.agg ps) (.ptr 0 0 0 1) (.i 0) (.ptr 1 0 0 1) (.sl 2 0 m none m 3) (.i 0) y9 y10 y11 y13 y15 y21 y22 y23 y41 y42 y43 y64 y65) [.arr 11 [.agg ps] true 0, .arr 11 [.agg [.i 0, .i 0, .i 0, .i 0, .i 0, .i 0, .i 0, .i 0, .i 0, .i 0, .i 0]] true 0, .arr 3 cs true 0] :=
  RunsTo.hin 0 60 [] fun kf hk => ⟨_, by kernel_rfl, .nil⟩
theorem bo_d_0 (rw ps : List HV) (m : Nat) (cs : List HV) {y9 y10 y11 y13 y15 y21 y22 y23 y41 y42 y43 y64 y65 : HV} {q : Nat} {es : List HV} (g0 : loadV Tp [.arr 11 [.agg ps] true 0, .arr 11 [.agg [.i 0, .i 0, .i 0, .i 0, .i 0, .i 0, .i 0, .i 0, .i 0, .i 0, .i 0]] true 0, .arr 3 cs true 0] 66 (.ptr 0 0 0 1) = some (.agg ps)) (g1 : ∀ kf, callN Tp polBo (kf + 1) 70 [.imm .arg 1 rw, .i 0, .agg ps] [.arr 11 [.agg ps] true 0, .arr 11 [.agg [.i 0, .i 0, .i 0, .i 0, .i 0, .i 0, .i 0, .i 0, .i 0, .i 0, .i 0]] true 0, .arr 3 cs true 0] = some (.sl 3 0 q none q 3, [.arr 11 [.agg ps] true 0, .arr 11 [.agg [.i 0, .i 0, .i 0, .i 0, .i 0, .i 0, .i 0, .i 0, .i 0, .i 0, .i 0]] true 0, .arr 3 cs true 0, .arr 3 es true 0])) : RT polBo 50 (sub [1, 1, 1, 0, 0] B50) (env50 (.imm .arg 1 rw) (.agg ps) (.ptr 0 0 0 1) (.i 0) (.ptr 1 0 0 1) (.sl 2 0 m none m 3) (.i 0) y9 y10 y11 y13 y15 y21 y22 y23 y41 y42 y43 y64 y65) [.arr 11 [.agg ps] true 0, .arr 11 [.agg [.i 0, .i 0, .i 0, .i 0, .i 0, .i 0, .i 0, .i 0, .i 0, .i 0, .i 0]] true 0, .arr 3 cs true 0] .normal (env50 (.imm .arg 1 rw) (.agg ps) (.ptr 0 0 0 1) (.i 0) (.ptr 1 0 0 1) (.sl 2 0 m none m 3) (.i 0) y9 y10 y11 y13 y15 (.sl 3 0 q none q 3) (.i (q : Int)) (.i 0) y41 y42 y43 y64 y65) [.arr 11 [.agg ps] true 0, .arr 11 [.agg [.i 0, .i 0, .i 0, .i 0, .i 0, .i 0, .i 0, .i 0, .i 0, .i 0, .i 0]] true 0, .arr 3 cs true 0, .arr 3 es true 0] :=
  RunsTo.hin 0 60 [⟨3, 1, .agg ps, [.arr 11 [.agg ps] true 0, .arr 11 [.agg [.i 0, .i 0, .i 0, .i 0, .i 0, .i 0, .i 0, .i 0, .i 0, .i 0, .i 0]] true 0, .arr 3 cs true 0]⟩, ⟨3, 2, .sl 3 0 q none q 3, [.arr 11 [.agg ps] true 0, .arr 11 [.agg [.i 0, .i 0, .i 0, .i 0, .i 0, .i 0, .i 0, .i 0, .i 0, .i 0, .i 0]] true 0, .arr 3 cs true 0, .arr 3 es true 0]⟩] fun kf hk => ⟨_, by kernel_rfl, (oP [.arr 11 [.agg ps] true 0, .arr 11 [.agg [.i 0, .i 0, .i 0, .i 0, .i 0, .i 0, .i 0, .i 0, .i 0, .i 0, .i 0]] true 0, .arr 3 cs true 0] g0 (oC (g1 kf) .nil))⟩
theorem bo_e_0 (rw ps : List HV) (m : Nat) (cs : List HV) (q : Nat) (es : List HV) (w i : Nat) (ec : Int) (ea eb : Nat) {y9 y10 y11 y13 y15 y41 y42 y43 y64 y65 : HV}(g0 : (i : Int) < (q : Int)) (g1 : idxV Tp 88 (.sl 3 0 q none q 3) (.i (i : Int)) = some (.ptr 3 i 0 q)) (g2 : loadV Tp [.arr 11 [.agg ps] true 0, .arr 11 [.agg [.i 0, .i 0, .i 0, .i 0, .i 0, .i 0, .i 0, .i 0, .i 0, .i 0, .i 0]] true 0, .arr 3 cs true 0, .arr 3 es true 0] 91 (.ptr 3 i 0 q) = some (.agg [.i ec, .i (ea : Int), .i (eb : Int)])) (g3 : (ea : Int) = 0) (g4 : (w : Int) < 2) (g5 : appV [.arr 11 [.agg ps] true 0, .arr 11 [.agg [.i 0, .i 0, .i 0, .i 0, .i 0, .i 0, .i 0, .i 0, .i 0, .i 0, .i 0]] true 0, .arr 3 cs true 0, .arr 3 es true 0, .arr 3 [.agg [.i ec, .i (ea : Int), .i (eb : Int)]] true 0] 3 24 (.sl 2 0 m none m 3) [.agg [.i ec, .i (ea : Int), .i (eb : Int)]] = some (.sl 2 0 (m + 1) none (m + 1) 3, [.arr 11 [.agg ps] true 0, .arr 11 [.agg [.i 0, .i 0, .i 0, .i 0, .i 0, .i 0, .i 0, .i 0, .i 0, .i 0, .i 0]] true 0, .arr 3 (cs ++ [.agg [.i ec, .i (ea : Int), .i (eb : Int)]]) true 0, .arr 3 es true 0, .arr 3 [.agg [.i ec, .i (ea : Int), .i (eb : Int)]] true 0])) : RT polBo 50 (sub [1, 1, 1, 0, 1, 0, 0] B50) (env50 (.imm .arg 1 rw) (.agg ps) (.ptr 0 0 0 1) (.i 0) (.ptr 1 0 0 1) (.sl 2 0 m none m 3) (.i (w : Int)) y9 y10 y11 y13 y15 (.sl 3 0 q none q 3) (.i (q : Int)) (.i (i : Int)) y41 y42 y43 y64 y65) [.arr 11 [.agg ps] true 0, .arr 11 [.agg [.i 0, .i 0, .i 0, .i 0, .i 0, .i 0, .i 0, .i 0, .i 0, .i 0, .i 0]] true 0, .arr 3 cs true 0, .arr 3 es true 0] .normal (env50 (.imm .arg 1 rw) (.agg ps) (.ptr 0 0 0 1) (.i 0) (.ptr 1 0 0 1) (.sl 2 0 (m + 1) none (m + 1) 3) (.i (IntKind.i64.wrap ((w : Int) + 1))) (.ptr 4 0 0 1) y10 y11 y13 y15 (.sl 3 0 q none q 3) (.i (q : Int)) (.i (IntKind.i64.wrap ((i : Int) + 1))) y41 y42 y43 y64 y65) [.arr 11 [.agg ps] true 0, .arr 11 [.agg [.i 0, .i 0, .i 0, .i 0, .i 0, .i 0, .i 0, .i 0, .i 0, .i 0, .i 0]] true 0, .arr 3 (cs ++ [.agg [.i ec, .i (ea : Int), .i (eb : Int)]]) true 0, .arr 3 es true 0, .arr 3 [.agg [.i ec, .i (ea : Int), .i (eb : Int)]] true 0] :=
  RunsTo.hin 0 60 [⟨4, 0, .bool true, [.arr 11 [.agg ps] true 0, .arr 11 [.agg [.i 0, .i 0, .i 0, .i 0, .i 0, .i 0, .i 0, .i 0, .i 0, .i 0, .i 0]] true 0, .arr 3 cs true 0, .arr 3 es true 0]⟩, ⟨5, 0, .ptr 3 i 0 q, [.arr 11 [.agg ps] true 0, .arr 11 [.agg [.i 0, .i 0, .i 0, .i 0, .i 0, .i 0, .i 0, .i 0, .i 0, .i 0, .i 0]] true 0, .arr 3 cs true 0, .arr 3 es true 0]⟩, ⟨5, 1, .agg [.i ec, .i (ea : Int), .i (eb : Int)], [.arr 11 [.agg ps] true 0, .arr 11 [.agg [.i 0, .i 0, .i 0, .i 0, .i 0, .i 0, .i 0, .i 0, .i 0, .i 0, .i 0]] true 0, .arr 3 cs true 0, .arr 3 es true 0]⟩, ⟨6, 2, .bool true, [.arr 11 [.agg ps] true 0, .arr 11 [.agg [.i 0, .i 0, .i 0, .i 0, .i 0, .i 0, .i 0, .i 0, .i 0, .i 0, .i 0]] true 0, .arr 3 cs true 0, .arr 3 es true 0, .arr 3 [.agg [.i ec, .i (ea : Int), .i (eb : Int)]] true 0]⟩, ⟨6, 5, .bool true, [.arr 11 [.agg ps] true 0, .arr 11 [.agg [.i 0, .i 0, .i 0, .i 0, .i 0, .i 0, .i 0, .i 0, .i 0, .i 0, .i 0]] true 0, .arr 3 cs true 0, .arr 3 es true 0, .arr 3 [.agg [.i ec, .i (ea : Int), .i (eb : Int)]] true 0]⟩, ⟨7, 3, .sl 2 0 (m + 1) none (m + 1) 3, [.arr 11 [.agg ps] true 0, .arr 11 [.agg [.i 0, .i 0, .i 0, .i 0, .i 0, .i 0, .i 0, .i 0, .i 0, .i 0, .i 0]] true 0, .arr 3 (cs ++ [.agg [.i ec, .i (ea : Int), .i (eb : Int)]]) true 0, .arr 3 es true 0, .arr 3 [.agg [.i ec, .i (ea : Int), .i (eb : Int)]] true 0]⟩] fun kf hk => ⟨_, by kernel_rfl, (oB [.arr 11 [.agg ps] true 0, .arr 11 [.agg [.i 0, .i 0, .i 0, .i 0, .i 0, .i 0, .i 0, .i 0, .i 0, .i 0, .i 0]] true 0, .arr 3 cs true 0, .arr 3 es true 0] (decide_eq_true g0) (oP [.arr 11 [.agg ps] true 0, .arr 11 [.agg [.i 0, .i 0, .i 0, .i 0, .i 0, .i 0, .i 0, .i 0, .i 0, .i 0, .i 0]] true 0, .arr 3 cs true 0, .arr 3 es true 0] g1 (oP [.arr 11 [.agg ps] true 0, .arr 11 [.agg [.i 0, .i 0, .i 0, .i 0, .i 0, .i 0, .i 0, .i 0, .i 0, .i 0, .i 0]] true 0, .arr 3 cs true 0, .arr 3 es true 0] g2 (oB [.arr 11 [.agg ps] true 0, .arr 11 [.agg [.i 0, .i 0, .i 0, .i 0, .i 0, .i 0, .i 0, .i 0, .i 0, .i 0, .i 0]] true 0, .arr 3 cs true 0, .arr 3 es true 0, .arr 3 [.agg [.i ec, .i (ea : Int), .i (eb : Int)]] true 0] (decide_eq_true g3) (oB [.arr 11 [.agg ps] true 0, .arr 11 [.agg [.i 0, .i 0, .i 0, .i 0, .i 0, .i 0, .i 0, .i 0, .i 0, .i 0, .i 0]] true 0, .arr 3 cs true 0, .arr 3 es true 0, .arr 3 [.agg [.i ec, .i (ea : Int), .i (eb : Int)]] true 0] (decide_eq_true g4) (oC (g5) .nil))))))⟩
theorem bo_e_1 (rw ps : List HV) (m : Nat) (cs : List HV) (q : Nat) (es : List HV) (w i : Nat) (ec : Int) (ea eb : Nat) {y9 y10 y11 y13 y15 y41 y42 y43 y64 y65 : HV}(g0 : (i : Int) < (q : Int)) (g1 : idxV Tp 88 (.sl 3 0 q none q 3) (.i (i : Int)) = some (.ptr 3 i 0 q)) (g2 : loadV Tp [.arr 11 [.agg ps] true 0, .arr 11 [.agg [.i 0, .i 0, .i 0, .i 0, .i 0, .i 0, .i 0, .i 0, .i 0, .i 0, .i 0]] true 0, .arr 3 cs true 0, .arr 3 es true 0] 91 (.ptr 3 i 0 q) = some (.agg [.i ec, .i (ea : Int), .i (eb : Int)])) (g3 : (ea : Int) = 0) (g4 : ¬ ((w : Int) < 2)) : RT polBo 50 (sub [1, 1, 1, 0, 1, 0, 0] B50) (env50 (.imm .arg 1 rw) (.agg ps) (.ptr 0 0 0 1) (.i 0) (.ptr 1 0 0 1) (.sl 2 0 m none m 3) (.i (w : Int)) y9 y10 y11 y13 y15 (.sl 3 0 q none q 3) (.i (q : Int)) (.i (i : Int)) y41 y42 y43 y64 y65) [.arr 11 [.agg ps] true 0, .arr 11 [.agg [.i 0, .i 0, .i 0, .i 0, .i 0, .i 0, .i 0, .i 0, .i 0, .i 0, .i 0]] true 0, .arr 3 cs true 0, .arr 3 es true 0] .normal (env50 (.imm .arg 1 rw) (.agg ps) (.ptr 0 0 0 1) (.i 0) (.ptr 1 0 0 1) (.sl 2 0 m none m 3) (.i (w : Int)) (.ptr 4 0 0 1) y10 y11 y13 y15 (.sl 3 0 q none q 3) (.i (q : Int)) (.i (IntKind.i64.wrap ((i : Int) + 1))) y41 y42 y43 y64 y65) [.arr 11 [.agg ps] true 0, .arr 11 [.agg [.i 0, .i 0, .i 0, .i 0, .i 0, .i 0, .i 0, .i 0, .i 0, .i 0, .i 0]] true 0, .arr 3 cs true 0, .arr 3 es true 0, .arr 3 [.agg [.i ec, .i (ea : Int), .i (eb : Int)]] true 0] :=
  RunsTo.hin 0 60 [⟨4, 0, .bool true, [.arr 11 [.agg ps] true 0, .arr 11 [.agg [.i 0, .i 0, .i 0, .i 0, .i 0, .i 0, .i 0, .i 0, .i 0, .i 0, .i 0]] true 0, .arr 3 cs true 0, .arr 3 es true 0]⟩, ⟨5, 0, .ptr 3 i 0 q, [.arr 11 [.agg ps] true 0, .arr 11 [.agg [.i 0, .i 0, .i 0, .i 0, .i 0, .i 0, .i 0, .i 0, .i 0, .i 0, .i 0]] true 0, .arr 3 cs true 0, .arr 3 es true 0]⟩, ⟨5, 1, .agg [.i ec, .i (ea : Int), .i (eb : Int)], [.arr 11 [.agg ps] true 0, .arr 11 [.agg [.i 0, .i 0, .i 0, .i 0, .i 0, .i 0, .i 0, .i 0, .i 0, .i 0, .i 0]] true 0, .arr 3 cs true 0, .arr 3 es true 0]⟩, ⟨6, 2, .bool true, [.arr 11 [.agg ps] true 0, .arr 11 [.agg [.i 0, .i 0, .i 0, .i 0, .i 0, .i 0, .i 0, .i 0, .i 0, .i 0, .i 0]] true 0, .arr 3 cs true 0, .arr 3 es true 0, .arr 3 [.agg [.i ec, .i (ea : Int), .i (eb : Int)]] true 0]⟩, ⟨6, 5, .bool false, [.arr 11 [.agg ps] true 0, .arr 11 [.agg [.i 0, .i 0, .i 0, .i 0, .i 0, .i 0, .i 0, .i 0, .i 0, .i 0, .i 0]] true 0, .arr 3 cs true 0, .arr 3 es true 0, .arr 3 [.agg [.i ec, .i (ea : Int), .i (eb : Int)]] true 0]⟩] fun kf hk => ⟨_, by kernel_rfl, (oB [.arr 11 [.agg ps] true 0, .arr 11 [.agg [.i 0, .i 0, .i 0, .i 0, .i 0, .i 0, .i 0, .i 0, .i 0, .i 0, .i 0]] true 0, .arr 3 cs true 0, .arr 3 es true 0] (decide_eq_true g0) (oP [.arr 11 [.agg ps] true 0, .arr 11 [.agg [.i 0, .i 0, .i 0, .i 0, .i 0, .i 0, .i 0, .i 0, .i 0, .i 0, .i 0]] true 0, .arr 3 cs true 0, .arr 3 es true 0] g1 (oP [.arr 11 [.agg ps] true 0, .arr 11 [.agg [.i 0, .i 0, .i 0, .i 0, .i 0, .i 0, .i 0, .i 0, .i 0, .i 0, .i 0]] true 0, .arr 3 cs true 0, .arr 3 es true 0] g2 (oB [.arr 11 [.agg ps] true 0, .arr 11 [.agg [.i 0, .i 0, .i 0, .i 0, .i 0, .i 0, .i 0, .i 0, .i 0, .i 0, .i 0]] true 0, .arr 3 cs true 0, .arr 3 es true 0, .arr 3 [.agg [.i ec, .i (ea : Int), .i (eb : Int)]] true 0] (decide_eq_true g3) (oB [.arr 11 [.agg ps] true 0, .arr 11 [.agg [.i 0, .i 0, .i 0, .i 0, .i 0, .i 0, .i 0, .i 0, .i 0, .i 0, .i 0]] true 0, .arr 3 cs true 0, .arr 3 es true 0, .arr 3 [.agg [.i ec, .i (ea : Int), .i (eb : Int)]] true 0] (decide_eq_false g4) .nil)))))⟩
theorem bo_e_2 (rw ps : List HV) (m : Nat) (cs : List HV) (q : Nat) (es : List HV) (w i : Nat) (ec : Int) (ea eb : Nat) {y9 y10 y11 y13 y15 y41 y42 y43 y64 y65 : HV}(g0 : (i : Int) < (q : Int)) (g1 : idxV Tp 88 (.sl 3 0 q none q 3) (.i (i : Int)) = some (.ptr 3 i 0 q)) (g2 : loadV Tp [.arr 11 [.agg ps] true 0, .arr 11 [.agg [.i 0, .i 0, .i 0, .i 0, .i 0, .i 0, .i 0, .i 0, .i 0, .i 0, .i 0]] true 0, .arr 3 cs true 0, .arr 3 es true 0] 91 (.ptr 3 i 0 q) = some (.agg [.i ec, .i (ea : Int), .i (eb : Int)])) (g3 : ¬ ((ea : Int) = 0)) : RT polBo 50 (sub [1, 1, 1, 0, 1, 0, 0] B50) (env50 (.imm .arg 1 rw) (.agg ps) (.ptr 0 0 0 1) (.i 0) (.ptr 1 0 0 1) (.sl 2 0 m none m 3) (.i (w : Int)) y9 y10 y11 y13 y15 (.sl 3 0 q none q 3) (.i (q : Int)) (.i (i : Int)) y41 y42 y43 y64 y65) [.arr 11 [.agg ps] true 0, .arr 11 [.agg [.i 0, .i 0, .i 0, .i 0, .i 0, .i 0, .i 0, .i 0, .i 0, .i 0, .i 0]] true 0, .arr 3 cs true 0, .arr 3 es true 0] .normal (env50 (.imm .arg 1 rw) (.agg ps) (.ptr 0 0 0 1) (.i 0) (.ptr 1 0 0 1) (.sl 2 0 m none m 3) (.i (w : Int)) (.ptr 4 0 0 1) y10 y11 y13 y15 (.sl 3 0 q none q 3) (.i (q : Int)) (.i (IntKind.i64.wrap ((i : Int) + 1))) y41 y42 y43 y64 y65) [.arr 11 [.agg ps] true 0, .arr 11 [.agg [.i 0, .i 0, .i 0, .i 0, .i 0, .i 0, .i 0, .i 0, .i 0, .i 0, .i 0]] true 0, .arr 3 cs true 0, .arr 3 es true 0, .arr 3 [.agg [.i ec, .i (ea : Int), .i (eb : Int)]] true 0] :=
  RunsTo.hin 0 60 [⟨4, 0, .bool true, [.arr 11 [.agg ps] true 0, .arr 11 [.agg [.i 0, .i 0, .i 0, .i 0, .i 0, .i 0, .i 0, .i 0, .i 0, .i 0, .i 0]] true 0, .arr 3 cs true 0, .arr 3 es true 0]⟩, ⟨5, 0, .ptr 3 i 0 q, [.arr 11 [.agg ps] true 0, .arr 11 [.agg [.i 0, .i 0, .i 0, .i 0, .i 0, .i 0, .i 0, .i 0, .i 0, .i 0, .i 0]] true 0, .arr 3 cs true 0, .arr 3 es true 0]⟩, ⟨5, 1, .agg [.i ec, .i (ea : Int), .i (eb : Int)], [.arr 11 [.agg ps] true 0, .arr 11 [.agg [.i 0, .i 0, .i 0, .i 0, .i 0, .i 0, .i 0, .i 0, .i 0, .i 0, .i 0]] true 0, .arr 3 cs true 0, .arr 3 es true 0]⟩, ⟨6, 2, .bool false, [.arr 11 [.agg ps] true 0, .arr 11 [.agg [.i 0, .i 0, .i 0, .i 0, .i 0, .i 0, .i 0, .i 0, .i 0, .i 0, .i 0]] true 0, .arr 3 cs true 0, .arr 3 es true 0, .arr 3 [.agg [.i ec, .i (ea : Int), .i (eb : Int)]] true 0]⟩] fun kf hk => ⟨_, by kernel_rfl, (oB [.arr 11 [.agg ps] true 0, .arr 11 [.agg [.i 0, .i 0, .i 0, .i 0, .i 0, .i 0, .i 0, .i 0, .i 0, .i 0, .i 0]] true 0, .arr 3 cs true 0, .arr 3 es true 0] (decide_eq_true g0) (oP [.arr 11 [.agg ps] true 0, .arr 11 [.agg [.i 0, .i 0, .i 0, .i 0, .i 0, .i 0, .i 0, .i 0, .i 0, .i 0, .i 0]] true 0, .arr 3 cs true 0, .arr 3 es true 0] g1 (oP [.arr 11 [.agg ps] true 0, .arr 11 [.agg [.i 0, .i 0, .i 0, .i 0, .i 0, .i 0, .i 0, .i 0, .i 0, .i 0, .i 0]] true 0, .arr 3 cs true 0, .arr 3 es true 0] g2 (oB [.arr 11 [.agg ps] true 0, .arr 11 [.agg [.i 0, .i 0, .i 0, .i 0, .i 0, .i 0, .i 0, .i 0, .i 0, .i 0, .i 0]] true 0, .arr 3 cs true 0, .arr 3 es true 0, .arr 3 [.agg [.i ec, .i (ea : Int), .i (eb : Int)]] true 0] (decide_eq_false g3) .nil))))⟩
theorem bo_e_3 (rw ps : List HV) (m : Nat) (cs : List HV) (q : Nat) (es : List HV) (w i : Nat) (ec : Int) (ea eb : Nat) {y9 y10 y11 y13 y15 y41 y42 y43 y64 y65 : HV}(g0 : ¬ ((i : Int) < (q : Int))) : RT polBo 50 (sub [1, 1, 1, 0, 1, 0, 0] B50) (env50 (.imm .arg 1 rw) (.agg ps) (.ptr 0 0 0 1) (.i 0) (.ptr 1 0 0 1) (.sl 2 0 m none m 3) (.i (w : Int)) y9 y10 y11 y13 y15 (.sl 3 0 q none q 3) (.i (q : Int)) (.i (i : Int)) y41 y42 y43 y64 y65) [.arr 11 [.agg ps] true 0, .arr 11 [.agg [.i 0, .i 0, .i 0, .i 0, .i 0, .i 0, .i 0, .i 0, .i 0, .i 0, .i 0]] true 0, .arr 3 cs true 0, .arr 3 es true 0] (.exit 0) (env50 (.imm .arg 1 rw) (.agg ps) (.ptr 0 0 0 1) (.i 0) (.ptr 1 0 0 1) (.sl 2 0 m none m 3) (.i (w : Int)) y9 y10 y11 y13 y15 (.sl 3 0 q none q 3) (.i (q : Int)) (.i (i : Int)) y41 y42 y43 y64 y65) [.arr 11 [.agg ps] true 0, .arr 11 [.agg [.i 0, .i 0, .i 0, .i 0, .i 0, .i 0, .i 0, .i 0, .i 0, .i 0, .i 0]] true 0, .arr 3 cs true 0, .arr 3 es true 0] :=
  RunsTo.hin 0 60 [⟨4, 0, .bool false, [.arr 11 [.agg ps] true 0, .arr 11 [.agg [.i 0, .i 0, .i 0, .i 0, .i 0, .i 0, .i 0, .i 0, .i 0, .i 0, .i 0]] true 0, .arr 3 cs true 0, .arr 3 es true 0]⟩] fun kf hk => ⟨_, by kernel_rfl, (oB [.arr 11 [.agg ps] true 0, .arr 11 [.agg [.i 0, .i 0, .i 0, .i 0, .i 0, .i 0, .i 0, .i 0, .i 0, .i 0, .i 0]] true 0, .arr 3 cs true 0, .arr 3 es true 0] (decide_eq_false g0) .nil)⟩
theorem bo_f_0 (rw ps : List HV) (m : Nat) (cs : List HV) (q : Nat) (es : List HV) {y7 y9 y10 y11 y13 y15 y21 y22 y23 y41 y42 y43 y64 y65 : HV} : RT polBo 50 (sub [1, 1, 1, 1, 0] B50) (env50 (.imm .arg 1 rw) (.agg ps) (.ptr 0 0 0 1) (.i 0) (.ptr 1 0 0 1) (.sl 2 0 m none m 3) y7 y9 y10 y11 y13 y15 y21 y22 y23 y41 y42 y43 y64 y65) [.arr 11 [.agg ps] true 0, .arr 11 [.agg [.i 0, .i 0, .i 0, .i 0, .i 0, .i 0, .i 0, .i 0, .i 0, .i 0, .i 0]] true 0, .arr 3 cs true 0, .arr 3 es true 0] .normal (env50 (.imm .arg 1 rw) (.agg ps) (.ptr 0 0 0 1) (.i 0) (.ptr 1 0 0 1) (.sl 2 0 m none m 3) y7 y9 (.i 0) y11 y13 y15 y21 y22 y23 y41 y42 y43 y64 y65) [.arr 11 [.agg ps] true 0, .arr 11 [.agg [.i 0, .i 0, .i 0, .i 0, .i 0, .i 0, .i 0, .i 0, .i 0, .i 0, .i 0]] true 0, .arr 3 cs true 0, .arr 3 es true 0] :=
  RunsTo.hin 0 60 [] fun kf hk => ⟨_, by kernel_rfl, .nil⟩
theorem bo_g_0 (rw ps : List HV) (m : Nat) (cs : List HV) (q : Nat) (es : List HV) {y7 y9 y11 y13 y15 y21 y22 y23 y41 y42 y43 y64 y65 : HV} : RT polBo 50 (sub [1, 1, 1, 1, 1, 0] B50) (env50 (.imm .arg 1 rw) (.agg ps) (.ptr 0 0 0 1) (.i 0) (.ptr 1 0 0 1) (.sl 2 0 m none m 3) y7 y9 (.i 0) y11 y13 y15 y21 y22 y23 y41 y42 y43 y64 y65) [.arr 11 [.agg ps] true 0, .arr 11 [.agg [.i 0, .i 0, .i 0, .i 0, .i 0, .i 0, .i 0, .i 0, .i 0, .i 0, .i 0]] true 0, .arr 3 cs true 0, .arr 3 es true 0] .normal (env50 (.imm .arg 1 rw) (.agg ps) (.ptr 0 0 0 1) (.i 0) (.ptr 1 0 0 1) (.sl 2 0 m none m 3) y7 y9 (.i 0) (.ptr 4 0 0 1) y13 y15 y21 y22 y23 y41 y42 y43 y64 y65) [.arr 11 [.agg ps] true 0, .arr 11 [.agg [.i 0, .i 0, .i 0, .i 0, .i 0, .i 0, .i 0, .i 0, .i 0, .i 0, .i 0]] true 0, .arr 3 cs true 0, .arr 3 es true 0, .arr 11 [.agg [.i 0, .i 0, .i 0, .i 0, .i 0, .i 0, .i 0, .i 0, .i 0, .i 0, .i 0]] true 0] :=
  RunsTo.hin 0 60 [] fun kf hk => ⟨_, by kernel_rfl, .nil⟩
theorem bo_h_0 (rw ps : List HV) (m : Nat) (cs : List HV) (q : Nat) (es : List HV) (aa : List HV) {y7 y9 y13 y15 y21 y22 y23 y41 y42 y43 y64 y65 : HV} : RT polBo 50 (sub [1, 1, 1, 1, 1, 1, 0, 0] B50) (env50 (.imm .arg 1 rw) (.agg ps) (.ptr 0 0 0 1) (.i 0) (.ptr 1 0 0 1) (.sl 2 0 m none m 3) y7 y9 (.i 0) (.ptr 4 0 0 1) y13 y15 y21 y22 y23 y41 y42 y43 y64 y65) [.arr 11 [.agg ps] true 0, .arr 11 [.agg [.i 0, .i 0, .i 0, .i 0, .i 0, .i 0, .i 0, .i 0, .i 0, .i 0, .i 0]] true 0, .arr 3 cs true 0, .arr 3 es true 0, .arr 11 [.agg aa] true 0] .normal (env50 (.imm .arg 1 rw) (.agg ps) (.ptr 0 0 0 1) (.i 0) (.ptr 1 0 0 1) (.sl 2 0 m none m 3) y7 y9 (.i 0) (.ptr 4 0 0 1) y13 y15 y21 y22 y23 (.sl 2 0 m none m 3) (.i (m : Int)) (.i 0) y64 y65) [.arr 11 [.agg ps] true 0, .arr 11 [.agg [.i 0, .i 0, .i 0, .i 0, .i 0, .i 0, .i 0, .i 0, .i 0, .i 0, .i 0]] true 0, .arr 3 cs true 0, .arr 3 es true 0, .arr 11 [.agg aa] true 0] :=
  RunsTo.hin 0 60 [] fun kf hk => ⟨_, by kernel_rfl, .nil⟩
theorem bo_i_0 (rw ps : List HV) (m : Nat) (cs : List HV) (q : Nat) (es : List HV) (aa : List HV) (sm : Int) (i : Nat) (ec : Int) (ea eb : Nat) {y6 y7 y9 y13 y15 y21 y22 y23 y64 y65 : HV} {x0 : Int} {cs0 : List HV} {x1 : Int} {cs1 : List HV} (g0 : (i : Int) < (m : Int)) (g1 : idxV Tp 88 (.sl 2 0 m none m 3) (.i (i : Int)) = some (.ptr 2 i 0 m)) (g2 : loadV Tp [.arr 11 [.agg ps] true 0, .arr 11 [.agg [.i 0, .i 0, .i 0, .i 0, .i 0, .i 0, .i 0, .i 0, .i 0, .i 0, .i 0]] true 0, .arr 3 cs true 0, .arr 3 es true 0, .arr 11 [.agg aa] true 0] 91 (.ptr 2 i 0 m) = some (.agg [.i ec, .i (ea : Int), .i (eb : Int)])) (g3 : idxV Tp 66 (.ptr 4 0 0 1) (.i (ea : Int)) = some (.ptr 4 0 ea 1)) (g4 : loadV Tp [.arr 11 [.agg ps] true 0, .arr 11 [.agg [.i 0, .i 0, .i 0, .i 0, .i 0, .i 0, .i 0, .i 0, .i 0, .i 0, .i 0]] true 0, .arr 3 cs true 0, .arr 3 es true 0, .arr 11 [.agg aa] true 0, .arr 3 [.agg [.i ec, .i (ea : Int), .i (eb : Int)]] true 0] 3 (.ptr 4 0 ea 1) = some (.i x0)) (g5 : idxV Tp 66 (.ptr 4 0 0 1) (.i (ea : Int)) = some (.ptr 4 0 ea 1)) (g6 : storeV Tp [.arr 11 [.agg ps] true 0, .arr 11 [.agg [.i 0, .i 0, .i 0, .i 0, .i 0, .i 0, .i 0, .i 0, .i 0, .i 0, .i 0]] true 0, .arr 3 cs true 0, .arr 3 es true 0, .arr 11 [.agg aa] true 0, .arr 3 [.agg [.i ec, .i (ea : Int), .i (eb : Int)]] true 0] 3 (.ptr 4 0 ea 1) (.i (IntKind.i64.wrap (x0 + 1))) = some [.arr 11 [.agg ps] true 0, .arr 11 [.agg [.i 0, .i 0, .i 0, .i 0, .i 0, .i 0, .i 0, .i 0, .i 0, .i 0, .i 0]] true 0, .arr 3 cs true 0, .arr 3 es true 0, .arr 11 [.agg cs0] true 0, .arr 3 [.agg [.i ec, .i (ea : Int), .i (eb : Int)]] true 0]) (g7 : idxV Tp 66 (.ptr 4 0 0 1) (.i (eb : Int)) = some (.ptr 4 0 eb 1)) (g8 : loadV Tp [.arr 11 [.agg ps] true 0, .arr 11 [.agg [.i 0, .i 0, .i 0, .i 0, .i 0, .i 0, .i 0, .i 0, .i 0, .i 0, .i 0]] true 0, .arr 3 cs true 0, .arr 3 es true 0, .arr 11 [.agg cs0] true 0, .arr 3 [.agg [.i ec, .i (ea : Int), .i (eb : Int)]] true 0] 3 (.ptr 4 0 eb 1) = some (.i x1)) (g9 : idxV Tp 66 (.ptr 4 0 0 1) (.i (eb : Int)) = some (.ptr 4 0 eb 1)) (g10 : storeV Tp [.arr 11 [.agg ps] true 0, .arr 11 [.agg [.i 0, .i 0, .i 0, .i 0, .i 0, .i 0, .i 0, .i 0, .i 0, .i 0, .i 0]] true 0, .arr 3 cs true 0, .arr 3 es true 0, .arr 11 [.agg cs0] true 0, .arr 3 [.agg [.i ec, .i (ea : Int), .i (eb : Int)]] true 0] 3 (.ptr 4 0 eb 1) (.i (IntKind.i64.wrap (x1 + 1))) = some [.arr 11 [.agg ps] true 0, .arr 11 [.agg [.i 0, .i 0, .i 0, .i 0, .i 0, .i 0, .i 0, .i 0, .i 0, .i 0, .i 0]] true 0, .arr 3 cs true 0, .arr 3 es true 0, .arr 11 [.agg cs1] true 0, .arr 3 [.agg [.i ec, .i (ea : Int), .i (eb : Int)]] true 0]) : RT polBo 50 (sub [1, 1, 1, 1, 1, 1, 0, 1, 0, 0] B50) (env50 (.imm .arg 1 rw) (.agg ps) (.ptr 0 0 0 1) (.i 0) (.ptr 1 0 0 1) y6 y7 y9 (.i sm) (.ptr 4 0 0 1) y13 y15 y21 y22 y23 (.sl 2 0 m none m 3) (.i (m : Int)) (.i (i : Int)) y64 y65) [.arr 11 [.agg ps] true 0, .arr 11 [.agg [.i 0, .i 0, .i 0, .i 0, .i 0, .i 0, .i 0, .i 0, .i 0, .i 0, .i 0]] true 0, .arr 3 cs true 0, .arr 3 es true 0, .arr 11 [.agg aa] true 0] .normal (env50 (.imm .arg 1 rw) (.agg ps) (.ptr 0 0 0 1) (.i 0) (.ptr 1 0 0 1) y6 y7 y9 (.i (IntKind.i64.wrap (sm + ec))) (.ptr 4 0 0 1) (.ptr 5 0 0 1) y15 y21 y22 y23 (.sl 2 0 m none m 3) (.i (m : Int)) (.i (IntKind.i64.wrap ((i : Int) + 1))) y64 y65) [.arr 11 [.agg ps] true 0, .arr 11 [.agg [.i 0, .i 0, .i 0, .i 0, .i 0, .i 0, .i 0, .i 0, .i 0, .i 0, .i 0]] true 0, .arr 3 cs true 0, .arr 3 es true 0, .arr 11 [.agg cs1] true 0, .arr 3 [.agg [.i ec, .i (ea : Int), .i (eb : Int)]] true 0] :=
  RunsTo.hin 0 60 [⟨13, 0, .bool true, [.arr 11 [.agg ps] true 0, .arr 11 [.agg [.i 0, .i 0, .i 0, .i 0, .i 0, .i 0, .i 0, .i 0, .i 0, .i 0, .i 0]] true 0, .arr 3 cs true 0, .arr 3 es true 0, .arr 11 [.agg aa] true 0]⟩, ⟨14, 0, .ptr 2 i 0 m, [.arr 11 [.agg ps] true 0, .arr 11 [.agg [.i 0, .i 0, .i 0, .i 0, .i 0, .i 0, .i 0, .i 0, .i 0, .i 0, .i 0]] true 0, .arr 3 cs true 0, .arr 3 es true 0, .arr 11 [.agg aa] true 0]⟩, ⟨14, 1, .agg [.i ec, .i (ea : Int), .i (eb : Int)], [.arr 11 [.agg ps] true 0, .arr 11 [.agg [.i 0, .i 0, .i 0, .i 0, .i 0, .i 0, .i 0, .i 0, .i 0, .i 0, .i 0]] true 0, .arr 3 cs true 0, .arr 3 es true 0, .arr 11 [.agg aa] true 0]⟩, ⟨16, 2, .ptr 4 0 ea 1, [.arr 11 [.agg ps] true 0, .arr 11 [.agg [.i 0, .i 0, .i 0, .i 0, .i 0, .i 0, .i 0, .i 0, .i 0, .i 0, .i 0]] true 0, .arr 3 cs true 0, .arr 3 es true 0, .arr 11 [.agg aa] true 0, .arr 3 [.agg [.i ec, .i (ea : Int), .i (eb : Int)]] true 0]⟩, ⟨16, 3, .i x0, [.arr 11 [.agg ps] true 0, .arr 11 [.agg [.i 0, .i 0, .i 0, .i 0, .i 0, .i 0, .i 0, .i 0, .i 0, .i 0, .i 0]] true 0, .arr 3 cs true 0, .arr 3 es true 0, .arr 11 [.agg aa] true 0, .arr 3 [.agg [.i ec, .i (ea : Int), .i (eb : Int)]] true 0]⟩, ⟨16, 5, .ptr 4 0 ea 1, [.arr 11 [.agg ps] true 0, .arr 11 [.agg [.i 0, .i 0, .i 0, .i 0, .i 0, .i 0, .i 0, .i 0, .i 0, .i 0, .i 0]] true 0, .arr 3 cs true 0, .arr 3 es true 0, .arr 11 [.agg aa] true 0, .arr 3 [.agg [.i ec, .i (ea : Int), .i (eb : Int)]] true 0]⟩, ⟨16, 6, .tuple [], [.arr 11 [.agg ps] true 0, .arr 11 [.agg [.i 0, .i 0, .i 0, .i 0, .i 0, .i 0, .i 0, .i 0, .i 0, .i 0, .i 0]] true 0, .arr 3 cs true 0, .arr 3 es true 0, .arr 11 [.agg cs0] true 0, .arr 3 [.agg [.i ec, .i (ea : Int), .i (eb : Int)]] true 0]⟩, ⟨17, 2, .ptr 4 0 eb 1, [.arr 11 [.agg ps] true 0, .arr 11 [.agg [.i 0, .i 0, .i 0, .i 0, .i 0, .i 0, .i 0, .i 0, .i 0, .i 0, .i 0]] true 0, .arr 3 cs true 0, .arr 3 es true 0, .arr 11 [.agg cs0] true 0, .arr 3 [.agg [.i ec, .i (ea : Int), .i (eb : Int)]] true 0]⟩, ⟨17, 3, .i x1, [.arr 11 [.agg ps] true 0, .arr 11 [.agg [.i 0, .i 0, .i 0, .i 0, .i 0, .i 0, .i 0, .i 0, .i 0, .i 0, .i 0]] true 0, .arr 3 cs true 0, .arr 3 es true 0, .arr 11 [.agg cs0] true 0, .arr 3 [.agg [.i ec, .i (ea : Int), .i (eb : Int)]] true 0]⟩, ⟨17, 5, .ptr 4 0 eb 1, [.arr 11 [.agg ps] true 0, .arr 11 [.agg [.i 0, .i 0, .i 0, .i 0, .i 0, .i 0, .i 0, .i 0, .i 0, .i 0, .i 0]] true 0, .arr 3 cs true 0, .arr 3 es true 0, .arr 11 [.agg cs0] true 0, .arr 3 [.agg [.i ec, .i (ea : Int), .i (eb : Int)]] true 0]⟩, ⟨17, 6, .tuple [], [.arr 11 [.agg ps] true 0, .arr 11 [.agg [.i 0, .i 0, .i 0, .i 0, .i 0, .i 0, .i 0, .i 0, .i 0, .i 0, .i 0]] true 0, .arr 3 cs true 0, .arr 3 es true 0, .arr 11 [.agg cs1] true 0, .arr 3 [.agg [.i ec, .i (ea : Int), .i (eb : Int)]] true 0]⟩] fun kf hk => ⟨_, by kernel_rfl, (oB [.arr 11 [.agg ps] true 0, .arr 11 [.agg [.i 0, .i 0, .i 0, .i 0, .i 0, .i 0, .i 0, .i 0, .i 0, .i 0, .i 0]] true 0, .arr 3 cs true 0, .arr 3 es true 0, .arr 11 [.agg aa] true 0] (decide_eq_true g0) (oP [.arr 11 [.agg ps] true 0, .arr 11 [.agg [.i 0, .i 0, .i 0, .i 0, .i 0, .i 0, .i 0, .i 0, .i 0, .i 0, .i 0]] true 0, .arr 3 cs true 0, .arr 3 es true 0, .arr 11 [.agg aa] true 0] g1 (oP [.arr 11 [.agg ps] true 0, .arr 11 [.agg [.i 0, .i 0, .i 0, .i 0, .i 0, .i 0, .i 0, .i 0, .i 0, .i 0, .i 0]] true 0, .arr 3 cs true 0, .arr 3 es true 0, .arr 11 [.agg aa] true 0] g2 (oP [.arr 11 [.agg ps] true 0, .arr 11 [.agg [.i 0, .i 0, .i 0, .i 0, .i 0, .i 0, .i 0, .i 0, .i 0, .i 0, .i 0]] true 0, .arr 3 cs true 0, .arr 3 es true 0, .arr 11 [.agg aa] true 0, .arr 3 [.agg [.i ec, .i (ea : Int), .i (eb : Int)]] true 0] g3 (oP [.arr 11 [.agg ps] true 0, .arr 11 [.agg [.i 0, .i 0, .i 0, .i 0, .i 0, .i 0, .i 0, .i 0, .i 0, .i 0, .i 0]] true 0, .arr 3 cs true 0, .arr 3 es true 0, .arr 11 [.agg aa] true 0, .arr 3 [.agg [.i ec, .i (ea : Int), .i (eb : Int)]] true 0] g4 (oP [.arr 11 [.agg ps] true 0, .arr 11 [.agg [.i 0, .i 0, .i 0, .i 0, .i 0, .i 0, .i 0, .i 0, .i 0, .i 0, .i 0]] true 0, .arr 3 cs true 0, .arr 3 es true 0, .arr 11 [.agg aa] true 0, .arr 3 [.agg [.i ec, .i (ea : Int), .i (eb : Int)]] true 0] g5 (oS g6 (oP [.arr 11 [.agg ps] true 0, .arr 11 [.agg [.i 0, .i 0, .i 0, .i 0, .i 0, .i 0, .i 0, .i 0, .i 0, .i 0, .i 0]] true 0, .arr 3 cs true 0, .arr 3 es true 0, .arr 11 [.agg cs0] true 0, .arr 3 [.agg [.i ec, .i (ea : Int), .i (eb : Int)]] true 0] g7 (oP [.arr 11 [.agg ps] true 0, .arr 11 [.agg [.i 0, .i 0, .i 0, .i 0, .i 0, .i 0, .i 0, .i 0, .i 0, .i 0, .i 0]] true 0, .arr 3 cs true 0, .arr 3 es true 0, .arr 11 [.agg cs0] true 0, .arr 3 [.agg [.i ec, .i (ea : Int), .i (eb : Int)]] true 0] g8 (oP [.arr 11 [.agg ps] true 0, .arr 11 [.agg [.i 0, .i 0, .i 0, .i 0, .i 0, .i 0, .i 0, .i 0, .i 0, .i 0, .i 0]] true 0, .arr 3 cs true 0, .arr 3 es true 0, .arr 11 [.agg cs0] true 0, .arr 3 [.agg [.i ec, .i (ea : Int), .i (eb : Int)]] true 0] g9 (oS g10 .nil)))))))))))⟩
theorem bo_i_1 (rw ps : List HV) (m : Nat) (cs : List HV) (q : Nat) (es : List HV) (aa : List HV) (sm : Int) (i : Nat) (ec : Int) (ea eb : Nat) {y6 y7 y9 y13 y15 y21 y22 y23 y64 y65 : HV}(g0 : ¬ ((i : Int) < (m : Int))) : RT polBo 50 (sub [1, 1, 1, 1, 1, 1, 0, 1, 0, 0] B50) (env50 (.imm .arg 1 rw) (.agg ps) (.ptr 0 0 0 1) (.i 0) (.ptr 1 0 0 1) y6 y7 y9 (.i sm) (.ptr 4 0 0 1) y13 y15 y21 y22 y23 (.sl 2 0 m none m 3) (.i (m : Int)) (.i (i : Int)) y64 y65) [.arr 11 [.agg ps] true 0, .arr 11 [.agg [.i 0, .i 0, .i 0, .i 0, .i 0, .i 0, .i 0, .i 0, .i 0, .i 0, .i 0]] true 0, .arr 3 cs true 0, .arr 3 es true 0, .arr 11 [.agg aa] true 0] (.exit 2) (env50 (.imm .arg 1 rw) (.agg ps) (.ptr 0 0 0 1) (.i 0) (.ptr 1 0 0 1) y6 y7 y9 (.i sm) (.ptr 4 0 0 1) y13 y15 y21 y22 y23 (.sl 2 0 m none m 3) (.i (m : Int)) (.i (i : Int)) y64 y65) [.arr 11 [.agg ps] true 0, .arr 11 [.agg [.i 0, .i 0, .i 0, .i 0, .i 0, .i 0, .i 0, .i 0, .i 0, .i 0, .i 0]] true 0, .arr 3 cs true 0, .arr 3 es true 0, .arr 11 [.agg aa] true 0] :=
  RunsTo.hin 0 60 [⟨13, 0, .bool false, [.arr 11 [.agg ps] true 0, .arr 11 [.agg [.i 0, .i 0, .i 0, .i 0, .i 0, .i 0, .i 0, .i 0, .i 0, .i 0, .i 0]] true 0, .arr 3 cs true 0, .arr 3 es true 0, .arr 11 [.agg aa] true 0]⟩] fun kf hk => ⟨_, by kernel_rfl, (oB [.arr 11 [.agg ps] true 0, .arr 11 [.agg [.i 0, .i 0, .i 0, .i 0, .i 0, .i 0, .i 0, .i 0, .i 0, .i 0, .i 0]] true 0, .arr 3 cs true 0, .arr 3 es true 0, .arr 11 [.agg aa] true 0] (decide_eq_false g0) .nil)⟩
theorem bo_j_0 (rw ps : List HV) (m : Nat) (cs : List HV) (q : Nat) (es : List HV) (aa : List HV) (sm : Int) {y6 y7 y9 y13 y15 y21 y22 y23 y41 y42 y43 y64 y65 : HV}(g0 : loadV Tp [.arr 11 [.agg ps] true 0, .arr 11 [.agg [.i 0, .i 0, .i 0, .i 0, .i 0, .i 0, .i 0, .i 0, .i 0, .i 0, .i 0]] true 0, .arr 3 cs true 0, .arr 3 es true 0, .arr 11 [.agg aa] true 0] 66 (.ptr 0 0 0 1) = some (.agg ps)) : RT polBo 50 (sub [1, 1, 1, 1, 1, 1, 1, 0, 0] B50) (env50 (.imm .arg 1 rw) (.agg ps) (.ptr 0 0 0 1) (.i 0) (.ptr 1 0 0 1) y6 y7 y9 (.i sm) (.ptr 4 0 0 1) y13 y15 y21 y22 y23 y41 y42 y43 y64 y65) [.arr 11 [.agg ps] true 0, .arr 11 [.agg [.i 0, .i 0, .i 0, .i 0, .i 0, .i 0, .i 0, .i 0, .i 0, .i 0, .i 0]] true 0, .arr 3 cs true 0, .arr 3 es true 0, .arr 11 [.agg aa] true 0] .normal (env50 (.imm .arg 1 rw) (.agg ps) (.ptr 0 0 0 1) (.i 0) (.ptr 1 0 0 1) y6 y7 y9 (.i sm) (.ptr 4 0 0 1) y13 y15 y21 y22 y23 y41 y42 y43 (.agg ps) (.i 0)) [.arr 11 [.agg ps] true 0, .arr 11 [.agg [.i 0, .i 0, .i 0, .i 0, .i 0, .i 0, .i 0, .i 0, .i 0, .i 0, .i 0]] true 0, .arr 3 cs true 0, .arr 3 es true 0, .arr 11 [.agg aa] true 0] :=
  RunsTo.hin 0 60 [⟨19, 0, .agg ps, [.arr 11 [.agg ps] true 0, .arr 11 [.agg [.i 0, .i 0, .i 0, .i 0, .i 0, .i 0, .i 0, .i 0, .i 0, .i 0, .i 0]] true 0, .arr 3 cs true 0, .arr 3 es true 0, .arr 11 [.agg aa] true 0]⟩] fun kf hk => ⟨_, by kernel_rfl, (oP [.arr 11 [.agg ps] true 0, .arr 11 [.agg [.i 0, .i 0, .i 0, .i 0, .i 0, .i 0, .i 0, .i 0, .i 0, .i 0, .i 0]] true 0, .arr 3 cs true 0, .arr 3 es true 0, .arr 11 [.agg aa] true 0] g0 .nil)⟩
theorem bo_k_0 (rw ps : List HV) (m : Nat) (cs : List HV) (q : Nat) (es : List HV) (aa : List HV) (sm : Int) (i : Nat) {y3 y6 y7 y9 y13 y15 y21 y22 y23 y41 y42 y43 : HV} {x0 : Int} (g0 : (i : Int) < 11) (g1 : elemV Tp 66 (.agg ps) (.i (i : Int)) = some (.i x0)) : RT polBo 50 (sub [1, 1, 1, 1, 1, 1, 1, 0, 1, 0, 0] B50) (env50 (.imm .arg 1 rw) (.agg ps) y3 (.i 0) (.ptr 1 0 0 1) y6 y7 y9 (.i sm) (.ptr 4 0 0 1) y13 y15 y21 y22 y23 y41 y42 y43 (.agg ps) (.i (i : Int))) [.arr 11 [.agg ps] true 0, .arr 11 [.agg [.i 0, .i 0, .i 0, .i 0, .i 0, .i 0, .i 0, .i 0, .i 0, .i 0, .i 0]] true 0, .arr 3 cs true 0, .arr 3 es true 0, .arr 11 [.agg aa] true 0] .normal (env50 (.imm .arg 1 rw) (.agg ps) y3 (.i 0) (.ptr 1 0 0 1) y6 y7 y9 (.i (IntKind.i64.wrap (sm - IntKind.i64.wrap (2 * x0)))) (.ptr 4 0 0 1) y13 (.i x0) y21 y22 y23 y41 y42 y43 (.agg ps) (.i (IntKind.i64.wrap ((i : Int) + 1)))) [.arr 11 [.agg ps] true 0, .arr 11 [.agg [.i 0, .i 0, .i 0, .i 0, .i 0, .i 0, .i 0, .i 0, .i 0, .i 0, .i 0]] true 0, .arr 3 cs true 0, .arr 3 es true 0, .arr 11 [.agg aa] true 0] :=
  RunsTo.hin 0 60 [⟨20, 0, .bool true, [.arr 11 [.agg ps] true 0, .arr 11 [.agg [.i 0, .i 0, .i 0, .i 0, .i 0, .i 0, .i 0, .i 0, .i 0, .i 0, .i 0]] true 0, .arr 3 cs true 0, .arr 3 es true 0, .arr 11 [.agg aa] true 0]⟩, ⟨21, 0, .i x0, [.arr 11 [.agg ps] true 0, .arr 11 [.agg [.i 0, .i 0, .i 0, .i 0, .i 0, .i 0, .i 0, .i 0, .i 0, .i 0, .i 0]] true 0, .arr 3 cs true 0, .arr 3 es true 0, .arr 11 [.agg aa] true 0]⟩] fun kf hk => ⟨_, by kernel_rfl, (oB [.arr 11 [.agg ps] true 0, .arr 11 [.agg [.i 0, .i 0, .i 0, .i 0, .i 0, .i 0, .i 0, .i 0, .i 0, .i 0, .i 0]] true 0, .arr 3 cs true 0, .arr 3 es true 0, .arr 11 [.agg aa] true 0] (decide_eq_true g0) (oP [.arr 11 [.agg ps] true 0, .arr 11 [.agg [.i 0, .i 0, .i 0, .i 0, .i 0, .i 0, .i 0, .i 0, .i 0, .i 0, .i 0]] true 0, .arr 3 cs true 0, .arr 3 es true 0, .arr 11 [.agg aa] true 0] g1 .nil))⟩
theorem bo_k_1 (rw ps : List HV) (m : Nat) (cs : List HV) (q : Nat) (es : List HV) (aa : List HV) (sm : Int) (i : Nat) {y3 y6 y7 y9 y13 y15 y21 y22 y23 y41 y42 y43 : HV}(g0 : ¬ ((i : Int) < 11)) : RT polBo 50 (sub [1, 1, 1, 1, 1, 1, 1, 0, 1, 0, 0] B50) (env50 (.imm .arg 1 rw) (.agg ps) y3 (.i 0) (.ptr 1 0 0 1) y6 y7 y9 (.i sm) (.ptr 4 0 0 1) y13 y15 y21 y22 y23 y41 y42 y43 (.agg ps) (.i (i : Int))) [.arr 11 [.agg ps] true 0, .arr 11 [.agg [.i 0, .i 0, .i 0, .i 0, .i 0, .i 0, .i 0, .i 0, .i 0, .i 0, .i 0]] true 0, .arr 3 cs true 0, .arr 3 es true 0, .arr 11 [.agg aa] true 0] (.exit 4) (env50 (.imm .arg 1 rw) (.agg ps) y3 (.i 0) (.ptr 1 0 0 1) y6 y7 y9 (.i sm) (.ptr 4 0 0 1) y13 y15 y21 y22 y23 y41 y42 y43 (.agg ps) (.i (i : Int))) [.arr 11 [.agg ps] true 0, .arr 11 [.agg [.i 0, .i 0, .i 0, .i 0, .i 0, .i 0, .i 0, .i 0, .i 0, .i 0, .i 0]] true 0, .arr 3 cs true 0, .arr 3 es true 0, .arr 11 [.agg aa] true 0] :=
  RunsTo.hin 0 60 [⟨20, 0, .bool false, [.arr 11 [.agg ps] true 0, .arr 11 [.agg [.i 0, .i 0, .i 0, .i 0, .i 0, .i 0, .i 0, .i 0, .i 0, .i 0, .i 0]] true 0, .arr 3 cs true 0, .arr 3 es true 0, .arr 11 [.agg aa] true 0]⟩] fun kf hk => ⟨_, by kernel_rfl, (oB [.arr 11 [.agg ps] true 0, .arr 11 [.agg [.i 0, .i 0, .i 0, .i 0, .i 0, .i 0, .i 0, .i 0, .i 0, .i 0, .i 0]] true 0, .arr 3 cs true 0, .arr 3 es true 0, .arr 11 [.agg aa] true 0] (decide_eq_false g0) .nil)⟩
theorem bo_l_0 (rw ps : List HV) (m : Nat) (cs : List HV) (q : Nat) (es : List HV) (aa : List HV) (sm : Int) {y3 y6 y7 y9 y13 y15 y21 y22 y23 y41 y42 y43 y64 y65 : HV}(g0 : loadV Tp [.arr 11 [.agg ps] true 0, .arr 11 [.agg [.i 0, .i 0, .i 0, .i 0, .i 0, .i 0, .i 0, .i 0, .i 0, .i 0, .i 0]] true 0, .arr 3 cs true 0, .arr 3 es true 0, .arr 11 [.agg aa] true 0] 66 (.ptr 4 0 0 1) = some (.agg aa)) (g1 : storeV Tp [.arr 11 [.agg ps] true 0, .arr 11 [.agg [.i 0, .i 0, .i 0, .i 0, .i 0, .i 0, .i 0, .i 0, .i 0, .i 0, .i 0]] true 0, .arr 3 cs true 0, .arr 3 es true 0, .arr 11 [.agg aa] true 0] 66 (.ptr 1 0 0 1) (.agg aa) = some [.arr 11 [.agg ps] true 0, .arr 11 [.agg aa] true 0, .arr 3 cs true 0, .arr 3 es true 0, .arr 11 [.agg aa] true 0]) : RT polBo 50 (sub [1, 1, 1, 1, 1, 1, 1, 1] B50) (env50 (.imm .arg 1 rw) (.agg ps) y3 (.i 0) (.ptr 1 0 0 1) y6 y7 y9 (.i sm) (.ptr 4 0 0 1) y13 y15 y21 y22 y23 y41 y42 y43 y64 y65) [.arr 11 [.agg ps] true 0, .arr 11 [.agg [.i 0, .i 0, .i 0, .i 0, .i 0, .i 0, .i 0, .i 0, .i 0, .i 0, .i 0]] true 0, .arr 3 cs true 0, .arr 3 es true 0, .arr 11 [.agg aa] true 0] .ret (env50 (.imm .arg 1 rw) (.agg ps) y3 (.i sm) (.ptr 1 0 0 1) y6 y7 y9 (.i sm) (.ptr 4 0 0 1) y13 y15 y21 y22 y23 y41 y42 y43 y64 y65) [.arr 11 [.agg ps] true 0, .arr 11 [.agg aa] true 0, .arr 3 cs true 0, .arr 3 es true 0, .arr 11 [.agg aa] true 0] :=
  RunsTo.hin 0 60 [⟨24, 1, .agg aa, [.arr 11 [.agg ps] true 0, .arr 11 [.agg [.i 0, .i 0, .i 0, .i 0, .i 0, .i 0, .i 0, .i 0, .i 0, .i 0, .i 0]] true 0, .arr 3 cs true 0, .arr 3 es true 0, .arr 11 [.agg aa] true 0]⟩, ⟨24, 3, .tuple [], [.arr 11 [.agg ps] true 0, .arr 11 [.agg aa] true 0, .arr 3 cs true 0, .arr 3 es true 0, .arr 11 [.agg aa] true 0]⟩] fun kf hk => ⟨_, by kernel_rfl, (oP [.arr 11 [.agg ps] true 0, .arr 11 [.agg [.i 0, .i 0, .i 0, .i 0, .i 0, .i 0, .i 0, .i 0, .i 0, .i 0, .i 0]] true 0, .arr 3 cs true 0, .arr 3 es true 0, .arr 11 [.agg aa] true 0] g0 (oS g1 .nil))⟩
end Go.Proofs.Ytlendaofkmhgmaa
end
section
open Go Go.HL Go.HL.So
namespace Go.Proofs.Ytlendaofkmhgmaa
open Go.Proofs.Try renaming prog → Tp
open Go.HL.HV renaming undef → Ud
theorem res50 : Try.f50.results.toList = [.tmp 4, .cell 5 66] := by kernel_rfl
section
variable {d : List (List Int)} {ps : List Int}
theorem pst {H : Heap} {b i : Nat} {t : List Int} (hb : H[b]? = some (pB t)) (ht : t.length = 11) (hi : i < 11) (v : Int) : storeV Tp H 3 (.ptr b 0 i 1) (.int .i64 v) = some (H.set b (pB (t.set i v))) := by
  have := store_cell (P := Tp) (t := 3) (b := b) (i := 0) (off := i) (tot := 1) (v := .int .i64 v) (cs := t.map encI) hb rfl rfl z3 rfl rfl (by simp [bnd]) (by simpa [ht] using hi)
  rw [this]
  show some (H.set b (.arr 11 [.agg ((t.map encI).set i (encI v))] true 0)) = _
  rw [← List.map_set]
theorem pel {t : List Int} {i : Nat} (ht : t.length = 11) (hi : i < 11) : elemV Tp 66 (.agg (t.map encI)) (.int .i64 (i : Int)) = some (.int .i64 (t.getD i 0)) := by
  have := elem_arr (P := Tp) (t := 66) (e := 3) (m := 11) (ik := .i64) (n := (i : Int)) (cs := t.map encI) (v := .int .i64 (t.getD i 0)) u66 z3 a3 i3 (by omega) (by omega) (by rw [Int.toNat_natCast, List.getElem?_map, List.getElem?_eq_getElem (by omega)]; simp [List.getD, List.getElem?_eq_getElem (show i < t.length by omega), encI])
  exact this
theorem pst_all {H : Heap} {b : Nat} {t u : List Int} (hb : H[b]? = some (pB t)) (ht : t.length = 11) (hu : u.length = 11) : storeV Tp H 66 (.ptr b 0 0 1) (.agg (u.map encI)) = some (H.set b (pB u)) := by
  have hc : (u.map encI).all cellV = true := by simp [cellV, encI]
  have := store_agg (P := Tp) (t := 66) (b := b) (i := 0) (tot := 1) (cs := t.map encI) (new := u.map encI) hb rfl rfl (by rw [show tySize Tp 66 = some 11 by kernel_rfl]; simp [hu]) (by simp [ht, hu]) (by simp [hu]) hc (ints_bnd u)
  rw [this]; rfl
abbrev Zs : List Int := List.replicate 11 0
abbrev boH (ps : List Int) (cs es : List Ed) : Heap := [pB ps, pB Zs, bE encE cs, bE encE es]
abbrev boX (ps : List Int) (cs es : List Ed) (e : Ed) : Heap := [pB ps, pB Zs, bE encE cs, bE encE es, .arr 3 [encE e] true 0]
theorem bogc {cs cs2 es : List Ed} {e : Ed} (m w i q : Nat) (y6 : HV) (h6 : bnd y6 ≤ 4) : gc (boH ps cs es).length (bndE (env50 (.imm .arg 1 (d.map encR)) (.agg (ps.map encI)) (.ptr 0 0 0 1) (.int .i64 0) (.ptr 1 0 0 1) y6 (.int .i64 (w : Int)) Ud Ud Ud Ud Ud (.sl 3 0 q none q 3) (.int .i64 (q : Int)) (.int .i64 (i : Int)) Ud Ud Ud Ud Ud)) (boX ps cs2 es e) = boH ps cs2 es := by
  unfold gc
  have : max (boH ps cs es).length (max (bndE (env50 (.imm .arg 1 (d.map encR)) (.agg (ps.map encI)) (.ptr 0 0 0 1) (.int .i64 0) (.ptr 1 0 0 1) y6 (.int .i64 (w : Int)) Ud Ud Ud Ud Ud (.sl 3 0 q none q 3) (.int .i64 (q : Int)) (.int .i64 (i : Int)) Ud Ud Ud Ud Ud)) (mxs (boX ps cs2 es e))) = 4 := by
    have h1 : mxs (boX ps cs2 es e) = 0 := by simp [mxs, Blk.mx, bE]
    have h2 : bndE (env50 (.imm .arg 1 (d.map encR)) (.agg (ps.map encI)) (.ptr 0 0 0 1) (.int .i64 0) (.ptr 1 0 0 1) y6 (.int .i64 (w : Int)) Ud Ud Ud Ud Ud (.sl 3 0 q none q 3) (.int .i64 (q : Int)) (.int .i64 (i : Int)) Ud Ud Ud Ud Ud) ≤ 4 := by
      simp only [bndE, bnd, ints_bnd]; omega
    rw [h1]; show max 4 (max _ 0) = 4; omega
  rw [this]; rfl
theorem bo_two (hd : okD d) {es : List Ed} (he : EIn d.length es) (hq : es.length ≤ 500) : ∀ (k i w : Nat) (cs : List Ed), i + k = es.length → w ≤ 2 → cs.length + k ≤ 700 →
    ∃ y7 y23, RT polBo 50 (sub [1, 1, 1, 0, 1, 0] B50) (env50 (.imm .arg 1 (d.map encR)) (.agg (ps.map encI)) (.ptr 0 0 0 1) (.int .i64 0) (.ptr 1 0 0 1) (.sl 2 0 cs.length none cs.length 3) (.int .i64 (w : Int)) Ud Ud Ud Ud Ud (.sl 3 0 es.length none es.length 3) (.int .i64 (es.length : Int)) (.int .i64 (i : Int)) Ud Ud Ud Ud Ud) (boH ps cs es) (.exit 0)
      (env50 (.imm .arg 1 (d.map encR)) (.agg (ps.map encI)) (.ptr 0 0 0 1) (.int .i64 0) (.ptr 1 0 0 1) (.sl 2 0 (cs ++ two2 w (es.drop i)).length none (cs ++ two2 w (es.drop i)).length 3) y7 Ud Ud Ud Ud Ud (.sl 3 0 es.length none es.length 3) (.int .i64 (es.length : Int)) y23 Ud Ud Ud Ud Ud) (boH ps (cs ++ two2 w (es.drop i)) es) := by
  have hn := hd.1
  intro k
  induction k with
  | zero =>
    intro i w cs hi hw ho
    have : i = es.length := by omega
    subst this
    rw [List.drop_length, two2, List.append_nil]
    exact ⟨_, _, lpo (bo_e_3 (d.map encR) (ps.map encI) cs.length (cs.map encE) es.length (es.map encE) w es.length 0 0 0 (by omega))⟩
  | succ k ih =>
    intro i w cs hi hw ho
    have hdrop : es.drop i = at_ es i :: es.drop (i + 1) := by
      rw [List.drop_eq_getElem_cons (by omega)]
      simp [at_, List.getD, List.getElem?_eq_getElem (show i < es.length by omega)]
    have hmem : at_ es i ∈ es := by
      have : at_ es i = es[i] := by simp [at_, List.getD, List.getElem?_eq_getElem (show i < es.length by omega)]
      rw [this]; exact List.getElem_mem _
    obtain ⟨ec, ea, eb, hae, ha, hb⟩ : ∃ (ec : Int) (ea eb : Nat), at_ es i = mkQ ec ea eb ∧ ea < d.length ∧ eb < d.length := by
      obtain ⟨⟨h1, h2⟩, h3, h4⟩ := he _ hmem
      refine ⟨(at_ es i).1, (at_ es i).2.1.toNat, (at_ es i).2.2.toNat, ?_, h2, h4⟩
      show at_ es i = ((at_ es i).1, _, _)
      rw [Int.toNat_of_nonneg h1, Int.toNat_of_nonneg h3]
    rw [hdrop, hae, two2]
    have hl := lde (H := boH ps cs es) (b := 3) (k := i) (l := es) rfl rfl (by omega)
    rw [hae] at hl
    by_cases c : (ea : Int) = 0
    · by_cases c2 : w < 2
      · have s := bo_e_0 (d.map encR) (ps.map encI) cs.length (cs.map encE) es.length (es.map encE) w i ec ea eb (y9 := Ud) (y10 := Ud) (y11 := Ud) (y13 := Ud) (y15 := Ud) (y41 := Ud) (y42 := Ud) (y43 := Ud) (y64 := Ud) (y65 := Ud) (by omega) (ixe (by omega)) hl c (by omega) (app_Em (H := boX ps cs es (mkQ ec ea eb)) (b := 2) (o := cs) rfl (by omega) (mkQ ec ea eb))
        have hs : cs.map encE ++ [HV.agg [.int .i64 ec, .int .i64 (ea : Int), .int .i64 (eb : Int)]] = (cs ++ [mkQ ec ea eb]).map encE := by simp [encE]
        rw [wrap_succ (by omega), wrap_succ (by omega), hs] at s
        obtain ⟨y7, y23, r⟩ := ih (i + 1) (w + 1) (cs ++ [mkQ ec ea eb]) (by omega) (by omega) (by simp; omega)
        rw [if_pos ⟨c, c2⟩]
        rw [List.append_assoc, show (cs ++ [mkQ ec ea eb]).length = cs.length + 1 by simp] at r
        exact ⟨y7, y23, lop (s) (bogc (cs := cs) (cs2 := cs ++ [mkQ ec ea eb]) (e := mkQ ec ea eb) 0 (w + 1) (i + 1) es.length (.sl 2 0 (cs.length + 1) none (cs.length + 1) 3) (by simp [bnd])) (r)⟩
      · have s := bo_e_1 (d.map encR) (ps.map encI) cs.length (cs.map encE) es.length (es.map encE) w i ec ea eb (y9 := Ud) (y10 := Ud) (y11 := Ud) (y13 := Ud) (y15 := Ud) (y41 := Ud) (y42 := Ud) (y43 := Ud) (y64 := Ud) (y65 := Ud) (by omega) (ixe (by omega)) hl c (by omega)
        rw [wrap_succ (by omega)] at s
        obtain ⟨y7, y23, r⟩ := ih (i + 1) w cs (by omega) (by omega) (by omega)
        rw [if_neg (fun h => c2 h.2)]
        exact ⟨y7, y23, lop (s) (bogc (cs := cs) (cs2 := cs) (e := mkQ ec ea eb) 0 w (i + 1) es.length (.sl 2 0 cs.length none cs.length 3) (by simp [bnd])) (r)⟩
    · have s := bo_e_2 (d.map encR) (ps.map encI) cs.length (cs.map encE) es.length (es.map encE) w i ec ea eb (y9 := Ud) (y10 := Ud) (y11 := Ud) (y13 := Ud) (y15 := Ud) (y41 := Ud) (y42 := Ud) (y43 := Ud) (y64 := Ud) (y65 := Ud) (by omega) (ixe (by omega)) hl c
      rw [wrap_succ (by omega)] at s
      obtain ⟨y7, y23, r⟩ := ih (i + 1) w cs (by omega) (by omega) (by omega)
      rw [if_neg (fun h => c h.1)]
      exact ⟨y7, y23, lop (s) (bogc (cs := cs) (cs2 := cs) (e := mkQ ec ea eb) 0 w (i + 1) es.length (.sl 2 0 cs.length none cs.length 3) (by simp [bnd])) (r)⟩
abbrev boD (ps : List Int) (cs es : List Ed) (t : List Int) : Heap := [pB ps, pB Zs, bE encE cs, bE encE es, pB t]
abbrev boY (ps : List Int) (cs es : List Ed) (t : List Int) (e : Ed) : Heap := [pB ps, pB Zs, bE encE cs, bE encE es, pB t, .arr 3 [encE e] true 0]
theorem bogc2 {cs es : List Ed} {t u : List Int} {e : Ed} {m i : Nat} {s : Int} : gc (boD ps cs es t).length (bndE (env50 (.imm .arg 1 (d.map encR)) (.agg (ps.map encI)) (.ptr 0 0 0 1) (.int .i64 0) (.ptr 1 0 0 1) Ud Ud Ud (.int .i64 s) (.ptr 4 0 0 1) Ud Ud Ud Ud Ud (.sl 2 0 m none m 3) (.int .i64 (m : Int)) (.int .i64 (i : Int)) Ud Ud)) (boY ps cs es u e) = boD ps cs es u := by
  unfold gc
  have : max (boD ps cs es t).length (max (bndE (env50 (.imm .arg 1 (d.map encR)) (.agg (ps.map encI)) (.ptr 0 0 0 1) (.int .i64 0) (.ptr 1 0 0 1) Ud Ud Ud (.int .i64 s) (.ptr 4 0 0 1) Ud Ud Ud Ud Ud (.sl 2 0 m none m 3) (.int .i64 (m : Int)) (.int .i64 (i : Int)) Ud Ud)) (mxs (boY ps cs es u e))) = 5 := by
    have h1 : mxs (boY ps cs es u e) = 0 := by simp [mxs, Blk.mx, bE]
    have h2 : bndE (env50 (.imm .arg 1 (d.map encR)) (.agg (ps.map encI)) (.ptr 0 0 0 1) (.int .i64 0) (.ptr 1 0 0 1) Ud Ud Ud (.int .i64 s) (.ptr 4 0 0 1) Ud Ud Ud Ud Ud (.sl 2 0 m none m 3) (.int .i64 (m : Int)) (.int .i64 (i : Int)) Ud Ud) ≤ 5 := by
      simp only [bndE, bnd, ints_bnd]; omega
    rw [h1]; show max 5 (max _ 0) = 5; omega
  rw [this]; rfl
theorem bo_sum (hd : okD d) {cs es : List Ed} (he : EIn d.length cs) (hc : costOk cs) (hq : cs.length ≤ 500) : ∀ (k i : Nat) (t : List Int) (s : Int), i + k = cs.length → CtB t i → -3000000000 * (i : Int) ≤ s → s ≤ 3000000000 * (i : Int) →
    ∃ y13, RT polBo 50 (sub [1, 1, 1, 1, 1, 1, 0, 1, 0] B50) (env50 (.imm .arg 1 (d.map encR)) (.agg (ps.map encI)) (.ptr 0 0 0 1) (.int .i64 0) (.ptr 1 0 0 1) Ud Ud Ud (.int .i64 s) (.ptr 4 0 0 1) Ud Ud Ud Ud Ud (.sl 2 0 cs.length none cs.length 3) (.int .i64 (cs.length : Int)) (.int .i64 (i : Int)) Ud Ud) (boD ps cs es t) (.exit 2)
      (env50 (.imm .arg 1 (d.map encR)) (.agg (ps.map encI)) (.ptr 0 0 0 1) (.int .i64 0) (.ptr 1 0 0 1) Ud Ud Ud (.int .i64 (sumA (cs.drop i) s)) (.ptr 4 0 0 1) y13 Ud Ud Ud Ud (.sl 2 0 cs.length none cs.length 3) (.int .i64 (cs.length : Int)) (.int .i64 (cs.length : Int)) Ud Ud) (boD ps cs es ((cs.drop i).foldl dstep t)) := by
  have hn := hd.1
  intro k
  induction k with
  | zero =>
    intro i t s hi hb h1 h2
    have : i = cs.length := by omega
    subst this
    rw [List.drop_length]
    exact ⟨_, lpo (bo_i_1 (d.map encR) (ps.map encI) cs.length (cs.map encE) es.length (es.map encE) (t.map encI) s cs.length 0 0 0 (by omega))⟩
  | succ k ih =>
    intro i t s hi hb h1 h2
    have hdrop : cs.drop i = at_ cs i :: cs.drop (i + 1) := by
      rw [List.drop_eq_getElem_cons (by omega)]
      simp [at_, List.getD, List.getElem?_eq_getElem (show i < cs.length by omega)]
    have hmem : at_ cs i ∈ cs := by
      have : at_ cs i = cs[i] := by simp [at_, List.getD, List.getElem?_eq_getElem (show i < cs.length by omega)]
      rw [this]; exact List.getElem_mem _
    have hco := hc _ hmem
    obtain ⟨ec, ea, eb, hae, ha, hbb⟩ : ∃ (ec : Int) (ea eb : Nat), at_ cs i = mkQ ec ea eb ∧ ea < d.length ∧ eb < d.length := by
      obtain ⟨⟨h1, h2⟩, h3, h4⟩ := he _ hmem
      refine ⟨(at_ cs i).1, (at_ cs i).2.1.toNat, (at_ cs i).2.2.toNat, ?_, h2, h4⟩
      show at_ cs i = ((at_ cs i).1, _, _)
      rw [Int.toNat_of_nonneg h1, Int.toNat_of_nonneg h3]
    rw [hae] at hco
    simp only at hco
    rw [hdrop, hae]
    have hl := lde (H := boD ps cs es t) (b := 2) (k := i) (l := cs) rfl rfl (by omega)
    rw [hae] at hl
    have b1 := hb.2 ea (by omega)
    have hb1 : ∀ x, x < 11 → 0 ≤ (t.set ea (t.getD ea 0 + 1)).getD x 0 ∧ (t.set ea (t.getD ea 0 + 1)).getD x 0 ≤ 2 * (i : Int) + 1 := fun x hx => by
      rw [getDs _ _ _ _ (by rw [hb.1]; omega)]
      have := hb.2 x hx
      split <;> omega
    have b2 := hb1 eb (by omega)
    have hst := hb.step (e := mkQ ec ea eb) (by show ((ea : Int)).toNat < 11; omega) (by show ((eb : Int)).toNat < 11; omega)
    have w1 : IntKind.i64.wrap (t.getD ea 0 + 1) = t.getD ea 0 + 1 := wrap_id (by omega) (by omega)
    have w2 : IntKind.i64.wrap ((t.set ea (t.getD ea 0 + 1)).getD eb 0 + 1) = (t.set ea (t.getD ea 0 + 1)).getD eb 0 + 1 := wrap_id (by omega) (by omega)
    have w3 : IntKind.i64.wrap (s + ec) = s + ec := wrap_id (by omega) (by omega)
    have st1 := pst (H := boY ps cs es t (mkQ ec ea eb)) (b := 4) (i := ea) rfl hb.1 (by omega) (t.getD ea 0 + 1)
    have st2 := pst (H := boY ps cs es (t.set ea (t.getD ea 0 + 1)) (mkQ ec ea eb)) (b := 4) (i := eb) rfl (by simp [hb.1]) (by omega) ((t.set ea (t.getD ea 0 + 1)).getD eb 0 + 1)
    have sb := bo_i_0 (d.map encR) (ps.map encI) cs.length (cs.map encE) es.length (es.map encE) (t.map encI) s i ec ea eb (y6 := Ud) (y7 := Ud) (y9 := Ud) (y13 := Ud) (y15 := Ud) (y21 := Ud) (y22 := Ud) (y23 := Ud) (y64 := Ud) (y65 := Ud) (by omega) (ixe (by omega)) hl (px (H := []) (by omega)) (pl_at (H := boY ps cs es t (mkQ ec ea eb)) (b := 4) (ps := t) rfl hb.1 (by omega)) (px (H := []) (by omega)) (by rw [w1]; exact st1) (px (H := []) (by omega))
      (pl_at (H := boY ps cs es (t.set ea (t.getD ea 0 + 1)) (mkQ ec ea eb)) (b := 4) (ps := t.set ea (t.getD ea 0 + 1)) rfl (by simp [hb.1]) (by omega)) (px (H := []) (by omega)) (by rw [w2]; exact st2)
    rw [wrap_succ (by omega), w3] at sb
    obtain ⟨y13, r⟩ := ih (i + 1) (dstep t (mkQ ec ea eb)) (s + ec) (by omega) hst (by omega) (by omega)
    refine ⟨y13, lop sb (bogc2 (d := d) (ps := ps) (cs := cs) (es := es) (t := t) (u := dstep t (mkQ ec ea eb)) (e := mkQ ec ea eb) (m := cs.length) (i := i + 1) (s := s + ec)) r⟩
theorem bo_pr (hp : Small ps) {cs es : List Ed} {t : List Int} {y3 y41 y42 y43 : HV} : ∀ (k i : Nat) (s : Int), i + k = 11 → -10000000000000 - 2000000000 * (i : Int) ≤ s → s ≤ 10000000000000 + 2000000000 * (i : Int) →
    ∃ y15, RT polBo 50 (sub [1, 1, 1, 1, 1, 1, 1, 0, 1, 0] B50) (env50 (.imm .arg 1 (d.map encR)) (.agg (ps.map encI)) Ud (.int .i64 0) (.ptr 1 0 0 1) Ud Ud Ud (.int .i64 s) (.ptr 4 0 0 1) Ud Ud Ud Ud Ud Ud Ud Ud (.agg (ps.map encI)) (.int .i64 (i : Int))) (boD ps cs es t) (.exit 4)
      (env50 (.imm .arg 1 (d.map encR)) (.agg (ps.map encI)) Ud (.int .i64 0) (.ptr 1 0 0 1) Ud Ud Ud (.int .i64 (sumP (ps.drop i) s)) (.ptr 4 0 0 1) Ud y15 Ud Ud Ud Ud Ud Ud (.agg (ps.map encI)) (.int .i64 (11 : Int))) (boD ps cs es t) := by
  intro k
  induction k with
  | zero =>
    intro i s hi h1 h2
    have : i = 11 := by omega
    subst this
    rw [List.drop_of_length_le (by rw [hp.1]; omega)]
    exact ⟨_, lpo (bo_k_1 (d.map encR) (ps.map encI) cs.length (cs.map encE) es.length (es.map encE) (t.map encI) s 11 (by omega))⟩
  | succ k ih =>
    intro i s hi h1 h2
    have hl := hp.1
    have b := hp.at (i := i) (by omega)
    have hdrop : ps.drop i = ps.getD i 0 :: ps.drop (i + 1) := by
      rw [List.drop_eq_getElem_cons (by omega)]
      simp [List.getD, List.getElem?_eq_getElem (show i < ps.length by omega)]
    rw [hdrop]
    have w1 : IntKind.i64.wrap (2 * ps.getD i 0) = 2 * ps.getD i 0 := wrap_id (by omega) (by omega)
    have w2 : IntKind.i64.wrap (s - 2 * ps.getD i 0) = s - 2 * ps.getD i 0 := wrap_id (by omega) (by omega)
    have sb := bo_k_0 (d.map encR) (ps.map encI) cs.length (cs.map encE) es.length (es.map encE) (t.map encI) s i (y3 := Ud) (y6 := Ud) (y7 := Ud) (y9 := Ud) (y13 := Ud) (y15 := Ud) (y21 := Ud) (y22 := Ud) (y23 := Ud) (y41 := Ud) (y42 := Ud) (y43 := Ud) (by omega) (pel hl (by omega))
    rw [wrap_succ (by omega), w1, w2] at sb
    obtain ⟨y15, r⟩ := ih (i + 1) (s - 2 * ps.getD i 0) (by omega) (by omega) (by omega)
    exact ⟨y15, lop sb (gc_eq _ rfl) r⟩
end
theorem toRes_bd {H : Heap} {s : Int} {t : List Int} : toRes H false (.tuple [.int .i64 s, .agg (t.map encI)]) = some (.tuple [.int .i64 s, .agg (t.map encI)]) := by
  have hm : mapO (resCell H [] false) (t.map encI) = some (t.map encI) := mapO_self (f := resCell H [] false) (g := encI) (fun _ => rfl) t
  have ho : ownedAll H false (.tuple [.int .i64 s, .agg (t.map encI)]) = [] := by
    have h1 : ∀ l : List Int, (l.map encI).flatMap (owned H false) = [] := fun l => by
      rw [List.flatMap_eq_nil_iff]
      intro v hv
      obtain ⟨k, _, rfl⟩ := List.mem_map.1 hv
      rfl
    simp only [ownedAll, List.flatMap_cons, List.flatMap_nil, cellsOf, h1]
    rfl
  simp only [toRes, ho, List.nodup_nil, if_true, mapO, resVal, hm]
  rfl
theorem degs_ok {d : List (List Int)} (hd : okD d) : ∀ (l : List Ed) (t : List Int) (k : Nat), EIn d.length l → CtB t k → (l.foldl dstep t).length = 11
  | [], t, k, _, h => h.1
  | e :: l, t, k, he, h => by
    have hn := hd.1
    obtain ⟨⟨_, h2⟩, _, h4⟩ := he e (by simp)
    rw [List.foldl_cons]
    exact degs_ok hd l _ (k + 1) (fun x hx => he x (by simp [hx])) (h.step (by omega) (by omega))
theorem bound_ok : PrimOk Tp 50 bound50 := by
  refine primOk_pure (pol := polBo) (fn := Try.f50) (cd := B50) follows_mixed soundBo (by kernel_rfl) (by kernel_rfl) (fnok polBo.prim _ _ (by kernel_rfl)) (by kernel_rfl) ?_
  intro args res h
  unfold bound50 at h
  split at h
  · rename_i rw pv
    split at h
    · rename_i d ps hR hP
      rw [mapO_inv decR_inv hR, mapO_inv decI_inv hP]
      split at h
      · rename_i hc
        obtain ⟨hd, hp⟩ := hc
        cases h
        have hn := hd.1
        have s0 := bo_a_0 (d.map encR) (ps.map encI) (box_p hp.1)
        have s1 := bo_b_0 (d.map encR) (ps.map encI) (y6 := Ud) (y7 := Ud) (y9 := Ud) (y10 := Ud) (y11 := Ud) (y13 := Ud) (y15 := Ud) (y21 := Ud) (y22 := Ud) (y23 := Ud) (y41 := Ud) (y42 := Ud) (y43 := Ud) (y64 := Ud) (y65 := Ud) (pl_all (b := 0) rfl hp.1) (q61 (pol' := polBo) (f := 1) (by kernel_rfl) hd (by omega) hp _ (arg_rw _ d))
        have s2 := bo_c_0 (d.map encR) (ps.map encI) (treeL d ps 1).length ((treeL d ps 1).map encE) (y7 := Ud) (y9 := Ud) (y10 := Ud) (y11 := Ud) (y13 := Ud) (y15 := Ud) (y21 := Ud) (y22 := Ud) (y23 := Ud) (y41 := Ud) (y42 := Ud) (y43 := Ud) (y64 := Ud) (y65 := Ud)
        have s3 := bo_d_0 (d.map encR) (ps.map encI) (treeL d ps 1).length ((treeL d ps 1).map encE) (y9 := Ud) (y10 := Ud) (y11 := Ud) (y13 := Ud) (y15 := Ud) (y21 := Ud) (y22 := Ud) (y23 := Ud) (y41 := Ud) (y42 := Ud) (y43 := Ud) (y64 := Ud) (y65 := Ud) (pl_all (b := 0) rfl hp.1) (q70 (pol' := polBo) (f := 0) (by kernel_rfl) hd (by omega) hp _ (arg_rw _ d))
        have hel := edg_len (ps := ps) (f := 0) hd (by omega)
        have hcl := chosen_len (ps := ps) hd
        have htl : (treeL d ps 1).length ≤ 123 := by unfold chosen at hcl; rw [List.length_append] at hcl; omega
        obtain ⟨y7, y23, r1⟩ := bo_two (ps := ps) hd (edg_in (ps := ps) (f := 0) (by omega)) (by omega) (edg d ps 0).length 0 0 (treeL d ps 1) (by omega) (by omega) (by omega)
        rw [List.drop_zero, show treeL d ps 1 ++ two2 0 (edg d ps 0) = chosen d ps from rfl] at r1
        have s4 := bo_f_0 (d.map encR) (ps.map encI) (chosen d ps).length ((chosen d ps).map encE) (edg d ps 0).length ((edg d ps 0).map encE) (y9 := Ud) (y10 := Ud) (y11 := Ud) (y13 := Ud) (y15 := Ud) (y41 := Ud) (y42 := Ud) (y43 := Ud) (y64 := Ud) (y65 := Ud) (y7 := y7) (y21 := .sl 3 0 (edg d ps 0).length none (edg d ps 0).length 3) (y22 := .int .i64 ((edg d ps 0).length : Int)) (y23 := y23)
        have s5 := bo_g_0 (d.map encR) (ps.map encI) (chosen d ps).length ((chosen d ps).map encE) (edg d ps 0).length ((edg d ps 0).map encE) (y9 := Ud) (y11 := Ud) (y13 := Ud) (y15 := Ud) (y41 := Ud) (y42 := Ud) (y43 := Ud) (y64 := Ud) (y65 := Ud) (y7 := y7) (y21 := .sl 3 0 (edg d ps 0).length none (edg d ps 0).length 3) (y22 := .int .i64 ((edg d ps 0).length : Int)) (y23 := y23)
        have s6 := bo_h_0 (d.map encR) (ps.map encI) (chosen d ps).length ((chosen d ps).map encE) (edg d ps 0).length ((edg d ps 0).map encE) (Zs.map encI) (y9 := Ud) (y13 := Ud) (y15 := Ud) (y41 := Ud) (y42 := Ud) (y43 := Ud) (y64 := Ud) (y65 := Ud) (y7 := y7) (y21 := .sl 3 0 (edg d ps 0).length none (edg d ps 0).length 3) (y22 := .int .i64 ((edg d ps 0).length : Int)) (y23 := y23)
        obtain ⟨y13, r2⟩ := bo_sum (ps := ps) (es := edg d ps 0) hd (chosen_in (ps := ps) hd) (chosen_cost hd hp) (by omega) (chosen d ps).length 0 Zs 0 (by omega) CtB.zero (by omega) (by omega)
        rw [List.drop_zero] at r2
        have hsb : ∀ (l : List Ed) (s : Int) (k : Nat), costOk l → -3000000000 * (k : Int) ≤ s → s ≤ 3000000000 * (k : Int) → -3000000000 * ((k + l.length : Nat) : Int) ≤ sumA l s ∧ sumA l s ≤ 3000000000 * ((k + l.length : Nat) : Int) := by
          intro l
          induction l with
          | nil => intro s k _ h1 h2; exact ⟨by simpa [sumA] using h1, by simpa [sumA] using h2⟩
          | cons e l ih =>
            intro s k hc h1 h2
            have h3 := hc e (by simp)
            have := ih (s + e.1) (k + 1) (fun x hx => hc x (by simp [hx])) (by omega) (by omega)
            rw [List.length_cons, show k + (l.length + 1) = k + 1 + l.length by omega]
            exact this
        have hsum := hsb (chosen d ps) 0 0 (chosen_cost hd hp) (by omega) (by omega)
        have htl2 := degs_ok hd (chosen d ps) Zs 0 (chosen_in hd) CtB.zero
        have edg' : (chosen d ps).foldl dstep Zs = degs (chosen d ps) := rfl
        rw [edg'] at htl2 r2
        generalize hsA : sumA (chosen d ps) 0 = sA at hsum r2
        have s7 := bo_j_0 (d.map encR) (ps.map encI) (chosen d ps).length ((chosen d ps).map encE) (edg d ps 0).length ((edg d ps 0).map encE) ((degs (chosen d ps)).map encI) sA (y6 := Ud) (y7 := Ud) (y9 := Ud) (y15 := Ud) (y21 := Ud) (y22 := Ud) (y23 := Ud) (y64 := Ud) (y65 := Ud) (y13 := y13) (y41 := .sl 2 0 (chosen d ps).length none (chosen d ps).length 3) (y42 := .int .i64 ((chosen d ps).length : Int)) (y43 := .int .i64 ((chosen d ps).length : Int)) (pl_all (b := 0) rfl hp.1)
        obtain ⟨y15, r3⟩ := bo_pr (d := d) hp (cs := chosen d ps) (es := edg d ps 0) (t := degs (chosen d ps)) (y3 := Ud) (y41 := Ud) (y42 := Ud) (y43 := Ud) 11 0 sA rfl (by omega) (by omega)
        rw [List.drop_zero] at r3
        have eb : sumP ps sA = boundS d ps := by rw [← hsA]; rfl
        rw [eb] at r3
        have s8 := bo_l_0 (d.map encR) (ps.map encI) (chosen d ps).length ((chosen d ps).map encE) (edg d ps 0).length ((edg d ps 0).map encE) ((degs (chosen d ps)).map encI) (boundS d ps) (y3 := Ud) (y6 := Ud) (y7 := Ud) (y9 := Ud) (y13 := Ud) (y21 := Ud) (y22 := Ud) (y23 := Ud) (y41 := Ud) (y42 := Ud) (y43 := Ud) (y15 := y15) (y64 := .agg (ps.map encI)) (y65 := .int .i64 ((11 : Nat) : Int)) (pl_all (b := 4) (ps := degs (chosen d ps)) rfl htl2) (pst_all (H := boD ps (chosen d ps) (edg d ps 0) (degs (chosen d ps))) (b := 1) (t := Zs) rfl rfl htl2)
        have r1' := lpi (e0 := (env50 (.imm .arg 1 (d.map encR)) (.agg (ps.map encI)) (.ptr 0 0 0 1) (.int .i64 0) (.ptr 1 0 0 1) (.sl 2 0 (treeL d ps 1).length none (treeL d ps 1).length 3) (.int .i64 0) Ud Ud Ud Ud Ud (.sl 3 0 (edg d ps 0).length none (edg d ps 0).length 3) (.int .i64 ((edg d ps 0).length : Int)) (.int .i64 0) Ud Ud Ud Ud Ud)) r1 (b := sub [1, 1, 1, 0, 1, 0, 0] B50)
        have r2' := lpi (e0 := (env50 (.imm .arg 1 (d.map encR)) (.agg (ps.map encI)) (.ptr 0 0 0 1) (.int .i64 0) (.ptr 1 0 0 1) (.sl 2 0 (chosen d ps).length none (chosen d ps).length 3) y7 Ud (.int .i64 0) (.ptr 4 0 0 1) Ud Ud (.sl 3 0 (edg d ps 0).length none (edg d ps 0).length 3) (.int .i64 ((edg d ps 0).length : Int)) y23 (.sl 2 0 (chosen d ps).length none (chosen d ps).length 3) (.int .i64 ((chosen d ps).length : Int)) (.int .i64 0) Ud Ud)) r2 (b := sub [1, 1, 1, 1, 1, 1, 0, 1, 0, 0] B50)
        have r3' := lpi (e0 := (env50 (.imm .arg 1 (d.map encR)) (.agg (ps.map encI)) (.ptr 0 0 0 1) (.int .i64 0) (.ptr 1 0 0 1) Ud Ud Ud (.int .i64 sA) (.ptr 4 0 0 1) y13 Ud Ud Ud Ud (.sl 2 0 (chosen d ps).length none (chosen d ps).length 3) (.int .i64 ((chosen d ps).length : Int)) (.int .i64 ((chosen d ps).length : Int)) (.agg (ps.map encI)) (.int .i64 0))) r3 (b := sub [1, 1, 1, 1, 1, 1, 1, 0, 1, 0, 0] B50)
        have t := sq (s0) (sq (s1) (sq (s2) (sq (sq (s3) (bke (c := sub [1, 1, 1, 0, 1] B50) (r1')) (c := sub [1, 1, 1, 0] B50)) (sq (s4) (sq (s5) (sq (sq (s6) (bke (c := sub [1, 1, 1, 1, 1, 1, 0, 1] B50) (r2')) (c := sub [1, 1, 1, 1, 1, 1, 0] B50)) (sq (sq (s7) (bke (c := sub [1, 1, 1, 1, 1, 1, 1, 0, 1] B50) (r3')) (c := sub [1, 1, 1, 1, 1, 1, 1, 0] B50)) (s8) (c := sub [1, 1, 1, 1, 1, 1, 1] B50)) (c := sub [1, 1, 1, 1, 1, 1] B50)) (c := sub [1, 1, 1, 1, 1] B50)) (c := sub [1, 1, 1, 1] B50)) (c := sub [1, 1, 1] B50)) (c := sub [1, 1] B50)) (c := sub [1] B50)) (c := B50)
        refine ⟨_, _, _, .tuple [.int .i64 (boundS d ps), .agg ((degs (chosen d ps)).map encI)], t, by simp, ?_, toRes_bd⟩
        have hr := pl_all (H := [pB ps, pB (degs (chosen d ps)), bE encE (chosen d ps), bE encE (edg d ps 0), pB (degs (chosen d ps))]) (b := 1) rfl htl2
        have hr2 : loadV Tp [.arr 11 [.agg (ps.map encI)] true 0, .arr 11 [.agg ((degs (chosen d ps)).map encI)] true 0, .arr 3 ((chosen d ps).map encE) true 0, .arr 3 ((edg d ps 0).map encE) true 0, .arr 11 [.agg ((degs (chosen d ps)).map encI)] true 0] 66 (.ptr 1 0 0 1) = some (.agg ((degs (chosen d ps)).map encI)) := hr
        simp [resultsV, res50, mapO, resultV, env50, Env.get]
        rw [hr2]
      · cases h
    · cases h
  · cases h
end Go.Proofs.Ytlendaofkmhgmaa
end
section
open Go Go.HL Go.HL.So
namespace Go.Proofs.Ytlendaofkmhgmaa
def pad (l : List Int) : List Int := l ++ List.replicate (11 - l.length) 0
def prOk (l : List Int) : Prop := ∀ v ∈ l, -10000 ≤ v ∧ v ≤ 10000
def bndT (d : List (List Int)) (l : List Int) : Int := if d.length < 3 then 2 * at2 d 0 (d.length - 1) else boundS d (pad l)
theorem pad_len {l : List Int} (h : l.length ≤ 11) : (pad l).length = 11 := by simp [pad]; omega
theorem pad_small {l : List Int} (h : l.length ≤ 11) (hp : prOk l) : Small (pad l) := by
  refine ⟨pad_len h, fun x hx => ?_⟩
  rcases List.mem_append.1 hx with hx | hx
  · have := hp x hx; omega
  · have := (List.mem_replicate.1 hx).2; omega
end Go.Proofs.Ytlendaofkmhgmaa
end
section
open Go Go.HL Go.HL.So
namespace Go.Proofs.Ytlendaofkmhgmaa
open Go.Proofs.Try renaming prog → Tp
open Go.HL.HV renaming undef → Ud
theorem q50 {pol' : Pol} (hp : pol'.prim 50 = some bound50) {d : List (List Int)} {ps : List Int} {v : HV} (hd : okD d) (hs : Small ps) (H : Heap) (hv : toArg H 6 v = some (.imm .arg 1 (d.map encR))) :
    ∀ kf, callN Tp pol' (kf + 1) 50 [v, .agg (ps.map encI)] H = some (.tuple [.int .i64 (boundS d ps), .agg ((degs (chosen d ps)).map encI)], H) := fun kf => by
  rw [prim_call (pol := pol') (g := 50) (F := bound50) hp (rs := [.imm .arg 1 (d.map encR), .agg (ps.map encI)]) (by simp only [mapO, hv, arg_agg]) (res := .tuple [.int .i64 (boundS d ps), .agg ((degs (chosen d ps)).map encI)]) (by simp only [bound50, mapO_map decR_enc, mapO_map decI_enc]; rw [if_pos ⟨hd, hs⟩])]
  have hc : ∀ (l : List Int) (H : Heap), recvCells (l.map encI) H = (l.map encI, H) := fun l => by
    induction l with
    | nil => intro H; rfl
    | cons x l ih => intro H; simp only [List.map_cons, recvCells, ih, encI, recvCell]
  simp only [recv, recvVals, recvVal, hc, recvCell]
end Go.Proofs.Ytlendaofkmhgmaa
end
section
open Go Go.HL
namespace Go.Proofs.Ytlendaofkmhgmaa
set_option maxRecDepth 100000
open Go.Proofs.Try renaming prog → Tp
open Go.HL.HV renaming undef → Ud
noncomputable def B66 : Code := Try.f66.body.getD .skip
abbrev env66 (v0 v1 v2 v6 v7 v8 v9 v10 v11 v12 : HV) : Env := [(0, v0), (1, v1), (2, v2), (6, v6), (7, v7), (8, v8), (9, v9), (10, v10), (11, v11), (12, v12)]
theorem rde_a_0 (rw la : List HV) (f : Int)  : RT polW 66 (sub [0] B66) [(0, .imm .arg 1 rw), (1, .imm .arg 1 la), (2, .i f)] [] .normal (env66 (.imm .arg 1 rw) (.imm .arg 1 la) (.i f) (.imm .lit 3 []) Ud Ud Ud Ud Ud Ud) [] :=
  RunsTo.hin 0 60 [] fun kf hk => ⟨_, by kernel_rfl, .nil⟩
theorem rde_b_0 (rw la : List HV) (f : Int)  {y7 y8 y9 y10 y11 y12 : HV} : RT polW 66 (sub [1, 0] B66) (env66 (.imm .arg 1 rw) (.imm .arg 1 la) (.i f) (.imm .lit 3 []) y7 y8 y9 y10 y11 y12) [] .normal (env66 (.imm .arg 1 rw) (.imm .arg 1 la) (.i f) (.imm .lit 3 []) (.sl 0 0 0 none 0 3) y8 y9 y10 y11 y12) [.arr 3 [] true 0] :=
  RunsTo.hin 0 60 [] fun kf hk => ⟨_, by kernel_rfl, .nil⟩
theorem rde_c_0 (rw la : List HV) (f : Int) (H : Heap) (b m : Nat)  {y8 y9 y10 y11 y12 : HV} : RT polW 66 (sub [1, 1, 0, 0] B66) (env66 (.imm .arg 1 rw) (.imm .arg 1 la) (.i f) (.imm .lit 3 []) (.sl b 0 m none m 3) y8 y9 y10 y11 y12) H .normal (env66 (.imm .arg 1 rw) (.imm .arg 1 la) (.i f) (.imm .lit 3 []) (.sl b 0 m none m 3) (.i f) y9 y10 y11 y12) H :=
  RunsTo.hin 0 60 [] fun kf hk => ⟨_, by kernel_rfl, .nil⟩
theorem rde_d_0 (rw la : List HV) (f : Int) (H : Heap) (b m : Nat) (i : Nat) {y9 y10 y11 y12 : HV}(g0 : (i : Int) < (rw.length : Int)) : RT polW 66 (sub [1, 1, 0, 1, 0, 0, 0] B66) (env66 (.imm .arg 1 rw) (.imm .arg 1 la) (.i f) (.imm .lit 3 []) (.sl b 0 m none m 3) (.i (i : Int)) y9 y10 y11 y12) H .normal (env66 (.imm .arg 1 rw) (.imm .arg 1 la) (.i f) (.imm .lit 3 []) (.sl b 0 m none m 3) (.i (i : Int)) y9 y10 y11 y12) H :=
  RunsTo.hin 0 60 [⟨3, 3, .bool true, H⟩] fun kf hk => ⟨_, by kernel_rfl, (oB H (decide_eq_true g0) .nil)⟩
theorem rde_d_1 (rw la : List HV) (f : Int) (H : Heap) (b m : Nat) (i : Nat) {y9 y10 y11 y12 : HV}(g0 : ¬ ((i : Int) < (rw.length : Int))) : RT polW 66 (sub [1, 1, 0, 1, 0, 0, 0] B66) (env66 (.imm .arg 1 rw) (.imm .arg 1 la) (.i f) (.imm .lit 3 []) (.sl b 0 m none m 3) (.i (i : Int)) y9 y10 y11 y12) H (.exit 0) (env66 (.imm .arg 1 rw) (.imm .arg 1 la) (.i f) (.imm .lit 3 []) (.sl b 0 m none m 3) (.i (i : Int)) y9 y10 y11 y12) H :=
  RunsTo.hin 0 60 [⟨3, 3, .bool false, H⟩] fun kf hk => ⟨_, by kernel_rfl, (oB H (decide_eq_false g0) .nil)⟩
theorem rde_e_0 (rw la : List HV) (f : Int) (H : Heap) (b m : Nat) (i : Nat) {y9 y10 y11 y12 : HV} : RT polW 66 (sub [1, 1, 0, 1, 0, 0, 1, 0, 0, 0] B66) (env66 (.imm .arg 1 rw) (.imm .arg 1 la) (.i f) (.imm .lit 3 []) (.sl b 0 m none m 3) (.i (i : Int)) y9 y10 y11 y12) H .normal (env66 (.imm .arg 1 rw) (.imm .arg 1 la) (.i f) (.imm .lit 3 []) (.sl b 0 m none m 3) (.i (i : Int)) (.i (IntKind.i64.wrap ((i : Int) + 1))) y10 y11 y12) H :=
  RunsTo.hin 0 60 [] fun kf hk => ⟨_, by kernel_rfl, .nil⟩
theorem rde_f_0 (rw la : List HV) (f : Int) (H : Heap) (b m : Nat) (i j : Nat) {y10 y11 y12 : HV}(g0 : (j : Int) < (rw.length : Int)) : RT polW 66 (sub [1, 1, 0, 1, 0, 0, 1, 0, 0, 1, 0, 0, 0] B66) (env66 (.imm .arg 1 rw) (.imm .arg 1 la) (.i f) (.imm .lit 3 []) (.sl b 0 m none m 3) (.i (i : Int)) (.i (j : Int)) y10 y11 y12) H .normal (env66 (.imm .arg 1 rw) (.imm .arg 1 la) (.i f) (.imm .lit 3 []) (.sl b 0 m none m 3) (.i (i : Int)) (.i (j : Int)) y10 y11 y12) H :=
  RunsTo.hin 0 60 [⟨6, 3, .bool true, H⟩] fun kf hk => ⟨_, by kernel_rfl, (oB H (decide_eq_true g0) .nil)⟩
theorem rde_f_1 (rw la : List HV) (f : Int) (H : Heap) (b m : Nat) (i j : Nat) {y10 y11 y12 : HV}(g0 : ¬ ((j : Int) < (rw.length : Int))) : RT polW 66 (sub [1, 1, 0, 1, 0, 0, 1, 0, 0, 1, 0, 0, 0] B66) (env66 (.imm .arg 1 rw) (.imm .arg 1 la) (.i f) (.imm .lit 3 []) (.sl b 0 m none m 3) (.i (i : Int)) (.i (j : Int)) y10 y11 y12) H (.exit 2) (env66 (.imm .arg 1 rw) (.imm .arg 1 la) (.i f) (.imm .lit 3 []) (.sl b 0 m none m 3) (.i (i : Int)) (.i (j : Int)) y10 y11 y12) H :=
  RunsTo.hin 0 60 [⟨6, 3, .bool false, H⟩] fun kf hk => ⟨_, by kernel_rfl, (oB H (decide_eq_false g0) .nil)⟩
theorem rde_g_0 (rw la : List HV) (f : Int) (H : Heap) (b m : Nat) (i j c : Nat) {y10 y11 y12 : HV} {l0 : List HV} {x0 : Int} {x1 : Int} {x2 : Int} {H0 : Heap} {H1 : Heap} (g0 : idxV Tp 22 (.imm .arg 1 rw) (.i (i : Int)) = some (.vptr (.imm .arg 1 l0))) (g1 : idxV Tp 23 (.imm .arg 1 l0) (.i (j : Int)) = some (.vptr (.i x0))) (g2 : idxV Tp 23 (.imm .arg 1 la) (.i (i : Int)) = some (.vptr (.i x1))) (g3 : idxV Tp 23 (.imm .arg 1 la) (.i (j : Int)) = some (.vptr (.i x2))) (g4 : some (newV (.agg [.i 0, .i 0, .i 0]) H) = some (.ptr c 0 0 1, H0)) (g5 : storeV Tp H0 73 (.ptr c 0 0 1) (.agg [.i (i : Int), .i (j : Int), .i (IntKind.i64.wrap (IntKind.i64.wrap (x0 + x1) + x2))]) = some H1) (gS8 : ((same (.imm .arg 1 l0) (.imm .arg 1 l0) && sameH (H : Heap) H && sameH (H0 : Heap) H0) && ((same (.i x0) (.i x0) && sameH (H : Heap) H && sameH (H0 : Heap) H0) && ((same (.i x1) (.i x1) && sameH (H : Heap) H && sameH (H0 : Heap) H0) && ((same (.i x2) (.i x2) && sameH (H : Heap) H && sameH (H0 : Heap) H0) && true)))) = true) : RT polW 66 (sub [1, 1, 0, 1, 0, 0, 1, 0, 0, 1, 0, 0, 1, 0, 0, 0] B66) (env66 (.imm .arg 1 rw) (.imm .arg 1 la) (.i f) (.imm .lit 3 []) (.sl b 0 m none m 3) (.i (i : Int)) (.i (j : Int)) y10 y11 y12) H .normal (env66 (.imm .arg 1 rw) (.imm .arg 1 la) (.i f) (.imm .lit 3 []) (.sl b 0 m none m 3) (.i (i : Int)) (.i (j : Int)) (.ptr c 0 0 1) y11 y12) H1 :=
  RunsTo.hin 0 60 [⟨8, 4, .vptr (.imm .arg 1 l0), H⟩, ⟨8, 7, .vptr (.i x0), H⟩, ⟨8, 11, .vptr (.i x1), H⟩, ⟨8, 16, .vptr (.i x2), H⟩, ⟨8, 20, .ptr c 0 0 1, H0⟩, ⟨8, 21, .tuple [], H1⟩] fun kf hk => ⟨_, by kernel_rfl, (oC (gS8) (oP H g0 (oP H g1 (oP H g2 (oP H g3 (oC (g4) (oS g5 .nil)))))))⟩
theorem rde_h_0 (rw la : List HV) (f : Int) (H : Heap) (b m : Nat) (i j c : Nat) {y11 y12 : HV} : RT polW 66 (sub [1, 1, 0, 1, 0, 0, 1, 0, 0, 1, 0, 0, 1, 0, 0, 1, 0] B66) (env66 (.imm .arg 1 rw) (.imm .arg 1 la) (.i f) (.imm .lit 3 []) (.sl b 0 m none m 3) (.i (i : Int)) (.i (j : Int)) (.ptr c 0 0 1) y11 y12) H .normal (env66 (.imm .arg 1 rw) (.imm .arg 1 la) (.i f) (.imm .lit 3 []) (.sl b 0 m none m 3) (.i (i : Int)) (.i (j : Int)) (.ptr c 0 0 1) (.i 0) y12) H :=
  RunsTo.hin 0 60 [] fun kf hk => ⟨_, by kernel_rfl, .nil⟩
theorem rde_i_0 (rw la : List HV) (f : Int) (H : Heap) (b m : Nat) (i j c k : Nat) {y12 : HV} {x0 : Int} {x1 : Int} (g0 : (k : Int) < (m : Int)) (g1 : idxV Tp 70 (.sl b 0 m none m 3) (.i (k : Int)) = some (.ptr b k 0 m)) (g2 : loadV Tp H 3 (.ptr b k 2 m) = some (.i x0)) (g3 : loadV Tp H 3 (.ptr c 0 2 1) = some (.i x1)) (g4 : x0 ≤ x1) : RT polW 66 (sub [1, 1, 0, 1, 0, 0, 1, 0, 0, 1, 0, 0, 1, 0, 0, 1, 1, 0, 0, 0] B66) (env66 (.imm .arg 1 rw) (.imm .arg 1 la) (.i f) (.imm .lit 3 []) (.sl b 0 m none m 3) (.i (i : Int)) (.i (j : Int)) (.ptr c 0 0 1) (.i (k : Int)) y12) H .normal (env66 (.imm .arg 1 rw) (.imm .arg 1 la) (.i f) (.imm .lit 3 []) (.sl b 0 m none m 3) (.i (i : Int)) (.i (j : Int)) (.ptr c 0 0 1) (.i (IntKind.i64.wrap ((k : Int) + 1))) y12) H :=
  RunsTo.hin 0 60 [⟨10, 3, .bool true, H⟩, ⟨10, 7, .ptr b k 0 m, H⟩, ⟨10, 9, .i x0, H⟩, ⟨10, 11, .i x1, H⟩, ⟨10, 12, .bool true, H⟩] fun kf hk => ⟨_, by kernel_rfl, (oB H (decide_eq_true g0) (oP H g1 (oP H g2 (oP H g3 (oB H (decide_eq_true g4) .nil)))))⟩
theorem rde_i_1 (rw la : List HV) (f : Int) (H : Heap) (b m : Nat) (i j c k : Nat) {y12 : HV} {x0 : Int} {x1 : Int} (g0 : (k : Int) < (m : Int)) (g1 : idxV Tp 70 (.sl b 0 m none m 3) (.i (k : Int)) = some (.ptr b k 0 m)) (g2 : loadV Tp H 3 (.ptr b k 2 m) = some (.i x0)) (g3 : loadV Tp H 3 (.ptr c 0 2 1) = some (.i x1)) (g4 : ¬ (x0 ≤ x1)) : RT polW 66 (sub [1, 1, 0, 1, 0, 0, 1, 0, 0, 1, 0, 0, 1, 0, 0, 1, 1, 0, 0, 0] B66) (env66 (.imm .arg 1 rw) (.imm .arg 1 la) (.i f) (.imm .lit 3 []) (.sl b 0 m none m 3) (.i (i : Int)) (.i (j : Int)) (.ptr c 0 0 1) (.i (k : Int)) y12) H (.exit 4) (env66 (.imm .arg 1 rw) (.imm .arg 1 la) (.i f) (.imm .lit 3 []) (.sl b 0 m none m 3) (.i (i : Int)) (.i (j : Int)) (.ptr c 0 0 1) (.i (k : Int)) y12) H :=
  RunsTo.hin 0 60 [⟨10, 3, .bool true, H⟩, ⟨10, 7, .ptr b k 0 m, H⟩, ⟨10, 9, .i x0, H⟩, ⟨10, 11, .i x1, H⟩, ⟨10, 12, .bool false, H⟩] fun kf hk => ⟨_, by kernel_rfl, (oB H (decide_eq_true g0) (oP H g1 (oP H g2 (oP H g3 (oB H (decide_eq_false g4) .nil)))))⟩
theorem rde_i_2 (rw la : List HV) (f : Int) (H : Heap) (b m : Nat) (i j c k : Nat) {y12 : HV}(g0 : ¬ ((k : Int) < (m : Int))) : RT polW 66 (sub [1, 1, 0, 1, 0, 0, 1, 0, 0, 1, 0, 0, 1, 0, 0, 1, 1, 0, 0, 0] B66) (env66 (.imm .arg 1 rw) (.imm .arg 1 la) (.i f) (.imm .lit 3 []) (.sl b 0 m none m 3) (.i (i : Int)) (.i (j : Int)) (.ptr c 0 0 1) (.i (k : Int)) y12) H (.exit 4) (env66 (.imm .arg 1 rw) (.imm .arg 1 la) (.i f) (.imm .lit 3 []) (.sl b 0 m none m 3) (.i (i : Int)) (.i (j : Int)) (.ptr c 0 0 1) (.i (k : Int)) y12) H :=
  RunsTo.hin 0 60 [⟨10, 3, .bool false, H⟩] fun kf hk => ⟨_, by kernel_rfl, (oB H (decide_eq_false g0) .nil)⟩
theorem rde_j_0 (rw la : List HV) (f : Int) (H : Heap) (b m : Nat) (i j c k : Nat) (ec : Int) (q : Nat) {y12 : HV} {H0 : Heap} {H1 : Heap} {H2 : Heap} {H3 : Heap} (g0 : some (HV.sl H.length 0 0 none 0 3, H ++ [Blk.arr 3 [] true 0]) = some (.sl q 0 0 none 0 3, H0)) (g1 : sliceV Tp 70 (.sl b 0 m none m 3) none (some (.i (k : Int))) none = some (.sl b 0 k none m 3)) (g2 : builtinV Tp .append [70, 70] [.sl q 0 0 none 0 3, .sl b 0 k none m 3] H0 = some (.sl q 0 k none k 3, H1)) (g3 : loadV Tp H1 73 (.ptr c 0 0 1) = some (.agg [.i (i : Int), .i (j : Int), .i ec])) (g4 : appV H1 3 24 (.sl q 0 k none k 3) [.agg [.i (i : Int), .i (j : Int), .i ec]] = some (.sl q 0 (k + 1) none (k + 1) 3, H2)) (g5 : sliceV Tp 70 (.sl b 0 m none m 3) (some (.i (k : Int))) none none = some (.sl b k (m - k) none m 3)) (g6 : builtinV Tp .append [70, 70] [.sl q 0 (k + 1) none (k + 1) 3, .sl b k (m - k) none m 3] H2 = some (.sl q 0 (m + 1) none (m + 1) 3, H3)) : RT polW 66 (sub [1, 1, 0, 1, 0, 0, 1, 0, 0, 1, 0, 0, 1, 0, 0, 1, 1, 1] B66) (env66 (.imm .arg 1 rw) (.imm .arg 1 la) (.i f) (.imm .lit 3 []) (.sl b 0 m none m 3) (.i (i : Int)) (.i (j : Int)) (.ptr c 0 0 1) (.i (k : Int)) y12) H .normal (env66 (.imm .arg 1 rw) (.imm .arg 1 la) (.i f) (.imm .lit 3 []) (.sl q 0 (m + 1) none (m + 1) 3) (.i (i : Int)) (.i (j : Int)) (.ptr c 0 0 1) (.i (k : Int)) (.sl q 0 (k + 1) none (k + 1) 3)) H3 :=
  RunsTo.hin 0 60 [⟨12, 0, .sl q 0 0 none 0 3, H0⟩, ⟨13, 3, .sl b 0 k none m 3, H0⟩, ⟨13, 4, .sl q 0 k none k 3, H1⟩, ⟨14, 1, .agg [.i (i : Int), .i (j : Int), .i ec], H1⟩, ⟨14, 3, .sl q 0 (k + 1) none (k + 1) 3, H2⟩, ⟨15, 3, .sl b k (m - k) none m 3, H2⟩, ⟨15, 4, .sl q 0 (m + 1) none (m + 1) 3, H3⟩] fun kf hk => ⟨_, by kernel_rfl, (oC (g0) (oP H0 g1 (oC (g2) (oP H1 g3 (oC (g4) (oP H2 g5 (oC (g6) .nil)))))))⟩
theorem rde_k_0 (rw la : List HV) (f : Int) (H : Heap) (b m : Nat) (i j : Nat) {y10 y11 y12 : HV} : RT polW 66 (sub [1, 1, 0, 1, 0, 0, 1, 0, 0, 1, 0, 0, 1, 1] B66) (env66 (.imm .arg 1 rw) (.imm .arg 1 la) (.i f) (.imm .lit 3 []) (.sl b 0 m none m 3) (.i (i : Int)) (.i (j : Int)) y10 y11 y12) H .normal (env66 (.imm .arg 1 rw) (.imm .arg 1 la) (.i f) (.imm .lit 3 []) (.sl b 0 m none m 3) (.i (i : Int)) (.i (IntKind.i64.wrap ((j : Int) + 1))) y10 y11 y12) H :=
  RunsTo.hin 0 60 [] fun kf hk => ⟨_, by kernel_rfl, .nil⟩
theorem rde_l_0 (rw la : List HV) (f : Int) (H : Heap) (b m : Nat) (i : Nat) {y9 y10 y11 y12 : HV} : RT polW 66 (sub [1, 1, 0, 1, 0, 0, 1, 1] B66) (env66 (.imm .arg 1 rw) (.imm .arg 1 la) (.i f) (.imm .lit 3 []) (.sl b 0 m none m 3) (.i (i : Int)) y9 y10 y11 y12) H .normal (env66 (.imm .arg 1 rw) (.imm .arg 1 la) (.i f) (.imm .lit 3 []) (.sl b 0 m none m 3) (.i (IntKind.i64.wrap ((i : Int) + 1))) y9 y10 y11 y12) H :=
  RunsTo.hin 0 60 [] fun kf hk => ⟨_, by kernel_rfl, .nil⟩
theorem rde_m_0 (rw la : List HV) (f : Int) (H : Heap) (b m : Nat)  {y8 y9 y10 y11 y12 : HV} : RT polW 66 (sub [1, 1, 1] B66) (env66 (.imm .arg 1 rw) (.imm .arg 1 la) (.i f) (.imm .lit 3 []) (.sl b 0 m none m 3) y8 y9 y10 y11 y12) H .ret (env66 (.imm .arg 1 rw) (.imm .arg 1 la) (.i f) (.sl b 0 m none m 3) (.sl b 0 m none m 3) y8 y9 y10 y11 y12) H :=
  RunsTo.hin 0 60 [] fun kf hk => ⟨_, by kernel_rfl, .nil⟩
end Go.Proofs.Ytlendaofkmhgmaa
end
section
open Go Go.HL Go.HL.So
namespace Go.Proofs.Ytlendaofkmhgmaa
open Go.Proofs.Try renaming prog → Tp
open Go.HL.HV renaming undef → Ud
theorem u70 : Tp.underlying 70 = some (.slice 73) := by kernel_rfl
theorem s73 : tySize Tp 73 = some 3 := by kernel_rfl
theorem a73 : tyAgg Tp 73 = true := by kernel_rfl
theorem info73 : (Tp.info? 73).map (fun i => (i.size, i.bytes, zeroFits i)) = some (3, 24, true) := by kernel_rfl
abbrev bF (l : List Ed) : Blk := .arr 3 (l.map encF) true 0
abbrev hF (Ls : List (List Ed)) : Heap := Ls.map bF
theorem encF_bnd : ∀ (l : List Ed), bndL (l.map encF) = 0
  | [] => rfl
  | a :: l => by simp only [List.map_cons, bndL, encF_bnd l, encF, bnd]; rfl
theorem encF_any (l : List Ed) : (l.map encF).any isOwn = false := by
  rw [List.any_eq_false]
  intro v hv
  obtain ⟨k, _, rfl⟩ := List.mem_map.1 hv
  simp [encF, isOwn]
theorem same_encF : ∀ l : List Ed, sameL (l.map encF) (l.map encF) = true
  | [] => rfl
  | e :: l => by simp [sameL, same, encF, same_encF l]
theorem same_hF : ∀ Ls, sameH (hF Ls) (hF Ls) = true
  | [] => rfl
  | l :: Ls => by
    show (3 == 3 && sameL (l.map encF) (l.map encF) && true == true && 0 == 0 && sameH (hF Ls) (hF Ls)) = true
    rw [same_hF Ls, same_encF]; rfl
theorem gc_len {base r : Nat} {H : Heap} (h : H.length ≤ r) : gc base r H = H := List.take_of_length_le (by omega)
theorem hF_get {Ls : List (List Ed)} {b : Nat} {l : List Ed} (h : Ls[b]? = some l) : (hF Ls)[b]? = some (bF l) := by rw [List.getElem?_map, h]; rfl
theorem at_get {α : Type} [Inhabited α] {l : List α} {k : Nat} (h : k < l.length) : l[k]? = some (at_ l k) := by
  simp [at_, List.getD, List.getElem?_eq_getElem h]
theorem ixf {n b k : Nat} {cap : Option Nat} (hk : k < n) : idxV Tp 70 (.sl b 0 n cap n 3) (.int .i64 (k : Int)) = some (.ptr b k 0 n) := by
  have := idx_sl (P := Tp) (t := 70) (b := b) (len := n) (tot := n) (cap := cap) (ik := .i64) (n := (k : Int)) u70 s73 (by omega) (by omega)
  rwa [Int.toNat_natCast] at this
theorem fEl {l : List Ed} {k : Nat} (hk : k < l.length) : (l.map encF)[k]? = some (.agg [.int .i64 (at_ l k).2.1, .int .i64 (at_ l k).2.2, .int .i64 (at_ l k).1]) := by
  rw [List.getElem?_map, at_get hk]; rfl
theorem lf0 {H : Heap} {b k n : Nat} {l : List Ed} (hb : H[b]? = some (bF l)) (hn : l.length = n) (hk : k < n) : loadV Tp H 3 (.ptr b k 0 n) = some (.int .i64 (at_ l k).2.1) :=
  load_cell (b := b) hb (by simpa using hn.symm) (fEl (by omega)) a3 i3 rfl
theorem lf1 {H : Heap} {b k n : Nat} {l : List Ed} (hb : H[b]? = some (bF l)) (hn : l.length = n) (hk : k < n) : loadV Tp H 3 (.ptr b k 1 n) = some (.int .i64 (at_ l k).2.2) :=
  load_cell (b := b) hb (by simpa using hn.symm) (fEl (by omega)) a3 i3 rfl
theorem lf2 {H : Heap} {b k n : Nat} {l : List Ed} (hb : H[b]? = some (bF l)) (hn : l.length = n) (hk : k < n) : loadV Tp H 3 (.ptr b k 2 n) = some (.int .i64 (at_ l k).1) :=
  load_cell (b := b) hb (by simpa using hn.symm) (fEl (by omega)) a3 i3 rfl
theorem lf {H : Heap} {b k n : Nat} {l : List Ed} (hb : H[b]? = some (bF l)) (hn : l.length = n) (hk : k < n) : loadV Tp H 73 (.ptr b k 0 n) = some (encF (at_ l k)) :=
  load_agg (b := b) hb (by simpa using hn.symm) (fEl (by omega)) a73 s73
theorem stF {H : Heap} {b : Nat} (hb : H[b]? = some (.arr 3 [.agg [.int .i64 0, .int .i64 0, .int .i64 0]] true 0)) (e : Ed) : storeV Tp H 73 (.ptr b 0 0 1) (encF e) = some (H.set b (bF [e])) := by
  have := store_agg (P := Tp) (t := 73) (b := b) (i := 0) (tot := 1) (cs := [.int .i64 0, .int .i64 0, .int .i64 0]) (new := [.int .i64 e.2.1, .int .i64 e.2.2, .int .i64 e.1]) hb rfl rfl s73 rfl (by simp) rfl rfl
  exact this
theorem app_f1 {H : Heap} {b : Nat} {o : List Ed} (hb : H[b]? = some (bF o)) (hl : o.length ≤ 1000) (e : Ed) :
    appV H 3 24 (.sl b 0 o.length none o.length 3) [encF e] = some (.sl b 0 (o.length + 1) none (o.length + 1) 3, H.set b (bF (o ++ [e]))) := by
  have := app_sl (H := H) (k := 3) (bytes := 24) (b := b) (n := o.length) (mx := 0) (els := o.map encF) (xs := [encF e]) hb (by simp) (by simp) (by simp only [roomMax, List.length_singleton]; omega) (encF_bnd [e])
  rw [this]
  simp only [bF, List.map_append, List.map_cons, List.map_nil, List.length_singleton]
theorem set_self2 {H : Heap} {b : Nat} {B : Blk} (hb : H[b]? = some B) : H.set b B = H := by
  apply List.ext_getElem?
  intro k
  rw [List.getElem?_set]
  by_cases e : b = k
  · subst e; rw [if_pos rfl, if_pos (by rcases Nat.lt_or_ge b H.length with h | h; exact h; rw [List.getElem?_eq_none h] at hb; cases hb), hb]
  · rw [if_neg e]
theorem app_f {H : Heap} {b : Nat} {x : HV} {o xs : List Ed} (hb : H[b]? = some (bF o)) (hs : srcOf H x = some (xs.map encF, 3)) (hlen : o.length + xs.length ≤ 1000) :
    builtinV Tp .append [70, 70] [.sl b 0 o.length none o.length 3, x] H = some (.sl b 0 (o ++ xs).length none (o ++ xs).length 3, H.set b (bF (o ++ xs))) := by
  have hi := info73
  cases hinf : Tp.info? 73 with
  | none => rw [hinf] at hi; cases hi
  | some inf =>
    rw [hinf] at hi
    simp only [Option.map, Option.some.injEq, Prod.mk.injEq] at hi
    obtain ⟨e1, e2, e3⟩ := hi
    simp only [builtinV, u70, hinf, hs, e1, e2, e3]
    rw [if_pos ⟨.inl trivial, by omega, trivial⟩]
    by_cases hx : xs = []
    · subst hx
      simp only [List.map_nil, appV, if_true, List.append_nil, set_self2 hb]
    · have := app_sl (H := H) (k := 3) (bytes := 24) (b := b) (n := o.length) (mx := 0) (els := o.map encF) (xs := xs.map encF) hb (by simp) (by simpa using hx) (by rw [List.length_map]; simp only [roomMax]; omega) (encF_bnd xs)
      rw [this]
      simp [bF]
theorem src_f {H : Heap} {b off len : Nat} {o : List Ed} (hb : H[b]? = some (bF o)) (h : off + len ≤ o.length) : srcOf H (.sl b off len none o.length 3) = some (((o.drop off).take len).map encF, 3) := by
  show (if len = 0 then some ([], 3) else (view H b off len o.length 3).map fun l => (l, 3)) = _
  split
  · rename_i h0; subst h0; simp
  · have hv : view H b off len o.length 3 = some (((o.drop off).take len).map encF) := by
      unfold view
      rw [hb]
      simp [h, List.map_take, List.map_drop]
    rw [hv]; rfl
theorem slF_lo {b m k : Nat} (h : k ≤ m) : sliceV Tp 70 (.sl b 0 m none m 3) none (some (.int .i64 (k : Int))) none = some (.sl b 0 k none m 3) := by
  have e : boundV (some (.int .i64 (k : Int))) = some (some k) := by
    show (if (0 : Int) ≤ (k : Int) then some (some ((k : Int)).toNat) else none) = _
    rw [if_pos (by omega), Int.toNat_natCast]
  simp only [sliceV, e, boundV, u70, s73]
  simp [h]
theorem slF_hi {b m k : Nat} (h : k ≤ m) : sliceV Tp 70 (.sl b 0 m none m 3) (some (.int .i64 (k : Int))) none none = some (.sl b k (m - k) none m 3) := by
  have e : boundV (some (.int .i64 (k : Int))) = some (some k) := by
    show (if (0 : Int) ≤ (k : Int) then some (some ((k : Int)).toNat) else none) = _
    rw [if_pos (by omega), Int.toNat_natCast]
  simp only [sliceV, e, boundV, u70, s73]
  simp [h]
theorem frz_F {H : Heap} {no : List Nat} {n : Nat} (e : Ed) : frz H no (n + 1) (encF e) = some (encF e) := by
  show (match mapO (frz H no n) [.int .i64 e.2.1, .int .i64 e.2.2, .int .i64 e.1] with | some l => some (HV.agg l) | none => none) = _
  have h1 : ∀ x : Int, frz H no n (.int .i64 x) = some (.int .i64 x) := fun x => frz_int n x
  simp only [mapO, h1]; rfl
theorem toRes_F {H : Heap} {b : Nat} {l : List Ed} (hb : H[b]? = some (bF l)) : toRes H false (.sl b 0 l.length none l.length 3) = some (.own 3 (l.map encF)) := by
  have hr := resCell_sl (H := H) (no := [b]) (b := b) (k := 3) (m := l.length) (cap := none) (els := l.map encF) hb (by simp) (mapO_self (fun e => frz_F (n := 3) e) _)
  have ho : ownedAll H false (.sl b 0 l.length none l.length 3) = [b] := by simp [ownedAll, cellsOf, owned, hb]
  simp only [toRes, ho, List.nodup_cons, List.not_mem_nil, not_false_eq_true, List.nodup_nil, and_self, if_true, resVal, hr]
theorem recv_F (l : List Ed) (H : Heap) : recv (.own 3 (l.map encF)) H = (.sl H.length 0 l.length none l.length 3, H ++ [bF l]) := by
  simp only [recv, recvVal, recvCell, encF_any, List.length_map]
  rfl
theorem insS_at (e : Ed) : ∀ (o : List Ed) (k : Nat), k ≤ o.length → (∀ i, i < k → (at_ o i).1 ≤ e.1) → (k < o.length → e.1 < (at_ o k).1) → insS e o = o.take k ++ [e] ++ o.drop k
  | [], k, h, _, _ => by
    have : k = 0 := by simpa using h
    subst this; rfl
  | x :: o, 0, _, _, h2 => by
    have h : e.1 < x.1 := h2 (by simp)
    rw [insS, if_neg (by omega)]; rfl
  | x :: o, k + 1, h, h1, h2 => by
    have h0 : x.1 ≤ e.1 := h1 0 (by omega)
    rw [insS, if_pos h0, insS_at e o k (by simpa using h) (fun i hi => h1 (i + 1) (by omega)) (fun hk => h2 (by simpa using hk))]
    rfl
end Go.Proofs.Ytlendaofkmhgmaa
end
section
open Go Go.HL Go.HL.So
namespace Go.Proofs.Ytlendaofkmhgmaa
open Go.Proofs.Try renaming prog → Tp
open Go.HL.HV renaming undef → Ud
theorem res66 : Try.f66.results.toList = [.tmp 6] := by kernel_rfl
def rliF (f : List (List Int) → List Int → Int → Option HV) : List HV → Option HV
  | [.imm .arg 1 rw, .imm .arg 1 la, .int .i64 a] => (match mapO decR rw, mapO decI la with | some R, some ps => f R ps a | _, _ => none)
  | _ => none
theorem rliF_inv {f : List (List Int) → List Int → Int → Option HV} {args : List HV} {res : HV} (h : rliF f args = some res) : ∃ R ps a, args = [.imm .arg 1 (R.map encR), .imm .arg 1 (ps.map encI), .int .i64 a] ∧ f R ps a = some res := by
  unfold rliF at h
  split at h
  · rename_i rw la a
    split at h
    · rename_i R ps hR hp
      exact ⟨R, ps, a, by rw [mapO_inv decR_inv hR, mapO_inv decI_inv hp], h⟩
    · cases h
  · cases h
open Classical in
noncomputable def edges66 : List HV → Option HV := rliF fun R l a => if okD R ∧ l.length = R.length ∧ prOk l ∧ 0 ≤ a ∧ a ≤ R.length then some (.own 3 ((edg R l a.toNat).map encF)) else none
section
variable {d : List (List Int)} {l : List Int} {f : Nat}
abbrev rdE (d : List (List Int)) (l : List Int) (f b m : Nat) (v8 v9 v10 v11 v12 : HV) : Env := (env66 (.imm .arg 1 (d.map encR)) (.imm .arg 1 (l.map encI)) (.int .i64 (f : Int)) (.imm .lit 3 []) (.sl b 0 m none m 3) v8 v9 v10 v11 v12)
theorem rd_pos {Ls : List (List Ed)} {b c i j : Nat} {o : List Ed} {e : Ed} (hb : Ls[b]? = some o) (hc : Ls[c]? = some [e]) (hl : o.length ≤ 500) : ∀ n k, k + n = o.length → (∀ x, x < k → (at_ o x).1 ≤ e.1) →
    ∃ k', k' ≤ o.length ∧ insS e o = o.take k' ++ [e] ++ o.drop k' ∧ RT polW 66 (sub [1, 1, 0, 1, 0, 0, 1, 0, 0, 1, 0, 0, 1, 0, 0, 1, 1, 0, 0] B66) (rdE d l f b o.length (.int .i64 (i : Int)) (.int .i64 (j : Int)) (.ptr c 0 0 1) (.int .i64 (k : Int)) Ud) (hF Ls) (.exit 4)
      (rdE d l f b o.length (.int .i64 (i : Int)) (.int .i64 (j : Int)) (.ptr c 0 0 1) (.int .i64 (k' : Int)) Ud) (hF Ls) := by
  intro n
  induction n with
  | zero =>
    intro k hk hx
    have : k = o.length := by omega
    subst this
    have s := rde_i_2 (d.map encR) (l.map encI) f (hF Ls) b o.length i j c o.length (y12 := Ud) (by omega)
    exact ⟨o.length, Nat.le_refl _, insS_at e o _ (Nat.le_refl _) hx (fun h => absurd h (by omega)), lpo (s)⟩
  | succ n ih =>
    intro k hk hx
    by_cases c1 : (at_ o k).1 ≤ e.1
    · have s := rde_i_0 (d.map encR) (l.map encI) f (hF Ls) b o.length i j c k (y12 := Ud) (by omega) (ixf (by omega)) (lf2 (hF_get hb) rfl (by omega)) (lf2 (l := [e]) (k := 0) (hF_get hc) rfl (by simp)) c1
      rw [wrap_succ (by omega)] at s
      obtain ⟨k', h1, h2, r⟩ := ih (k + 1) (by omega) (fun x hxk => by
        rcases Nat.lt_or_ge x k with h | h
        · exact hx x h
        · have : x = k := by omega
          subst this; exact c1)
      exact ⟨k', h1, h2, lop (s) (gc_eq _ rfl) (r)⟩
    · have s := rde_i_1 (d.map encR) (l.map encI) f (hF Ls) b o.length i j c k (y12 := Ud) (by omega) (ixf (by omega)) (lf2 (hF_get hb) rfl (by omega)) (lf2 (l := [e]) (k := 0) (hF_get hc) rfl (by simp)) c1
      exact ⟨k, by omega, insS_at e o k (by omega) hx (fun _ => Int.not_le.1 c1), lpo (s)⟩
theorem get_end {α : Type} (l : List α) (x : α) : (l ++ [x])[l.length]? = some x := by simp
theorem set_end {α : Type} (l : List α) (x y : α) : (l ++ [x]).set l.length y = l ++ [y] := by simp
theorem hF_app (Ls : List (List Ed)) (o : List Ed) : hF Ls ++ [bF o] = hF (Ls ++ [o]) := by simp [hF]
theorem hF_len (Ls : List (List Ed)) : (hF Ls).length = Ls.length := by simp [hF]
theorem hF_set (Ls : List (List Ed)) (o o' : List Ed) : (hF (Ls ++ [o])).set Ls.length (bF o') = hF (Ls ++ [o']) := by
  rw [← hF_app, ← hF_len Ls, set_end, hF_app]
theorem prOk.at (h : prOk l) {i : Nat} (hi : i < l.length) : -10000 ≤ l.getD i 0 ∧ l.getD i 0 ≤ 10000 := by
  have e : l.getD i 0 = l[i] := by simp [List.getD, List.getElem?_eq_getElem hi]
  rw [e]; exact h _ (List.getElem_mem _)
theorem rd_in (hd : okD d) (hn : l.length = d.length) (hp : prOk l) {i : Nat} (hi : i < d.length) : ∀ k j (Ls : List (List Ed)) (o : List Ed), j + k = d.length → i < j → o.length + k ≤ 400 →
    ∃ Ls' y10 y11 y12, RT polW 66 (sub [1, 1, 0, 1, 0, 0, 1, 0, 0, 1, 0] B66) (rdE d l f Ls.length o.length (.int .i64 (i : Int)) (.int .i64 (j : Int)) Ud Ud Ud) (hF (Ls ++ [o])) (.exit 2)
      (rdE d l f Ls'.length (rfRow d l i k j o).length (.int .i64 (i : Int)) (.int .i64 (d.length : Int)) y10 y11 y12) (hF (Ls' ++ [rfRow d l i k j o])) := by
  have hdn := hd.1
  intro k
  induction k with
  | zero =>
    intro j Ls o hj hij hl
    have : j = d.length := by omega
    subst this
    have s := rde_f_1 (d.map encR) (l.map encI) f (hF (Ls ++ [o])) Ls.length o.length i d.length (y10 := Ud) (y11 := Ud) (y12 := Ud) (by simp)
    exact ⟨Ls, _, _, _, lpo (sqo (s) (c := sub [1, 1, 0, 1, 0, 0, 1, 0, 0, 1, 0, 0] B66) (b := sub [1, 1, 0, 1, 0, 0, 1, 0, 0, 1, 0, 0, 1] B66))⟩
  | succ k ih =>
    intro j Ls o hj hij hl
    have b1 := hd.at (i := i) (j := j) hi (by omega)
    have b2 := hp.at (i := i) (by omega)
    have b3 := hp.at (i := j) (by omega)
    have e : IntKind.i64.wrap (IntKind.i64.wrap (at2 d i j + l.getD i 0) + l.getD j 0) = cst d l i j := by
      rw [wrap_id (n := at2 d i j + l.getD i 0) (by omega) (by omega), wrap_id (by omega) (by omega)]; rfl
    have s := rde_f_0 (d.map encR) (l.map encI) f (hF (Ls ++ [o])) Ls.length o.length i j (y10 := Ud) (y11 := Ud) (y12 := Ud) (by rw [List.length_map]; omega)
    have hst := stF (H := hF (Ls ++ [o] ++ [[(0, 0, 0)]])) (b := (Ls ++ [o]).length) (hF_get (l := [(0, 0, 0)]) (get_end _ _)) (mkE d l i j)
    rw [hF_set] at hst
    have g1 := rde_g_0 (d.map encR) (l.map encI) f (hF (Ls ++ [o])) Ls.length o.length i j (Ls ++ [o]).length (y10 := Ud) (y11 := Ud) (y12 := Ud) (H0 := hF (Ls ++ [o] ++ [[(0, 0, 0)]])) (g22' hi) (g23' hd hi (by omega)) (gx (by omega)) (gx (by omega)) (by
      show some (HV.ptr (hF (Ls ++ [o])).length 0 0 1, hF (Ls ++ [o]) ++ [bF [(0, 0, 0)]]) = _
      rw [hF_app, hF_len]) (by rw [e]; exact hst)
      (by simp only [same, same_li, same_hF, beq_self_eq_true, Bool.and_self])
    have h1 := rde_h_0 (d.map encR) (l.map encI) f (hF (Ls ++ [o] ++ [[mkE d l i j]])) Ls.length o.length i j (Ls ++ [o]).length (y11 := Ud) (y12 := Ud)
    obtain ⟨k', hk', hins, r⟩ := rd_pos (d := d) (l := l) (f := f) (Ls := Ls ++ [o] ++ [[mkE d l i j]]) (b := Ls.length) (c := (Ls ++ [o]).length) (i := i) (j := j) (o := o) (e := mkE d l i j) (by simp) (get_end _ _) (by omega) o.length 0 (by omega) (fun x hx => absurd hx (by omega))
    generalize hM : Ls ++ [o] ++ [[mkE d l i j]] = M at *
    have hMb : M[Ls.length]? = some o := by rw [← hM]; simp
    have hMc : M[(Ls ++ [o]).length]? = some [mkE d l i j] := by rw [← hM]; exact get_end _ _
    have lt1 : Ls.length < M.length := by rw [← hM]; simp
    have lt2 : (Ls ++ [o]).length < M.length := by rw [← hM]; simp
    have hq : ∀ o', (hF (M ++ [o']))[Ls.length]? = some (bF o) := fun o' => hF_get (by rw [List.getElem?_append_left lt1]; exact hMb)
    have hcq : ∀ o', (hF (M ++ [o']))[(Ls ++ [o]).length]? = some (bF [mkE d l i j]) := fun o' => hF_get (by rw [List.getElem?_append_left lt2]; exact hMc)
    have hlast : ∀ o', (hF (M ++ [o']))[M.length]? = some (bF o') := fun o' => hF_get (get_end _ _)
    have ht : (o.take k').length = k' := by rw [List.length_take]; omega
    have ap1 := app_f (H := hF (M ++ [[]])) (b := M.length) (x := .sl Ls.length 0 k' none o.length 3) (o := []) (xs := o.take k') (hlast []) (by have := src_f (off := 0) (len := k') (hq []) (by omega); rwa [List.drop_zero] at this) (by rw [ht, List.length_nil]; omega)
    rw [hF_set, List.nil_append, ht] at ap1
    have ap2 := app_f1 (H := hF (M ++ [o.take k'])) (b := M.length) (o := o.take k') (hlast _) (by omega) (mkE d l i j)
    rw [hF_set, ht] at ap2
    have hd2 : (o.drop k').length = o.length - k' := List.length_drop
    have ap3 := app_f (H := hF (M ++ [o.take k' ++ [mkE d l i j]])) (b := M.length) (x := .sl Ls.length k' (o.length - k') none o.length 3) (o := o.take k' ++ [mkE d l i j]) (xs := o.drop k') (hlast _) (by have := src_f (off := k') (len := o.length - k') (hq (o.take k' ++ [mkE d l i j])) (by omega); rwa [List.take_of_length_le (show (o.drop k').length ≤ o.length - k' by omega)] at this) (by rw [List.length_append, ht, hd2, List.length_singleton]; omega)
    have e1 : (o.take k' ++ [mkE d l i j]).length = k' + 1 := by rw [List.length_append, ht]; rfl
    have e2 : (insS (mkE d l i j) o).length = o.length + 1 := insS_len _ _
    rw [hF_set, ← hins, e1, e2] at ap3
    have hlc := lf (l := [mkE d l i j]) (k := 0) (n := 1) (hcq (o.take k')) rfl Nat.one_pos
    have j1 := rde_j_0 (d.map encR) (l.map encI) f (hF M) Ls.length o.length i j (Ls ++ [o]).length k' (cst d l i j) M.length (y12 := Ud) (by rw [hF_len]; exact congrArg some (congrArg _ (hF_app M []))) (slF_lo hk') ap1 (hlc) ap2 (slF_hi hk') ap3
    have k1 := rde_k_0 (d.map encR) (l.map encI) f (hF (M ++ [insS (mkE d l i j) o])) M.length (o.length + 1) i j (y10 := .ptr (Ls ++ [o]).length 0 0 1) (y11 := .int .i64 (k' : Int)) (y12 := .sl M.length 0 (k' + 1) none (k' + 1) 3)
    rw [wrap_succ (by omega)] at k1
    obtain ⟨Ls', y10, y11, y12, r2⟩ := ih (j + 1) M (insS (mkE d l i j) o) (by omega) (by omega) (by omega)
    rw [e2] at r2
    have hg : gc (hF (Ls ++ [o])).length (bndE (rdE d l f M.length (o.length + 1) (.int .i64 (i : Int)) (.int .i64 ((j + 1 : Nat) : Int)) Ud Ud Ud)) (hF (M ++ [insS (mkE d l i j) o])) = hF (M ++ [insS (mkE d l i j) o]) := gc_len (by
      rw [hF_len, List.length_append]
      simp only [bndE, bnd, List.length_singleton]
      omega)
    have st := sq (s) (sq (RunsTo.block_normal (i := 3) (c := sub [1, 1, 0, 1, 0, 0, 1, 0, 0, 1, 0, 0, 1, 0] B66) (sq (g1) (sq (h1) (sq (bke (c := sub [1, 1, 0, 1, 0, 0, 1, 0, 0, 1, 0, 0, 1, 0, 0, 1, 1, 0] B66) (lpi (e0 := (rdE d l f Ls.length o.length (.int .i64 (i : Int)) (.int .i64 (j : Int)) (.ptr (Ls ++ [o]).length 0 0 1) (.int .i64 ((0 : Nat) : Int)) Ud)) r (b := sub [1, 1, 0, 1, 0, 0, 1, 0, 0, 1, 0, 0, 1, 0, 0, 1, 1, 0, 0, 0] B66))) (j1) (c := sub [1, 1, 0, 1, 0, 0, 1, 0, 0, 1, 0, 0, 1, 0, 0, 1, 1] B66)) (c := sub [1, 1, 0, 1, 0, 0, 1, 0, 0, 1, 0, 0, 1, 0, 0, 1] B66)) (c := sub [1, 1, 0, 1, 0, 0, 1, 0, 0, 1, 0, 0, 1, 0, 0] B66)) (by kernel_rfl)) (k1) (c := sub [1, 1, 0, 1, 0, 0, 1, 0, 0, 1, 0, 0, 1] B66)) (c := sub [1, 1, 0, 1, 0, 0, 1, 0, 0, 1, 0, 0] B66)
    exact ⟨Ls', y10, y11, y12, lop (st) hg (r2)⟩
theorem rfRow_len (d : List (List Int)) (p : List Int) (a : Nat) : ∀ k b o, (rfRow d p a k b o).length = o.length + k
  | 0, _, _ => rfl
  | k + 1, b, o => by rw [rfRow, rfRow_len d p a k, insS_len]; omega
theorem rd_out (hd : okD d) (hn : l.length = d.length) (hp : prOk l) : ∀ k i (Ls : List (List Ed)) (o : List Ed), i + k = d.length → o.length + k * d.length ≤ 300 →
    ∃ Ls' y8 y9 y10 y11 y12, RT polW 66 (sub [1, 1, 0, 1, 0] B66) (rdE d l f Ls.length o.length (.int .i64 (i : Int)) Ud Ud Ud Ud) (hF (Ls ++ [o])) (.exit 0)
      (rdE d l f Ls'.length (rfAll d l k i o).length y8 y9 y10 y11 y12) (hF (Ls' ++ [rfAll d l k i o])) := by
  have hdn := hd.1
  intro k
  induction k with
  | zero =>
    intro i Ls o hi hl
    have : i = d.length := by omega
    subst this
    have s := rde_d_1 (d.map encR) (l.map encI) f (hF (Ls ++ [o])) Ls.length o.length d.length (y9 := Ud) (y10 := Ud) (y11 := Ud) (y12 := Ud) (by simp)
    exact ⟨Ls, _, _, _, _, _, lpo (sqo (s) (c := sub [1, 1, 0, 1, 0, 0] B66) (b := sub [1, 1, 0, 1, 0, 0, 1] B66))⟩
  | succ k ih =>
    intro i Ls o hi hl
    rw [Nat.succ_mul] at hl
    have s := rde_d_0 (d.map encR) (l.map encI) f (hF (Ls ++ [o])) Ls.length o.length i (y9 := Ud) (y10 := Ud) (y11 := Ud) (y12 := Ud) (by rw [List.length_map]; omega)
    have s2 := rde_e_0 (d.map encR) (l.map encI) f (hF (Ls ++ [o])) Ls.length o.length i (y9 := Ud) (y10 := Ud) (y11 := Ud) (y12 := Ud)
    rw [wrap_succ (by omega)] at s2
    obtain ⟨Ls', y10, y11, y12, r⟩ := rd_in (f := f) hd hn hp (i := i) (by omega) (d.length - (i + 1)) (i + 1) Ls o (by omega) (by omega) (by omega)
    have s3 := rde_l_0 (d.map encR) (l.map encI) f (hF (Ls' ++ [rfRow d l i (d.length - (i + 1)) (i + 1) o])) Ls'.length (rfRow d l i (d.length - (i + 1)) (i + 1) o).length i (y9 := .int .i64 (d.length : Int)) (y10 := y10) (y11 := y11) (y12 := y12)
    rw [wrap_succ (by omega)] at s3
    obtain ⟨Lz, y8, y9, z10, z11, z12, r2⟩ := ih (i + 1) Ls' (rfRow d l i (d.length - (i + 1)) (i + 1) o) (by omega) (by rw [rfRow_len]; omega)
    have hgl : ∀ (L : List (List Ed)), gc (hF (Ls ++ [o])).length (bndE (rdE d l f L.length (rfRow d l i (d.length - (i + 1)) (i + 1) o).length (.int .i64 ((i + 1 : Nat) : Int)) Ud Ud Ud Ud)) (hF (L ++ [rfRow d l i (d.length - (i + 1)) (i + 1) o])) = hF (L ++ [rfRow d l i (d.length - (i + 1)) (i + 1) o]) := fun L => gc_len (by
      rw [hF_len, List.length_append]
      simp only [bndE, bnd, List.length_singleton]
      omega)
    have st := sq (s) (sq (RunsTo.block_normal (i := 1) (c := sub [1, 1, 0, 1, 0, 0, 1, 0] B66) (sq (s2) (bke (c := sub [1, 1, 0, 1, 0, 0, 1, 0, 0, 1] B66) (lpi (e0 := (rdE d l f Ls.length o.length (.int .i64 (i : Int)) (.int .i64 ((i + 1 : Nat) : Int)) Ud Ud Ud)) r (b := sub [1, 1, 0, 1, 0, 0, 1, 0, 0, 1, 0, 0] B66))) (c := sub [1, 1, 0, 1, 0, 0, 1, 0, 0] B66)) (by kernel_rfl)) (s3) (c := sub [1, 1, 0, 1, 0, 0, 1] B66)) (c := sub [1, 1, 0, 1, 0, 0] B66)
    exact ⟨Lz, y8, y9, z10, z11, z12, lop (st) (hgl Ls') (r2)⟩
end
theorem redges_ok : PrimOk Tp 66 edges66 := by
  refine primOk_pure (pol := polW) (fn := Try.f66) (cd := B66) follows_mixed soundW (by kernel_rfl) (by kernel_rfl) (fnok polW.prim _ _ (by kernel_rfl)) (by kernel_rfl) ?_
  intro args res h
  obtain ⟨d, l, a0, rfl, hq⟩ := rliF_inv h
  clear h
  split at hq
  · rename_i hc
    obtain ⟨hd, hn, hp, ha⟩ := hc
    cases hq
    have hdn := hd.1
    obtain ⟨f, rfl⟩ : ∃ x : Nat, a0 = (x : Int) := ⟨a0.toNat, by omega⟩
    rw [Int.toNat_natCast]
    have s0 := rde_a_0 (d.map encR) (l.map encI) f
    have s1 := rde_b_0 (d.map encR) (l.map encI) f (y7 := Ud) (y8 := Ud) (y9 := Ud) (y10 := Ud) (y11 := Ud) (y12 := Ud)
    have s2 := rde_c_0 (d.map encR) (l.map encI) f [bF []] 0 0 (y8 := Ud) (y9 := Ud) (y10 := Ud) (y11 := Ud) (y12 := Ud)
    have hkk : (d.length - f) * d.length ≤ 11 * 11 := Nat.mul_le_mul (by omega) hdn.2
    obtain ⟨Ls, y8, y9, y10, y11, y12, r⟩ := rd_out (f := f) hd hn hp (d.length - f) f [] [] (by omega) (by simp only [List.length_nil]; omega)
    rw [show rfAll d l (d.length - f) f [] = edg d l f from rfl] at r
    have s3 := rde_m_0 (d.map encR) (l.map encI) f (hF (Ls ++ [edg d l f])) Ls.length (edg d l f).length (y8 := y8) (y9 := y9) (y10 := y10) (y11 := y11) (y12 := y12)
    have t := sq (s0) (sq (s1) (sq (sq (s2) (bke (c := sub [1, 1, 0, 1] B66) (lpi (e0 := (rdE d l f 0 0 (.int .i64 (f : Int)) Ud Ud Ud Ud)) r (b := sub [1, 1, 0, 1, 0, 0] B66))) (c := sub [1, 1, 0] B66)) (s3) (c := sub [1, 1] B66)) (c := sub [1] B66)) (c := B66)
    exact ⟨_, _, _, .sl Ls.length 0 (edg d l f).length none (edg d l f).length 3, t, by simp, by simp only [resultsV, res66]; rfl, toRes_F (hF_get (get_end _ _))⟩
  · cases hq
end Go.Proofs.Ytlendaofkmhgmaa
end
section
open Go Go.HL
namespace Go.Proofs.Ytlendaofkmhgmaa
set_option maxRecDepth 100000
open Go.Proofs.Try renaming prog → Tp
open Go.HL.HV renaming undef → Ud
noncomputable def B65 : Code := Try.f65.body.getD .skip
abbrev env65 (v0 v1 v4 v5 v6 v7 v8 v9 v10 v11 : HV) : Env := [(0, v0), (1, v1), (4, v4), (5, v5), (6, v6), (7, v7), (8, v8), (9, v9), (10, v10), (11, v11)]
theorem jn_a_0 (es : List HV) (n : Nat)  : RT polW 65 (sub [0] B65) [(0, .imm .arg 3 es), (1, .i (n : Int))] [] .normal (env65 (.imm .arg 3 es) (.i (n : Int)) (.imm .lit 3 []) Ud Ud Ud Ud Ud Ud Ud) [] :=
  RunsTo.hin 0 60 [] fun kf hk => ⟨_, by kernel_rfl, .nil⟩
theorem jn_b_0 (es : List HV) (n : Nat)  {y5 y6 y7 y8 y9 y10 y11 : HV}(g0 : makeV Tp false 23 (.i (n : Int)) (.i (n : Int)) [] = some (.sl 0 0 n (some n) n 1, [.arr 1 (List.replicate n (.i 0)) true 0])) : RT polW 65 (sub [1, 0] B65) (env65 (.imm .arg 3 es) (.i (n : Int)) (.imm .lit 3 []) y5 y6 y7 y8 y9 y10 y11) [] .normal (env65 (.imm .arg 3 es) (.i (n : Int)) (.imm .lit 3 []) (.sl 0 0 n (some n) n 1) y6 y7 y8 y9 y10 y11) [.arr 1 (List.replicate n (.i 0)) true 0] :=
  RunsTo.hin 0 60 [⟨1, 1, .sl 0 0 n (some n) n 1, [.arr 1 (List.replicate n (.i 0)) true 0]⟩] fun kf hk => ⟨_, by kernel_rfl, (oC (g0) .nil)⟩
theorem jn_c_0 (es : List HV) (n : Nat) (gs : List HV) {y6 y7 y8 y9 y10 y11 : HV} : RT polW 65 (sub [1, 1, 0, 0] B65) (env65 (.imm .arg 3 es) (.i (n : Int)) (.imm .lit 3 []) (.sl 0 0 n (some n) n 1) y6 y7 y8 y9 y10 y11) [.arr 1 gs true 0] .normal (env65 (.imm .arg 3 es) (.i (n : Int)) (.imm .lit 3 []) (.sl 0 0 n (some n) n 1) (.i 0) y7 y8 y9 y10 y11) [.arr 1 gs true 0] :=
  RunsTo.hin 0 60 [] fun kf hk => ⟨_, by kernel_rfl, .nil⟩
theorem jn_d_0 (es : List HV) (n : Nat) (gs : List HV) (i : Nat) {y7 y8 y9 y10 y11 : HV} {el0 : List HV} (g0 : (i : Int) < (n : Int)) (g1 : idxV Tp 23 (.sl 0 0 n (some n) n 1) (.i (i : Int)) = some (.ptr 0 i 0 n)) (g2 : storeV Tp [.arr 1 gs true 0] 3 (.ptr 0 i 0 n) (.i (i : Int)) = some [.arr 1 el0 true 0]) : RT polW 65 (sub [1, 1, 0, 1, 0, 0] B65) (env65 (.imm .arg 3 es) (.i (n : Int)) (.imm .lit 3 []) (.sl 0 0 n (some n) n 1) (.i (i : Int)) y7 y8 y9 y10 y11) [.arr 1 gs true 0] .normal (env65 (.imm .arg 3 es) (.i (n : Int)) (.imm .lit 3 []) (.sl 0 0 n (some n) n 1) (.i (IntKind.i64.wrap ((i : Int) + 1))) y7 y8 y9 y10 y11) [.arr 1 el0 true 0] :=
  RunsTo.hin 0 60 [⟨3, 2, .bool true, [.arr 1 gs true 0]⟩, ⟨5, 3, .ptr 0 i 0 n, [.arr 1 gs true 0]⟩, ⟨5, 4, .tuple [], [.arr 1 el0 true 0]⟩] fun kf hk => ⟨_, by kernel_rfl, (oB [.arr 1 gs true 0] (decide_eq_true g0) (oP [.arr 1 gs true 0] g1 (oS g2 .nil)))⟩
theorem jn_d_1 (es : List HV) (n : Nat) (gs : List HV) (i : Nat) {y7 y8 y9 y10 y11 : HV}(g0 : ¬ ((i : Int) < (n : Int))) : RT polW 65 (sub [1, 1, 0, 1, 0, 0] B65) (env65 (.imm .arg 3 es) (.i (n : Int)) (.imm .lit 3 []) (.sl 0 0 n (some n) n 1) (.i (i : Int)) y7 y8 y9 y10 y11) [.arr 1 gs true 0] (.exit 0) (env65 (.imm .arg 3 es) (.i (n : Int)) (.imm .lit 3 []) (.sl 0 0 n (some n) n 1) (.i (i : Int)) y7 y8 y9 y10 y11) [.arr 1 gs true 0] :=
  RunsTo.hin 0 60 [⟨3, 2, .bool false, [.arr 1 gs true 0]⟩] fun kf hk => ⟨_, by kernel_rfl, (oB [.arr 1 gs true 0] (decide_eq_false g0) .nil)⟩
theorem jn_e_0 (es : List HV) (n : Nat) (gs : List HV) {y6 y7 y8 y9 y10 y11 : HV} : RT polW 65 (sub [1, 1, 1, 0] B65) (env65 (.imm .arg 3 es) (.i (n : Int)) (.imm .lit 3 []) (.sl 0 0 n (some n) n 1) y6 y7 y8 y9 y10 y11) [.arr 1 gs true 0] .normal (env65 (.imm .arg 3 es) (.i (n : Int)) (.imm .lit 3 []) (.sl 0 0 n (some n) n 1) y6 (.sl 1 0 0 none 0 3) y8 y9 y10 y11) [.arr 1 gs true 0, .arr 3 [] true 0] :=
  RunsTo.hin 0 60 [] fun kf hk => ⟨_, by kernel_rfl, .nil⟩
theorem jn_f_0 (es : List HV) (n : Nat) (gs : List HV) (m : Nat) (os : List HV) {y6 y8 y9 y10 y11 : HV} : RT polW 65 (sub [1, 1, 1, 1, 0, 0] B65) (env65 (.imm .arg 3 es) (.i (n : Int)) (.imm .lit 3 []) (.sl 0 0 n (some n) n 1) y6 (.sl 1 0 m none m 3) y8 y9 y10 y11) [.arr 1 gs true 0, .arr 3 os true 0] .normal (env65 (.imm .arg 3 es) (.i (n : Int)) (.imm .lit 3 []) (.sl 0 0 n (some n) n 1) y6 (.sl 1 0 m none m 3) (.i 0) y9 y10 y11) [.arr 1 gs true 0, .arr 3 os true 0] :=
  RunsTo.hin 0 60 [] fun kf hk => ⟨_, by kernel_rfl, .nil⟩
theorem jn_g_0 (es : List HV) (n : Nat) (gs : List HV) (m : Nat) (os : List HV) (i : Nat) {y6 y9 y10 y11 : HV}(g0 : (i : Int) < (es.length : Int)) : RT polW 65 (sub [1, 1, 1, 1, 0, 1, 0, 0, 0] B65) (env65 (.imm .arg 3 es) (.i (n : Int)) (.imm .lit 3 []) (.sl 0 0 n (some n) n 1) y6 (.sl 1 0 m none m 3) (.i (i : Int)) y9 y10 y11) [.arr 1 gs true 0, .arr 3 os true 0] .normal (env65 (.imm .arg 3 es) (.i (n : Int)) (.imm .lit 3 []) (.sl 0 0 n (some n) n 1) y6 (.sl 1 0 m none m 3) (.i (i : Int)) y9 y10 y11) [.arr 1 gs true 0, .arr 3 os true 0] :=
  RunsTo.hin 0 60 [⟨8, 3, .bool true, [.arr 1 gs true 0, .arr 3 os true 0]⟩] fun kf hk => ⟨_, by kernel_rfl, (oB [.arr 1 gs true 0, .arr 3 os true 0] (decide_eq_true g0) .nil)⟩
theorem jn_g_1 (es : List HV) (n : Nat) (gs : List HV) (m : Nat) (os : List HV) (i : Nat) {y6 y9 y10 y11 : HV}(g0 : ¬ ((i : Int) < (es.length : Int))) : RT polW 65 (sub [1, 1, 1, 1, 0, 1, 0, 0, 0] B65) (env65 (.imm .arg 3 es) (.i (n : Int)) (.imm .lit 3 []) (.sl 0 0 n (some n) n 1) y6 (.sl 1 0 m none m 3) (.i (i : Int)) y9 y10 y11) [.arr 1 gs true 0, .arr 3 os true 0] (.exit 2) (env65 (.imm .arg 3 es) (.i (n : Int)) (.imm .lit 3 []) (.sl 0 0 n (some n) n 1) y6 (.sl 1 0 m none m 3) (.i (i : Int)) y9 y10 y11) [.arr 1 gs true 0, .arr 3 os true 0] :=
  RunsTo.hin 0 60 [⟨8, 3, .bool false, [.arr 1 gs true 0, .arr 3 os true 0]⟩] fun kf hk => ⟨_, by kernel_rfl, (oB [.arr 1 gs true 0, .arr 3 os true 0] (decide_eq_false g0) .nil)⟩
theorem jn_h_0 (es : List HV) (n : Nat) (gs : List HV) (m : Nat) (os : List HV) (i : Nat) (ec : Int) (ea eb : Nat) {y6 y9 y10 y11 : HV} {x0 : Int} {x1 : Int} (g0 : idxV Tp 70 (.imm .arg 3 es) (.i (i : Int)) = some (.vptr (.agg [.i (ea : Int), .i (eb : Int), .i ec]))) (g1 : idxV Tp 23 (.sl 0 0 n (some n) n 1) (.i (ea : Int)) = some (.ptr 0 ea 0 n)) (g2 : loadV Tp [.arr 1 gs true 0, .arr 3 os true 0] 3 (.ptr 0 ea 0 n) = some (.i x0)) (g3 : idxV Tp 70 (.imm .arg 3 es) (.i (i : Int)) = some (.vptr (.agg [.i (ea : Int), .i (eb : Int), .i ec]))) (g4 : idxV Tp 23 (.sl 0 0 n (some n) n 1) (.i (eb : Int)) = some (.ptr 0 eb 0 n)) (g5 : loadV Tp [.arr 1 gs true 0, .arr 3 os true 0] 3 (.ptr 0 eb 0 n) = some (.i x1)) : RT polW 65 (sub [1, 1, 1, 1, 0, 1, 0, 0, 1, 0, 0, 0] B65) (env65 (.imm .arg 3 es) (.i (n : Int)) (.imm .lit 3 []) (.sl 0 0 n (some n) n 1) y6 (.sl 1 0 m none m 3) (.i (i : Int)) y9 y10 y11) [.arr 1 gs true 0, .arr 3 os true 0] .normal (env65 (.imm .arg 3 es) (.i (n : Int)) (.imm .lit 3 []) (.sl 0 0 n (some n) n 1) y6 (.sl 1 0 m none m 3) (.i (i : Int)) (.i x0) (.i x1) y11) [.arr 1 gs true 0, .arr 3 os true 0] :=
  RunsTo.hin 0 60 [⟨10, 3, .vptr (.agg [.i (ea : Int), .i (eb : Int), .i ec]), [.arr 1 gs true 0, .arr 3 os true 0]⟩, ⟨10, 6, .ptr 0 ea 0 n, [.arr 1 gs true 0, .arr 3 os true 0]⟩, ⟨10, 7, .i x0, [.arr 1 gs true 0, .arr 3 os true 0]⟩, ⟨10, 11, .vptr (.agg [.i (ea : Int), .i (eb : Int), .i ec]), [.arr 1 gs true 0, .arr 3 os true 0]⟩, ⟨10, 14, .ptr 0 eb 0 n, [.arr 1 gs true 0, .arr 3 os true 0]⟩, ⟨10, 15, .i x1, [.arr 1 gs true 0, .arr 3 os true 0]⟩] fun kf hk => ⟨_, by kernel_rfl, (oP [.arr 1 gs true 0, .arr 3 os true 0] g0 (oP [.arr 1 gs true 0, .arr 3 os true 0] g1 (oP [.arr 1 gs true 0, .arr 3 os true 0] g2 (oP [.arr 1 gs true 0, .arr 3 os true 0] g3 (oP [.arr 1 gs true 0, .arr 3 os true 0] g4 (oP [.arr 1 gs true 0, .arr 3 os true 0] g5 .nil))))))⟩
theorem jn_i_0 (es : List HV) (n : Nat) (gs : List HV) (m : Nat) (os : List HV) (i : Nat) (ec : Int) (ea eb : Nat) (o w : Int) {y6 y11 : HV}(g0 : w = o) : RT polW 65 (sub [1, 1, 1, 1, 0, 1, 0, 0, 1, 0, 0, 1, 0] B65) (env65 (.imm .arg 3 es) (.i (n : Int)) (.imm .lit 3 []) (.sl 0 0 n (some n) n 1) y6 (.sl 1 0 m none m 3) (.i (i : Int)) (.i w) (.i o) y11) [.arr 1 gs true 0, .arr 3 os true 0] (.exit 3) (env65 (.imm .arg 3 es) (.i (n : Int)) (.imm .lit 3 []) (.sl 0 0 n (some n) n 1) y6 (.sl 1 0 m none m 3) (.i (i : Int)) (.i w) (.i o) y11) [.arr 1 gs true 0, .arr 3 os true 0] :=
  RunsTo.hin 0 60 [⟨11, 2, .bool true, [.arr 1 gs true 0, .arr 3 os true 0]⟩] fun kf hk => ⟨_, by kernel_rfl, (oB [.arr 1 gs true 0, .arr 3 os true 0] (decide_eq_true g0) .nil)⟩
theorem jn_i_1 (es : List HV) (n : Nat) (gs : List HV) (m : Nat) (os : List HV) (i : Nat) (ec : Int) (ea eb : Nat) (o w : Int) {y6 y11 : HV}(g0 : ¬ (w = o)) : RT polW 65 (sub [1, 1, 1, 1, 0, 1, 0, 0, 1, 0, 0, 1, 0] B65) (env65 (.imm .arg 3 es) (.i (n : Int)) (.imm .lit 3 []) (.sl 0 0 n (some n) n 1) y6 (.sl 1 0 m none m 3) (.i (i : Int)) (.i w) (.i o) y11) [.arr 1 gs true 0, .arr 3 os true 0] .normal (env65 (.imm .arg 3 es) (.i (n : Int)) (.imm .lit 3 []) (.sl 0 0 n (some n) n 1) y6 (.sl 1 0 m none m 3) (.i (i : Int)) (.i w) (.i o) y11) [.arr 1 gs true 0, .arr 3 os true 0] :=
  RunsTo.hin 0 60 [⟨11, 2, .bool false, [.arr 1 gs true 0, .arr 3 os true 0]⟩] fun kf hk => ⟨_, by kernel_rfl, (oB [.arr 1 gs true 0, .arr 3 os true 0] (decide_eq_false g0) .nil)⟩
theorem jn_j_0 (es : List HV) (n : Nat) (gs : List HV) (m : Nat) (os : List HV) (i : Nat) (ec : Int) (ea eb : Nat) (o w : Int) {y6 y11 : HV}(g0 : idxV Tp 70 (.imm .arg 3 es) (.i (i : Int)) = some (.vptr (.agg [.i (ea : Int), .i (eb : Int), .i ec]))) (g1 : appV [.arr 1 gs true 0, .arr 3 os true 0] 3 24 (.sl 1 0 m none m 3) [.agg [.i (ea : Int), .i (eb : Int), .i ec]] = some (.sl 1 0 (m + 1) none (m + 1) 3, [.arr 1 gs true 0, .arr 3 (os ++ [.agg [.i (ea : Int), .i (eb : Int), .i ec]]) true 0])) : RT polW 65 (sub [1, 1, 1, 1, 0, 1, 0, 0, 1, 0, 0, 1, 1, 0] B65) (env65 (.imm .arg 3 es) (.i (n : Int)) (.imm .lit 3 []) (.sl 0 0 n (some n) n 1) y6 (.sl 1 0 m none m 3) (.i (i : Int)) (.i w) (.i o) y11) [.arr 1 gs true 0, .arr 3 os true 0] .normal (env65 (.imm .arg 3 es) (.i (n : Int)) (.imm .lit 3 []) (.sl 0 0 n (some n) n 1) y6 (.sl 1 0 (m + 1) none (m + 1) 3) (.i (i : Int)) (.i w) (.i o) y11) [.arr 1 gs true 0, .arr 3 (os ++ [.agg [.i (ea : Int), .i (eb : Int), .i ec]]) true 0] :=
  RunsTo.hin 0 60 [⟨12, 3, .vptr (.agg [.i (ea : Int), .i (eb : Int), .i ec]), [.arr 1 gs true 0, .arr 3 os true 0]⟩, ⟨12, 6, .sl 1 0 (m + 1) none (m + 1) 3, [.arr 1 gs true 0, .arr 3 (os ++ [.agg [.i (ea : Int), .i (eb : Int), .i ec]]) true 0]⟩] fun kf hk => ⟨_, by kernel_rfl, (oP [.arr 1 gs true 0, .arr 3 os true 0] g0 (oC (g1) .nil))⟩
theorem jn_k_0 (es : List HV) (n : Nat) (gs : List HV) (m : Nat) (os : List HV) (i : Nat) (ec : Int) (ea eb : Nat) (o w : Int) {y6 y11 : HV} : RT polW 65 (sub [1, 1, 1, 1, 0, 1, 0, 0, 1, 0, 0, 1, 1, 1, 0] B65) (env65 (.imm .arg 3 es) (.i (n : Int)) (.imm .lit 3 []) (.sl 0 0 n (some n) n 1) y6 (.sl 1 0 m none m 3) (.i (i : Int)) (.i w) (.i o) y11) [.arr 1 gs true 0, .arr 3 os true 0] .normal (env65 (.imm .arg 3 es) (.i (n : Int)) (.imm .lit 3 []) (.sl 0 0 n (some n) n 1) y6 (.sl 1 0 m none m 3) (.i (i : Int)) (.i w) (.i o) (.i 0)) [.arr 1 gs true 0, .arr 3 os true 0] :=
  RunsTo.hin 0 60 [] fun kf hk => ⟨_, by kernel_rfl, .nil⟩
theorem jn_l_0 (es : List HV) (n : Nat) (gs : List HV) (m : Nat) (os : List HV) (i : Nat) (ec : Int) (ea eb : Nat) (o w : Int) (j : Nat) {y6 : HV} {x0 : Int} {el0 : List HV} (g0 : (j : Int) < (n : Int)) (g1 : idxV Tp 23 (.sl 0 0 n (some n) n 1) (.i (j : Int)) = some (.ptr 0 j 0 n)) (g2 : loadV Tp [.arr 1 gs true 0, .arr 3 os true 0] 3 (.ptr 0 j 0 n) = some (.i x0)) (g3 : x0 = o) (g4 : idxV Tp 23 (.sl 0 0 n (some n) n 1) (.i (j : Int)) = some (.ptr 0 j 0 n)) (g5 : storeV Tp [.arr 1 gs true 0, .arr 3 os true 0] 3 (.ptr 0 j 0 n) (.i w) = some [.arr 1 el0 true 0, .arr 3 os true 0]) : RT polW 65 (sub [1, 1, 1, 1, 0, 1, 0, 0, 1, 0, 0, 1, 1, 1, 1, 0, 0] B65) (env65 (.imm .arg 3 es) (.i (n : Int)) (.imm .lit 3 []) (.sl 0 0 n (some n) n 1) y6 (.sl 1 0 m none m 3) (.i (i : Int)) (.i w) (.i o) (.i (j : Int))) [.arr 1 gs true 0, .arr 3 os true 0] .normal (env65 (.imm .arg 3 es) (.i (n : Int)) (.imm .lit 3 []) (.sl 0 0 n (some n) n 1) y6 (.sl 1 0 m none m 3) (.i (i : Int)) (.i w) (.i o) (.i (IntKind.i64.wrap ((j : Int) + 1)))) [.arr 1 el0 true 0, .arr 3 os true 0] :=
  RunsTo.hin 0 60 [⟨14, 2, .bool true, [.arr 1 gs true 0, .arr 3 os true 0]⟩, ⟨16, 2, .ptr 0 j 0 n, [.arr 1 gs true 0, .arr 3 os true 0]⟩, ⟨16, 3, .i x0, [.arr 1 gs true 0, .arr 3 os true 0]⟩, ⟨16, 5, .bool true, [.arr 1 gs true 0, .arr 3 os true 0]⟩, ⟨17, 3, .ptr 0 j 0 n, [.arr 1 gs true 0, .arr 3 os true 0]⟩, ⟨17, 4, .tuple [], [.arr 1 el0 true 0, .arr 3 os true 0]⟩] fun kf hk => ⟨_, by kernel_rfl, (oB [.arr 1 gs true 0, .arr 3 os true 0] (decide_eq_true g0) (oP [.arr 1 gs true 0, .arr 3 os true 0] g1 (oP [.arr 1 gs true 0, .arr 3 os true 0] g2 (oB [.arr 1 gs true 0, .arr 3 os true 0] (decide_eq_true g3) (oP [.arr 1 gs true 0, .arr 3 os true 0] g4 (oS g5 .nil))))))⟩
theorem jn_l_1 (es : List HV) (n : Nat) (gs : List HV) (m : Nat) (os : List HV) (i : Nat) (ec : Int) (ea eb : Nat) (o w : Int) (j : Nat) {y6 : HV} {x0 : Int} (g0 : (j : Int) < (n : Int)) (g1 : idxV Tp 23 (.sl 0 0 n (some n) n 1) (.i (j : Int)) = some (.ptr 0 j 0 n)) (g2 : loadV Tp [.arr 1 gs true 0, .arr 3 os true 0] 3 (.ptr 0 j 0 n) = some (.i x0)) (g3 : ¬ (x0 = o)) : RT polW 65 (sub [1, 1, 1, 1, 0, 1, 0, 0, 1, 0, 0, 1, 1, 1, 1, 0, 0] B65) (env65 (.imm .arg 3 es) (.i (n : Int)) (.imm .lit 3 []) (.sl 0 0 n (some n) n 1) y6 (.sl 1 0 m none m 3) (.i (i : Int)) (.i w) (.i o) (.i (j : Int))) [.arr 1 gs true 0, .arr 3 os true 0] .normal (env65 (.imm .arg 3 es) (.i (n : Int)) (.imm .lit 3 []) (.sl 0 0 n (some n) n 1) y6 (.sl 1 0 m none m 3) (.i (i : Int)) (.i w) (.i o) (.i (IntKind.i64.wrap ((j : Int) + 1)))) [.arr 1 gs true 0, .arr 3 os true 0] :=
  RunsTo.hin 0 60 [⟨14, 2, .bool true, [.arr 1 gs true 0, .arr 3 os true 0]⟩, ⟨16, 2, .ptr 0 j 0 n, [.arr 1 gs true 0, .arr 3 os true 0]⟩, ⟨16, 3, .i x0, [.arr 1 gs true 0, .arr 3 os true 0]⟩, ⟨16, 5, .bool false, [.arr 1 gs true 0, .arr 3 os true 0]⟩] fun kf hk => ⟨_, by kernel_rfl, (oB [.arr 1 gs true 0, .arr 3 os true 0] (decide_eq_true g0) (oP [.arr 1 gs true 0, .arr 3 os true 0] g1 (oP [.arr 1 gs true 0, .arr 3 os true 0] g2 (oB [.arr 1 gs true 0, .arr 3 os true 0] (decide_eq_false g3) .nil))))⟩
theorem jn_l_2 (es : List HV) (n : Nat) (gs : List HV) (m : Nat) (os : List HV) (i : Nat) (ec : Int) (ea eb : Nat) (o w : Int) (j : Nat) {y6 : HV}(g0 : ¬ ((j : Int) < (n : Int))) : RT polW 65 (sub [1, 1, 1, 1, 0, 1, 0, 0, 1, 0, 0, 1, 1, 1, 1, 0, 0] B65) (env65 (.imm .arg 3 es) (.i (n : Int)) (.imm .lit 3 []) (.sl 0 0 n (some n) n 1) y6 (.sl 1 0 m none m 3) (.i (i : Int)) (.i w) (.i o) (.i (j : Int))) [.arr 1 gs true 0, .arr 3 os true 0] (.exit 4) (env65 (.imm .arg 3 es) (.i (n : Int)) (.imm .lit 3 []) (.sl 0 0 n (some n) n 1) y6 (.sl 1 0 m none m 3) (.i (i : Int)) (.i w) (.i o) (.i (j : Int))) [.arr 1 gs true 0, .arr 3 os true 0] :=
  RunsTo.hin 0 60 [⟨14, 2, .bool false, [.arr 1 gs true 0, .arr 3 os true 0]⟩] fun kf hk => ⟨_, by kernel_rfl, (oB [.arr 1 gs true 0, .arr 3 os true 0] (decide_eq_false g0) .nil)⟩
theorem jn_m_0 (es : List HV) (n : Nat) (gs : List HV) (m : Nat) (os : List HV) (i : Nat) {y6 y9 y10 y11 : HV} : RT polW 65 (sub [1, 1, 1, 1, 0, 1, 0, 0, 1, 1] B65) (env65 (.imm .arg 3 es) (.i (n : Int)) (.imm .lit 3 []) (.sl 0 0 n (some n) n 1) y6 (.sl 1 0 m none m 3) (.i (i : Int)) y9 y10 y11) [.arr 1 gs true 0, .arr 3 os true 0] .normal (env65 (.imm .arg 3 es) (.i (n : Int)) (.imm .lit 3 []) (.sl 0 0 n (some n) n 1) y6 (.sl 1 0 m none m 3) (.i (IntKind.i64.wrap ((i : Int) + 1))) y9 y10 y11) [.arr 1 gs true 0, .arr 3 os true 0] :=
  RunsTo.hin 0 60 [] fun kf hk => ⟨_, by kernel_rfl, .nil⟩
theorem jn_n_0 (es : List HV) (n : Nat) (gs : List HV) (m : Nat) (os : List HV) {y6 y8 y9 y10 y11 : HV} : RT polW 65 (sub [1, 1, 1, 1, 1] B65) (env65 (.imm .arg 3 es) (.i (n : Int)) (.imm .lit 3 []) (.sl 0 0 n (some n) n 1) y6 (.sl 1 0 m none m 3) y8 y9 y10 y11) [.arr 1 gs true 0, .arr 3 os true 0] .ret (env65 (.imm .arg 3 es) (.i (n : Int)) (.sl 1 0 m none m 3) (.sl 0 0 n (some n) n 1) y6 (.sl 1 0 m none m 3) y8 y9 y10 y11) [.arr 1 gs true 0, .arr 3 os true 0] :=
  RunsTo.hin 0 60 [] fun kf hk => ⟨_, by kernel_rfl, .nil⟩
end Go.Proofs.Ytlendaofkmhgmaa
end
