/- A part of the proof. -/
import Derived.Test.YtlendaofkmhgmaaP7B
set_option linter.unusedVariables false
set_option linter.unusedSimpArgs false
section
open Go Go.HL
namespace Go.Proofs.Ytlendaofkmhgmaa
set_option maxRecDepth 100000
open Go.Proofs.Try renaming prog → Tp
open Go.HL.HV renaming undef → Ud
noncomputable def B61 : Code := Try.f61.body.getD .skip
abbrev env61 (v0 v1 v2 v5 v6 v7 v8 v9 v11 v12 v13 v14 v19 v20 v31 v32 v33 v55 v56 : HV) : Env := [(0, v0), (1, v1), (2, v2), (5, v5), (6, v6), (7, v7), (8, v8), (9, v9), (11, v11), (12, v12), (13, v13), (14, v14), (19, v19), (20, v20), (31, v31), (32, v32), (33, v33), (55, v55), (56, v56)]
theorem spn_a_0 (rw ps : List HV) (f : Nat) (g0 : (if (cellsOf (.agg ps)).all cellV then some (newV (.agg ps) []) else none) = some (.ptr 0 0 0 1, [.arr 11 [.agg ps] true 0])) : RT polSp 61 (sub [0] B61) [(0, .imm .arg 1 rw), (1, .i (f : Int)), (2, .agg ps)] [] .normal (env61 (.imm .arg 1 rw) (.i (f : Int)) (.agg ps) (.ptr 0 0 0 1) (.imm .lit 3 []) Ud Ud Ud Ud Ud Ud Ud Ud Ud Ud Ud Ud Ud Ud) [.arr 11 [.agg ps] true 0] :=
  RunsTo.hin 0 60 [⟨0, 0, .ptr 0 0 0 1, [.arr 11 [.agg ps] true 0]⟩] fun kf hk => ⟨_, by kernel_rfl, (oC (g0) .nil)⟩
theorem spn_b_0 (rw ps : List HV) (f : Nat)  {y7 y8 y9 y11 y12 y13 y14 y19 y20 y31 y32 y33 y55 y56 : HV}(g0 : makeV Tp false 23 (.i (rw.length : Int)) (.i (rw.length : Int)) [.arr 11 [.agg ps] true 0] = some (.sl 1 0 rw.length (some rw.length) rw.length 1, [.arr 11 [.agg ps] true 0, .arr 1 (List.replicate rw.length (.i 0)) true 0])) : RT polSp 61 (sub [1, 0] B61) (env61 (.imm .arg 1 rw) (.i (f : Int)) (.agg ps) (.ptr 0 0 0 1) (.imm .lit 3 []) y7 y8 y9 y11 y12 y13 y14 y19 y20 y31 y32 y33 y55 y56) [.arr 11 [.agg ps] true 0] .normal (env61 (.imm .arg 1 rw) (.i (f : Int)) (.agg ps) (.ptr 0 0 0 1) (.imm .lit 3 []) (.sl 1 0 rw.length (some rw.length) rw.length 1) y8 y9 y11 y12 y13 y14 y19 y20 y31 y32 y33 y55 y56) [.arr 11 [.agg ps] true 0, .arr 1 (List.replicate rw.length (.i 0)) true 0] :=
  RunsTo.hin 0 60 [⟨1, 2, .sl 1 0 rw.length (some rw.length) rw.length 1, [.arr 11 [.agg ps] true 0, .arr 1 (List.replicate rw.length (.i 0)) true 0]⟩] fun kf hk => ⟨_, by kernel_rfl, (oC (g0) .nil)⟩
theorem spn_c_0 (rw ps : List HV) (f : Nat) (n : Nat) (gs : List HV) {y8 y9 y11 y12 y13 y14 y19 y20 y31 y32 y33 y55 y56 : HV} : RT polSp 61 (sub [1, 1, 0, 0] B61) (env61 (.imm .arg 1 rw) (.i (f : Int)) (.agg ps) (.ptr 0 0 0 1) (.imm .lit 3 []) (.sl 1 0 n (some n) n 1) y8 y9 y11 y12 y13 y14 y19 y20 y31 y32 y33 y55 y56) [.arr 11 [.agg ps] true 0, .arr 1 gs true 0] .normal (env61 (.imm .arg 1 rw) (.i (f : Int)) (.agg ps) (.ptr 0 0 0 1) (.imm .lit 3 []) (.sl 1 0 n (some n) n 1) y8 y9 y11 y12 y13 y14 (.i (n : Int)) (.i 0) y31 y32 y33 y55 y56) [.arr 11 [.agg ps] true 0, .arr 1 gs true 0] :=
  RunsTo.hin 0 60 [] fun kf hk => ⟨_, by kernel_rfl, .nil⟩
theorem spn_d_0 (rw ps : List HV) (f : Nat) (n : Nat) (gs : List HV) (i : Nat) {y8 y9 y11 y12 y13 y14 y31 y32 y33 y55 y56 : HV} {el0 : List HV} (g0 : (i : Int) < (n : Int)) (g1 : idxV Tp 23 (.sl 1 0 n (some n) n 1) (.i (i : Int)) = some (.ptr 1 i 0 n)) (g2 : storeV Tp [.arr 11 [.agg ps] true 0, .arr 1 gs true 0] 3 (.ptr 1 i 0 n) (.i (i : Int)) = some [.arr 11 [.agg ps] true 0, .arr 1 el0 true 0]) : RT polSp 61 (sub [1, 1, 0, 1, 0, 0] B61) (env61 (.imm .arg 1 rw) (.i (f : Int)) (.agg ps) (.ptr 0 0 0 1) (.imm .lit 3 []) (.sl 1 0 n (some n) n 1) y8 y9 y11 y12 y13 y14 (.i (n : Int)) (.i (i : Int)) y31 y32 y33 y55 y56) [.arr 11 [.agg ps] true 0, .arr 1 gs true 0] .normal (env61 (.imm .arg 1 rw) (.i (f : Int)) (.agg ps) (.ptr 0 0 0 1) (.imm .lit 3 []) (.sl 1 0 n (some n) n 1) (.i (i : Int)) y9 y11 y12 y13 y14 (.i (n : Int)) (.i (IntKind.i64.wrap ((i : Int) + 1))) y31 y32 y33 y55 y56) [.arr 11 [.agg ps] true 0, .arr 1 el0 true 0] :=
  RunsTo.hin 0 60 [⟨3, 0, .bool true, [.arr 11 [.agg ps] true 0, .arr 1 gs true 0]⟩, ⟨5, 3, .ptr 1 i 0 n, [.arr 11 [.agg ps] true 0, .arr 1 gs true 0]⟩, ⟨5, 4, .tuple [], [.arr 11 [.agg ps] true 0, .arr 1 el0 true 0]⟩] fun kf hk => ⟨_, by kernel_rfl, (oB [.arr 11 [.agg ps] true 0, .arr 1 gs true 0] (decide_eq_true g0) (oP [.arr 11 [.agg ps] true 0, .arr 1 gs true 0] g1 (oS g2 .nil)))⟩
theorem spn_d_1 (rw ps : List HV) (f : Nat) (n : Nat) (gs : List HV) (i : Nat) {y8 y9 y11 y12 y13 y14 y31 y32 y33 y55 y56 : HV}(g0 : ¬ ((i : Int) < (n : Int))) : RT polSp 61 (sub [1, 1, 0, 1, 0, 0] B61) (env61 (.imm .arg 1 rw) (.i (f : Int)) (.agg ps) (.ptr 0 0 0 1) (.imm .lit 3 []) (.sl 1 0 n (some n) n 1) y8 y9 y11 y12 y13 y14 (.i (n : Int)) (.i (i : Int)) y31 y32 y33 y55 y56) [.arr 11 [.agg ps] true 0, .arr 1 gs true 0] (.exit 0) (env61 (.imm .arg 1 rw) (.i (f : Int)) (.agg ps) (.ptr 0 0 0 1) (.imm .lit 3 []) (.sl 1 0 n (some n) n 1) y8 y9 y11 y12 y13 y14 (.i (n : Int)) (.i (i : Int)) y31 y32 y33 y55 y56) [.arr 11 [.agg ps] true 0, .arr 1 gs true 0] :=
  RunsTo.hin 0 60 [⟨3, 0, .bool false, [.arr 11 [.agg ps] true 0, .arr 1 gs true 0]⟩] fun kf hk => ⟨_, by kernel_rfl, (oB [.arr 11 [.agg ps] true 0, .arr 1 gs true 0] (decide_eq_false g0) .nil)⟩
theorem spn_e_0 (rw ps : List HV) (f : Nat) (n : Nat) (gs : List HV) {y8 y9 y11 y12 y13 y14 y19 y20 y31 y32 y33 y55 y56 : HV} : RT polSp 61 (sub [1, 1, 1, 0] B61) (env61 (.imm .arg 1 rw) (.i (f : Int)) (.agg ps) (.ptr 0 0 0 1) (.imm .lit 3 []) (.sl 1 0 n (some n) n 1) y8 y9 y11 y12 y13 y14 y19 y20 y31 y32 y33 y55 y56) [.arr 11 [.agg ps] true 0, .arr 1 gs true 0] .normal (env61 (.imm .arg 1 rw) (.i (f : Int)) (.agg ps) (.ptr 0 0 0 1) (.imm .lit 3 []) (.sl 1 0 n (some n) n 1) y8 (.sl 2 0 0 none 0 3) y11 y12 y13 y14 y19 y20 y31 y32 y33 y55 y56) [.arr 11 [.agg ps] true 0, .arr 1 gs true 0, .arr 3 [] true 0] :=
  RunsTo.hin 0 60 [] fun kf hk => ⟨_, by kernel_rfl, .nil⟩
theorem spn_f_0 (rw ps : List HV) (f : Nat) (n : Nat) (gs : List HV) (m : Nat) (os : List HV) {y8 y11 y12 y13 y14 y19 y20 y31 y32 y33 y55 y56 : HV} {q : Nat} {es : List HV} (g0 : loadV Tp [.arr 11 [.agg ps] true 0, .arr 1 gs true 0, .arr 3 os true 0] 66 (.ptr 0 0 0 1) = some (.agg ps)) (g1 : ∀ kf, callN Tp polSp (kf + 1) 70 [.imm .arg 1 rw, .i (f : Int), .agg ps] [.arr 11 [.agg ps] true 0, .arr 1 gs true 0, .arr 3 os true 0] = some (.sl 3 0 q none q 3, [.arr 11 [.agg ps] true 0, .arr 1 gs true 0, .arr 3 os true 0, .arr 3 es true 0])) : RT polSp 61 (sub [1, 1, 1, 1, 0, 0] B61) (env61 (.imm .arg 1 rw) (.i (f : Int)) (.agg ps) (.ptr 0 0 0 1) (.imm .lit 3 []) (.sl 1 0 n (some n) n 1) y8 (.sl 2 0 m none m 3) y11 y12 y13 y14 y19 y20 y31 y32 y33 y55 y56) [.arr 11 [.agg ps] true 0, .arr 1 gs true 0, .arr 3 os true 0] .normal (env61 (.imm .arg 1 rw) (.i (f : Int)) (.agg ps) (.ptr 0 0 0 1) (.imm .lit 3 []) (.sl 1 0 n (some n) n 1) y8 (.sl 2 0 m none m 3) y11 y12 y13 y14 y19 y20 (.sl 3 0 q none q 3) (.i (q : Int)) (.i 0) y55 y56) [.arr 11 [.agg ps] true 0, .arr 1 gs true 0, .arr 3 os true 0, .arr 3 es true 0] :=
  RunsTo.hin 0 60 [⟨8, 2, .agg ps, [.arr 11 [.agg ps] true 0, .arr 1 gs true 0, .arr 3 os true 0]⟩, ⟨8, 3, .sl 3 0 q none q 3, [.arr 11 [.agg ps] true 0, .arr 1 gs true 0, .arr 3 os true 0, .arr 3 es true 0]⟩] fun kf hk => ⟨_, by kernel_rfl, (oP [.arr 11 [.agg ps] true 0, .arr 1 gs true 0, .arr 3 os true 0] g0 (oC (g1 kf) .nil))⟩
theorem spn_g_0 (rw ps : List HV) (f : Nat) (n : Nat) (gs : List HV) (m : Nat) (os : List HV) (q : Nat) (es : List HV) (i : Nat) {y5 y8 y11 y12 y13 y14 y19 y20 y55 y56 : HV}(g0 : (i : Int) < (q : Int)) : RunsTo Tp polSp 61 (sub [1, 1, 1, 1, 0, 1, 0, 0, 0] B61) (env61 (.imm .arg 1 rw) (.i (f : Int)) (.agg ps) y5 (.imm .lit 3 []) (.sl 1 0 n (some n) n 1) y8 (.sl 2 0 m none m 3) y11 y12 y13 y14 y19 y20 (.sl 3 0 q none q 3) (.i (q : Int)) (.i (i : Int)) y55 y56) [.arr 11 [.agg ps] true 0, .arr 1 gs true 0, .arr 3 os true 0, .arr 3 es true 0] .normal [0, 1, 2, 5, 6, 7, 8, 9, 11, 12, 13, 14, 19, 20, 31, 32, 33, 55, 56, 34] [(0, .imm .arg 1 rw), (1, .i (f : Int)), (2, .agg ps), (5, y5), (6, .imm .lit 3 []), (7, .sl 1 0 n (some n) n 1), (8, y8), (9, .sl 2 0 m none m 3), (11, y11), (12, y12), (13, y13), (14, y14), (19, y19), (20, y20), (31, .sl 3 0 q none q 3), (32, .i (q : Int)), (33, .i (i : Int)), (55, y55), (56, y56), (34, .bool true)] [.arr 11 [.agg ps] true 0, .arr 1 gs true 0, .arr 3 os true 0, .arr 3 es true 0] :=
  RunsTo.hin 0 60 [⟨9, 0, .bool true, [.arr 11 [.agg ps] true 0, .arr 1 gs true 0, .arr 3 os true 0, .arr 3 es true 0]⟩] fun kf hk => ⟨_, by kernel_rfl, (oB [.arr 11 [.agg ps] true 0, .arr 1 gs true 0, .arr 3 os true 0, .arr 3 es true 0] (decide_eq_true g0) .nil)⟩
theorem spn_g_1 (rw ps : List HV) (f : Nat) (n : Nat) (gs : List HV) (m : Nat) (os : List HV) (q : Nat) (es : List HV) (i : Nat) {y5 y8 y11 y12 y13 y14 y19 y20 y55 y56 : HV}(g0 : ¬ ((i : Int) < (q : Int))) : RunsTo Tp polSp 61 (sub [1, 1, 1, 1, 0, 1, 0, 0, 0] B61) (env61 (.imm .arg 1 rw) (.i (f : Int)) (.agg ps) y5 (.imm .lit 3 []) (.sl 1 0 n (some n) n 1) y8 (.sl 2 0 m none m 3) y11 y12 y13 y14 y19 y20 (.sl 3 0 q none q 3) (.i (q : Int)) (.i (i : Int)) y55 y56) [.arr 11 [.agg ps] true 0, .arr 1 gs true 0, .arr 3 os true 0, .arr 3 es true 0] .normal [0, 1, 2, 5, 6, 7, 8, 9, 11, 12, 13, 14, 19, 20, 31, 32, 33, 55, 56, 34] [(0, .imm .arg 1 rw), (1, .i (f : Int)), (2, .agg ps), (5, y5), (6, .imm .lit 3 []), (7, .sl 1 0 n (some n) n 1), (8, y8), (9, .sl 2 0 m none m 3), (11, y11), (12, y12), (13, y13), (14, y14), (19, y19), (20, y20), (31, .sl 3 0 q none q 3), (32, .i (q : Int)), (33, .i (i : Int)), (55, y55), (56, y56), (34, .bool false)] [.arr 11 [.agg ps] true 0, .arr 1 gs true 0, .arr 3 os true 0, .arr 3 es true 0] :=
  RunsTo.hin 0 60 [⟨9, 0, .bool false, [.arr 11 [.agg ps] true 0, .arr 1 gs true 0, .arr 3 os true 0, .arr 3 es true 0]⟩] fun kf hk => ⟨_, by kernel_rfl, (oB [.arr 11 [.agg ps] true 0, .arr 1 gs true 0, .arr 3 os true 0, .arr 3 es true 0] (decide_eq_false g0) .nil)⟩
theorem spn_ht_0 (rw ps : List HV) (f : Nat) (n : Nat) (gs : List HV) (m : Nat) (os : List HV) (q : Nat) (es : List HV) (i : Nat) {y5 y8 y11 y12 y13 y14 y19 y20 y55 y56 : HV} : RT polSp 61 (sub [1, 1, 1, 1, 0, 1, 0, 0, 1, 0] B61) [(0, .imm .arg 1 rw), (1, .i (f : Int)), (2, .agg ps), (5, y5), (6, .imm .lit 3 []), (7, .sl 1 0 n (some n) n 1), (8, y8), (9, .sl 2 0 m none m 3), (11, y11), (12, y12), (13, y13), (14, y14), (19, y19), (20, y20), (31, .sl 3 0 q none q 3), (32, .i (q : Int)), (33, .i (i : Int)), (55, y55), (56, y56), (34, .bool true)] [.arr 11 [.agg ps] true 0, .arr 1 gs true 0, .arr 3 os true 0, .arr 3 es true 0] .normal (env61 (.imm .arg 1 rw) (.i (f : Int)) (.agg ps) y5 (.imm .lit 3 []) (.sl 1 0 n (some n) n 1) y8 (.sl 2 0 m none m 3) y11 y12 y13 y14 y19 y20 (.sl 3 0 q none q 3) (.i (q : Int)) (.i (i : Int)) y55 y56) [.arr 11 [.agg ps] true 0, .arr 1 gs true 0, .arr 3 os true 0, .arr 3 es true 0] :=
  RunsTo.hin 0 60 [] fun kf hk => ⟨_, by kernel_rfl, .nil⟩
theorem spn_hf_0 (rw ps : List HV) (f : Nat) (n : Nat) (gs : List HV) (m : Nat) (os : List HV) (q : Nat) (es : List HV) (i : Nat) {y5 y8 y11 y12 y13 y14 y19 y20 y55 y56 : HV} : RT polSp 61 (sub [1, 1, 1, 1, 0, 1, 0, 0, 1, 0] B61) [(0, .imm .arg 1 rw), (1, .i (f : Int)), (2, .agg ps), (5, y5), (6, .imm .lit 3 []), (7, .sl 1 0 n (some n) n 1), (8, y8), (9, .sl 2 0 m none m 3), (11, y11), (12, y12), (13, y13), (14, y14), (19, y19), (20, y20), (31, .sl 3 0 q none q 3), (32, .i (q : Int)), (33, .i (i : Int)), (55, y55), (56, y56), (34, .bool false)] [.arr 11 [.agg ps] true 0, .arr 1 gs true 0, .arr 3 os true 0, .arr 3 es true 0] (.exit 2) (env61 (.imm .arg 1 rw) (.i (f : Int)) (.agg ps) y5 (.imm .lit 3 []) (.sl 1 0 n (some n) n 1) y8 (.sl 2 0 m none m 3) y11 y12 y13 y14 y19 y20 (.sl 3 0 q none q 3) (.i (q : Int)) (.i (i : Int)) y55 y56) [.arr 11 [.agg ps] true 0, .arr 1 gs true 0, .arr 3 os true 0, .arr 3 es true 0] :=
  RunsTo.hin 0 60 [] fun kf hk => ⟨_, by kernel_rfl, .nil⟩
theorem spn_i_0 (rw ps : List HV) (f : Nat) (n : Nat) (gs : List HV) (m : Nat) (os : List HV) (q : Nat) (es : List HV) (i : Nat) (ec : Int) (ea eb : Nat) {y5 y8 y11 y12 y13 y14 y19 y20 y55 y56 : HV}(g0 : idxV Tp 88 (.sl 3 0 q none q 3) (.i (i : Int)) = some (.ptr 3 i 0 q)) (g1 : loadV Tp [.arr 11 [.agg ps] true 0, .arr 1 gs true 0, .arr 3 os true 0, .arr 3 es true 0] 91 (.ptr 3 i 0 q) = some (.agg [.i ec, .i (ea : Int), .i (eb : Int)])) : RT polSp 61 (sub [1, 1, 1, 1, 0, 1, 0, 0, 1, 1, 0, 0, 0] B61) (env61 (.imm .arg 1 rw) (.i (f : Int)) (.agg ps) y5 (.imm .lit 3 []) (.sl 1 0 n (some n) n 1) y8 (.sl 2 0 m none m 3) y11 y12 y13 y14 y19 y20 (.sl 3 0 q none q 3) (.i (q : Int)) (.i (i : Int)) y55 y56) [.arr 11 [.agg ps] true 0, .arr 1 gs true 0, .arr 3 os true 0, .arr 3 es true 0] .normal (env61 (.imm .arg 1 rw) (.i (f : Int)) (.agg ps) y5 (.imm .lit 3 []) (.sl 1 0 n (some n) n 1) y8 (.sl 2 0 m none m 3) (.ptr 4 0 0 1) y12 y13 y14 y19 y20 (.sl 3 0 q none q 3) (.i (q : Int)) (.i (i : Int)) y55 y56) [.arr 11 [.agg ps] true 0, .arr 1 gs true 0, .arr 3 os true 0, .arr 3 es true 0, .arr 3 [.agg [.i ec, .i (ea : Int), .i (eb : Int)]] true 0] :=
  RunsTo.hin 0 60 [⟨10, 0, .ptr 3 i 0 q, [.arr 11 [.agg ps] true 0, .arr 1 gs true 0, .arr 3 os true 0, .arr 3 es true 0]⟩, ⟨10, 1, .agg [.i ec, .i (ea : Int), .i (eb : Int)], [.arr 11 [.agg ps] true 0, .arr 1 gs true 0, .arr 3 os true 0, .arr 3 es true 0]⟩] fun kf hk => ⟨_, by kernel_rfl, (oP [.arr 11 [.agg ps] true 0, .arr 1 gs true 0, .arr 3 os true 0, .arr 3 es true 0] g0 (oP [.arr 11 [.agg ps] true 0, .arr 1 gs true 0, .arr 3 os true 0, .arr 3 es true 0] g1 .nil))⟩
theorem spn_j_0 (rw ps : List HV) (f : Nat) (n : Nat) (gs : List HV) (m : Nat) (os : List HV) (q : Nat) (es : List HV) (i : Nat) (ec : Int) (ea eb : Nat) {y5 y8 y12 y13 y14 y19 y20 y55 y56 : HV} {x0 : Int} {x1 : Int} (g0 : idxV Tp 23 (.sl 1 0 n (some n) n 1) (.i (ea : Int)) = some (.ptr 1 ea 0 n)) (g1 : loadV Tp [.arr 11 [.agg ps] true 0, .arr 1 gs true 0, .arr 3 os true 0, .arr 3 es true 0, .arr 3 [.agg [.i ec, .i (ea : Int), .i (eb : Int)]] true 0] 3 (.ptr 1 ea 0 n) = some (.i x0)) (g2 : idxV Tp 23 (.sl 1 0 n (some n) n 1) (.i (eb : Int)) = some (.ptr 1 eb 0 n)) (g3 : loadV Tp [.arr 11 [.agg ps] true 0, .arr 1 gs true 0, .arr 3 os true 0, .arr 3 es true 0, .arr 3 [.agg [.i ec, .i (ea : Int), .i (eb : Int)]] true 0] 3 (.ptr 1 eb 0 n) = some (.i x1)) : RT polSp 61 (sub [1, 1, 1, 1, 0, 1, 0, 0, 1, 1, 0, 0, 1, 0] B61) (env61 (.imm .arg 1 rw) (.i (f : Int)) (.agg ps) y5 (.imm .lit 3 []) (.sl 1 0 n (some n) n 1) y8 (.sl 2 0 m none m 3) (.ptr 4 0 0 1) y12 y13 y14 y19 y20 (.sl 3 0 q none q 3) (.i (q : Int)) (.i (i : Int)) y55 y56) [.arr 11 [.agg ps] true 0, .arr 1 gs true 0, .arr 3 os true 0, .arr 3 es true 0, .arr 3 [.agg [.i ec, .i (ea : Int), .i (eb : Int)]] true 0] .normal (env61 (.imm .arg 1 rw) (.i (f : Int)) (.agg ps) y5 (.imm .lit 3 []) (.sl 1 0 n (some n) n 1) y8 (.sl 2 0 m none m 3) (.ptr 4 0 0 1) (.i x0) (.i x1) y14 y19 y20 (.sl 3 0 q none q 3) (.i (q : Int)) (.i (i : Int)) y55 y56) [.arr 11 [.agg ps] true 0, .arr 1 gs true 0, .arr 3 os true 0, .arr 3 es true 0, .arr 3 [.agg [.i ec, .i (ea : Int), .i (eb : Int)]] true 0] :=
  RunsTo.hin 0 60 [⟨11, 3, .ptr 1 ea 0 n, [.arr 11 [.agg ps] true 0, .arr 1 gs true 0, .arr 3 os true 0, .arr 3 es true 0, .arr 3 [.agg [.i ec, .i (ea : Int), .i (eb : Int)]] true 0]⟩, ⟨11, 4, .i x0, [.arr 11 [.agg ps] true 0, .arr 1 gs true 0, .arr 3 os true 0, .arr 3 es true 0, .arr 3 [.agg [.i ec, .i (ea : Int), .i (eb : Int)]] true 0]⟩, ⟨11, 8, .ptr 1 eb 0 n, [.arr 11 [.agg ps] true 0, .arr 1 gs true 0, .arr 3 os true 0, .arr 3 es true 0, .arr 3 [.agg [.i ec, .i (ea : Int), .i (eb : Int)]] true 0]⟩, ⟨11, 9, .i x1, [.arr 11 [.agg ps] true 0, .arr 1 gs true 0, .arr 3 os true 0, .arr 3 es true 0, .arr 3 [.agg [.i ec, .i (ea : Int), .i (eb : Int)]] true 0]⟩] fun kf hk => ⟨_, by kernel_rfl, (oP [.arr 11 [.agg ps] true 0, .arr 1 gs true 0, .arr 3 os true 0, .arr 3 es true 0, .arr 3 [.agg [.i ec, .i (ea : Int), .i (eb : Int)]] true 0] g0 (oP [.arr 11 [.agg ps] true 0, .arr 1 gs true 0, .arr 3 os true 0, .arr 3 es true 0, .arr 3 [.agg [.i ec, .i (ea : Int), .i (eb : Int)]] true 0] g1 (oP [.arr 11 [.agg ps] true 0, .arr 1 gs true 0, .arr 3 os true 0, .arr 3 es true 0, .arr 3 [.agg [.i ec, .i (ea : Int), .i (eb : Int)]] true 0] g2 (oP [.arr 11 [.agg ps] true 0, .arr 1 gs true 0, .arr 3 os true 0, .arr 3 es true 0, .arr 3 [.agg [.i ec, .i (ea : Int), .i (eb : Int)]] true 0] g3 .nil))))⟩
theorem spn_k_0 (rw ps : List HV) (f : Nat) (n : Nat) (gs : List HV) (m : Nat) (os : List HV) (q : Nat) (es : List HV) (i : Nat) (ec : Int) (ea eb : Nat) (o w : Int) {y5 y8 y14 y19 y20 y55 y56 : HV}(g0 : o = w) : RT polSp 61 (sub [1, 1, 1, 1, 0, 1, 0, 0, 1, 1, 0, 0, 1, 1, 0] B61) (env61 (.imm .arg 1 rw) (.i (f : Int)) (.agg ps) y5 (.imm .lit 3 []) (.sl 1 0 n (some n) n 1) y8 (.sl 2 0 m none m 3) (.ptr 4 0 0 1) (.i o) (.i w) y14 y19 y20 (.sl 3 0 q none q 3) (.i (q : Int)) (.i (i : Int)) y55 y56) [.arr 11 [.agg ps] true 0, .arr 1 gs true 0, .arr 3 os true 0, .arr 3 es true 0, .arr 3 [.agg [.i ec, .i (ea : Int), .i (eb : Int)]] true 0] (.exit 3) (env61 (.imm .arg 1 rw) (.i (f : Int)) (.agg ps) y5 (.imm .lit 3 []) (.sl 1 0 n (some n) n 1) y8 (.sl 2 0 m none m 3) (.ptr 4 0 0 1) (.i o) (.i w) y14 y19 y20 (.sl 3 0 q none q 3) (.i (q : Int)) (.i (i : Int)) y55 y56) [.arr 11 [.agg ps] true 0, .arr 1 gs true 0, .arr 3 os true 0, .arr 3 es true 0, .arr 3 [.agg [.i ec, .i (ea : Int), .i (eb : Int)]] true 0] :=
  RunsTo.hin 0 60 [⟨12, 2, .bool true, [.arr 11 [.agg ps] true 0, .arr 1 gs true 0, .arr 3 os true 0, .arr 3 es true 0, .arr 3 [.agg [.i ec, .i (ea : Int), .i (eb : Int)]] true 0]⟩] fun kf hk => ⟨_, by kernel_rfl, (oB [.arr 11 [.agg ps] true 0, .arr 1 gs true 0, .arr 3 os true 0, .arr 3 es true 0, .arr 3 [.agg [.i ec, .i (ea : Int), .i (eb : Int)]] true 0] (decide_eq_true g0) .nil)⟩
theorem spn_k_1 (rw ps : List HV) (f : Nat) (n : Nat) (gs : List HV) (m : Nat) (os : List HV) (q : Nat) (es : List HV) (i : Nat) (ec : Int) (ea eb : Nat) (o w : Int) {y5 y8 y14 y19 y20 y55 y56 : HV}(g0 : ¬ (o = w)) : RT polSp 61 (sub [1, 1, 1, 1, 0, 1, 0, 0, 1, 1, 0, 0, 1, 1, 0] B61) (env61 (.imm .arg 1 rw) (.i (f : Int)) (.agg ps) y5 (.imm .lit 3 []) (.sl 1 0 n (some n) n 1) y8 (.sl 2 0 m none m 3) (.ptr 4 0 0 1) (.i o) (.i w) y14 y19 y20 (.sl 3 0 q none q 3) (.i (q : Int)) (.i (i : Int)) y55 y56) [.arr 11 [.agg ps] true 0, .arr 1 gs true 0, .arr 3 os true 0, .arr 3 es true 0, .arr 3 [.agg [.i ec, .i (ea : Int), .i (eb : Int)]] true 0] .normal (env61 (.imm .arg 1 rw) (.i (f : Int)) (.agg ps) y5 (.imm .lit 3 []) (.sl 1 0 n (some n) n 1) y8 (.sl 2 0 m none m 3) (.ptr 4 0 0 1) (.i o) (.i w) y14 y19 y20 (.sl 3 0 q none q 3) (.i (q : Int)) (.i (i : Int)) y55 y56) [.arr 11 [.agg ps] true 0, .arr 1 gs true 0, .arr 3 os true 0, .arr 3 es true 0, .arr 3 [.agg [.i ec, .i (ea : Int), .i (eb : Int)]] true 0] :=
  RunsTo.hin 0 60 [⟨12, 2, .bool false, [.arr 11 [.agg ps] true 0, .arr 1 gs true 0, .arr 3 os true 0, .arr 3 es true 0, .arr 3 [.agg [.i ec, .i (ea : Int), .i (eb : Int)]] true 0]⟩] fun kf hk => ⟨_, by kernel_rfl, (oB [.arr 11 [.agg ps] true 0, .arr 1 gs true 0, .arr 3 os true 0, .arr 3 es true 0, .arr 3 [.agg [.i ec, .i (ea : Int), .i (eb : Int)]] true 0] (decide_eq_false g0) .nil)⟩
theorem spn_l_0 (rw ps : List HV) (f : Nat) (n : Nat) (gs : List HV) (m : Nat) (os : List HV) (q : Nat) (es : List HV) (i : Nat) (ec : Int) (ea eb : Nat) (o w : Int) {y5 y8 y14 y19 y20 y55 y56 : HV}(g0 : appV [.arr 11 [.agg ps] true 0, .arr 1 gs true 0, .arr 3 os true 0, .arr 3 es true 0, .arr 3 [.agg [.i ec, .i (ea : Int), .i (eb : Int)]] true 0] 3 24 (.sl 2 0 m none m 3) [.agg [.i ec, .i (ea : Int), .i (eb : Int)]] = some (.sl 2 0 (m + 1) none (m + 1) 3, [.arr 11 [.agg ps] true 0, .arr 1 gs true 0, .arr 3 (os ++ [.agg [.i ec, .i (ea : Int), .i (eb : Int)]]) true 0, .arr 3 es true 0, .arr 3 [.agg [.i ec, .i (ea : Int), .i (eb : Int)]] true 0])) : RT polSp 61 (sub [1, 1, 1, 1, 0, 1, 0, 0, 1, 1, 0, 0, 1, 1, 1, 0] B61) (env61 (.imm .arg 1 rw) (.i (f : Int)) (.agg ps) y5 (.imm .lit 3 []) (.sl 1 0 n (some n) n 1) y8 (.sl 2 0 m none m 3) (.ptr 4 0 0 1) (.i o) (.i w) y14 y19 y20 (.sl 3 0 q none q 3) (.i (q : Int)) (.i (i : Int)) y55 y56) [.arr 11 [.agg ps] true 0, .arr 1 gs true 0, .arr 3 os true 0, .arr 3 es true 0, .arr 3 [.agg [.i ec, .i (ea : Int), .i (eb : Int)]] true 0] .normal (env61 (.imm .arg 1 rw) (.i (f : Int)) (.agg ps) y5 (.imm .lit 3 []) (.sl 1 0 n (some n) n 1) y8 (.sl 2 0 (m + 1) none (m + 1) 3) (.ptr 4 0 0 1) (.i o) (.i w) y14 y19 y20 (.sl 3 0 q none q 3) (.i (q : Int)) (.i (i : Int)) y55 y56) [.arr 11 [.agg ps] true 0, .arr 1 gs true 0, .arr 3 (os ++ [.agg [.i ec, .i (ea : Int), .i (eb : Int)]]) true 0, .arr 3 es true 0, .arr 3 [.agg [.i ec, .i (ea : Int), .i (eb : Int)]] true 0] :=
  RunsTo.hin 0 60 [⟨13, 3, .sl 2 0 (m + 1) none (m + 1) 3, [.arr 11 [.agg ps] true 0, .arr 1 gs true 0, .arr 3 (os ++ [.agg [.i ec, .i (ea : Int), .i (eb : Int)]]) true 0, .arr 3 es true 0, .arr 3 [.agg [.i ec, .i (ea : Int), .i (eb : Int)]] true 0]⟩] fun kf hk => ⟨_, by kernel_rfl, (oC (g0) .nil)⟩
theorem spn_m_0 (rw ps : List HV) (f : Nat) (n : Nat) (gs : List HV) (m : Nat) (os : List HV) (q : Nat) (es : List HV) (i : Nat) (ec : Int) (ea eb : Nat) {y5 y8 y12 y13 y14 y19 y20 y55 y56 : HV} : RT polSp 61 (sub [1, 1, 1, 1, 0, 1, 0, 0, 1, 1, 0, 0, 1, 1, 1, 1, 0] B61) (env61 (.imm .arg 1 rw) (.i (f : Int)) (.agg ps) y5 (.imm .lit 3 []) (.sl 1 0 n (some n) n 1) y8 (.sl 2 0 m none m 3) (.ptr 4 0 0 1) y12 y13 y14 y19 y20 (.sl 3 0 q none q 3) (.i (q : Int)) (.i (i : Int)) y55 y56) [.arr 11 [.agg ps] true 0, .arr 1 gs true 0, .arr 3 os true 0, .arr 3 es true 0, .arr 3 [.agg [.i ec, .i (ea : Int), .i (eb : Int)]] true 0] .normal (env61 (.imm .arg 1 rw) (.i (f : Int)) (.agg ps) y5 (.imm .lit 3 []) (.sl 1 0 n (some n) n 1) y8 (.sl 2 0 m none m 3) (.ptr 4 0 0 1) y12 y13 y14 y19 y20 (.sl 3 0 q none q 3) (.i (q : Int)) (.i (i : Int)) (.i (n : Int)) (.i 0)) [.arr 11 [.agg ps] true 0, .arr 1 gs true 0, .arr 3 os true 0, .arr 3 es true 0, .arr 3 [.agg [.i ec, .i (ea : Int), .i (eb : Int)]] true 0] :=
  RunsTo.hin 0 60 [] fun kf hk => ⟨_, by kernel_rfl, .nil⟩
theorem spn_n_0 (rw ps : List HV) (f : Nat) (n : Nat) (gs : List HV) (m : Nat) (os : List HV) (q : Nat) (es : List HV) (i : Nat) (ec : Int) (ea eb : Nat) (o w : Int) (j : Nat) {y5 y8 y11 y14 y19 y20 : HV} {x0 : Int} {el0 : List HV} (g0 : (j : Int) < (n : Int)) (g1 : idxV Tp 23 (.sl 1 0 n (some n) n 1) (.i (j : Int)) = some (.ptr 1 j 0 n)) (g2 : loadV Tp [.arr 11 [.agg ps] true 0, .arr 1 gs true 0, .arr 3 os true 0, .arr 3 es true 0, .arr 3 [.agg [.i ec, .i (ea : Int), .i (eb : Int)]] true 0] 3 (.ptr 1 j 0 n) = some (.i x0)) (g3 : x0 = o) (g4 : idxV Tp 23 (.sl 1 0 n (some n) n 1) (.i (j : Int)) = some (.ptr 1 j 0 n)) (g5 : storeV Tp [.arr 11 [.agg ps] true 0, .arr 1 gs true 0, .arr 3 os true 0, .arr 3 es true 0, .arr 3 [.agg [.i ec, .i (ea : Int), .i (eb : Int)]] true 0] 3 (.ptr 1 j 0 n) (.i w) = some [.arr 11 [.agg ps] true 0, .arr 1 el0 true 0, .arr 3 os true 0, .arr 3 es true 0, .arr 3 [.agg [.i ec, .i (ea : Int), .i (eb : Int)]] true 0]) : RT polSp 61 (sub [1, 1, 1, 1, 0, 1, 0, 0, 1, 1, 0, 0, 1, 1, 1, 1, 1, 0, 0] B61) (env61 (.imm .arg 1 rw) (.i (f : Int)) (.agg ps) y5 (.imm .lit 3 []) (.sl 1 0 n (some n) n 1) y8 (.sl 2 0 m none m 3) y11 (.i o) (.i w) y14 y19 y20 (.sl 3 0 q none q 3) (.i (q : Int)) (.i (i : Int)) (.i (n : Int)) (.i (j : Int))) [.arr 11 [.agg ps] true 0, .arr 1 gs true 0, .arr 3 os true 0, .arr 3 es true 0, .arr 3 [.agg [.i ec, .i (ea : Int), .i (eb : Int)]] true 0] .normal (env61 (.imm .arg 1 rw) (.i (f : Int)) (.agg ps) y5 (.imm .lit 3 []) (.sl 1 0 n (some n) n 1) y8 (.sl 2 0 m none m 3) y11 (.i o) (.i w) (.i (j : Int)) y19 y20 (.sl 3 0 q none q 3) (.i (q : Int)) (.i (i : Int)) (.i (n : Int)) (.i (IntKind.i64.wrap ((j : Int) + 1)))) [.arr 11 [.agg ps] true 0, .arr 1 el0 true 0, .arr 3 os true 0, .arr 3 es true 0, .arr 3 [.agg [.i ec, .i (ea : Int), .i (eb : Int)]] true 0] :=
  RunsTo.hin 0 60 [⟨15, 0, .bool true, [.arr 11 [.agg ps] true 0, .arr 1 gs true 0, .arr 3 os true 0, .arr 3 es true 0, .arr 3 [.agg [.i ec, .i (ea : Int), .i (eb : Int)]] true 0]⟩, ⟨17, 2, .ptr 1 j 0 n, [.arr 11 [.agg ps] true 0, .arr 1 gs true 0, .arr 3 os true 0, .arr 3 es true 0, .arr 3 [.agg [.i ec, .i (ea : Int), .i (eb : Int)]] true 0]⟩, ⟨17, 3, .i x0, [.arr 11 [.agg ps] true 0, .arr 1 gs true 0, .arr 3 os true 0, .arr 3 es true 0, .arr 3 [.agg [.i ec, .i (ea : Int), .i (eb : Int)]] true 0]⟩, ⟨17, 5, .bool true, [.arr 11 [.agg ps] true 0, .arr 1 gs true 0, .arr 3 os true 0, .arr 3 es true 0, .arr 3 [.agg [.i ec, .i (ea : Int), .i (eb : Int)]] true 0]⟩, ⟨18, 3, .ptr 1 j 0 n, [.arr 11 [.agg ps] true 0, .arr 1 gs true 0, .arr 3 os true 0, .arr 3 es true 0, .arr 3 [.agg [.i ec, .i (ea : Int), .i (eb : Int)]] true 0]⟩, ⟨18, 4, .tuple [], [.arr 11 [.agg ps] true 0, .arr 1 el0 true 0, .arr 3 os true 0, .arr 3 es true 0, .arr 3 [.agg [.i ec, .i (ea : Int), .i (eb : Int)]] true 0]⟩] fun kf hk => ⟨_, by kernel_rfl, (oB [.arr 11 [.agg ps] true 0, .arr 1 gs true 0, .arr 3 os true 0, .arr 3 es true 0, .arr 3 [.agg [.i ec, .i (ea : Int), .i (eb : Int)]] true 0] (decide_eq_true g0) (oP [.arr 11 [.agg ps] true 0, .arr 1 gs true 0, .arr 3 os true 0, .arr 3 es true 0, .arr 3 [.agg [.i ec, .i (ea : Int), .i (eb : Int)]] true 0] g1 (oP [.arr 11 [.agg ps] true 0, .arr 1 gs true 0, .arr 3 os true 0, .arr 3 es true 0, .arr 3 [.agg [.i ec, .i (ea : Int), .i (eb : Int)]] true 0] g2 (oB [.arr 11 [.agg ps] true 0, .arr 1 gs true 0, .arr 3 os true 0, .arr 3 es true 0, .arr 3 [.agg [.i ec, .i (ea : Int), .i (eb : Int)]] true 0] (decide_eq_true g3) (oP [.arr 11 [.agg ps] true 0, .arr 1 gs true 0, .arr 3 os true 0, .arr 3 es true 0, .arr 3 [.agg [.i ec, .i (ea : Int), .i (eb : Int)]] true 0] g4 (oS g5 .nil))))))⟩
theorem spn_n_1 (rw ps : List HV) (f : Nat) (n : Nat) (gs : List HV) (m : Nat) (os : List HV) (q : Nat) (es : List HV) (i : Nat) (ec : Int) (ea eb : Nat) (o w : Int) (j : Nat) {y5 y8 y11 y14 y19 y20 : HV} {x0 : Int} (g0 : (j : Int) < (n : Int)) (g1 : idxV Tp 23 (.sl 1 0 n (some n) n 1) (.i (j : Int)) = some (.ptr 1 j 0 n)) (g2 : loadV Tp [.arr 11 [.agg ps] true 0, .arr 1 gs true 0, .arr 3 os true 0, .arr 3 es true 0, .arr 3 [.agg [.i ec, .i (ea : Int), .i (eb : Int)]] true 0] 3 (.ptr 1 j 0 n) = some (.i x0)) (g3 : ¬ (x0 = o)) : RT polSp 61 (sub [1, 1, 1, 1, 0, 1, 0, 0, 1, 1, 0, 0, 1, 1, 1, 1, 1, 0, 0] B61) (env61 (.imm .arg 1 rw) (.i (f : Int)) (.agg ps) y5 (.imm .lit 3 []) (.sl 1 0 n (some n) n 1) y8 (.sl 2 0 m none m 3) y11 (.i o) (.i w) y14 y19 y20 (.sl 3 0 q none q 3) (.i (q : Int)) (.i (i : Int)) (.i (n : Int)) (.i (j : Int))) [.arr 11 [.agg ps] true 0, .arr 1 gs true 0, .arr 3 os true 0, .arr 3 es true 0, .arr 3 [.agg [.i ec, .i (ea : Int), .i (eb : Int)]] true 0] .normal (env61 (.imm .arg 1 rw) (.i (f : Int)) (.agg ps) y5 (.imm .lit 3 []) (.sl 1 0 n (some n) n 1) y8 (.sl 2 0 m none m 3) y11 (.i o) (.i w) (.i (j : Int)) y19 y20 (.sl 3 0 q none q 3) (.i (q : Int)) (.i (i : Int)) (.i (n : Int)) (.i (IntKind.i64.wrap ((j : Int) + 1)))) [.arr 11 [.agg ps] true 0, .arr 1 gs true 0, .arr 3 os true 0, .arr 3 es true 0, .arr 3 [.agg [.i ec, .i (ea : Int), .i (eb : Int)]] true 0] :=
  RunsTo.hin 0 60 [⟨15, 0, .bool true, [.arr 11 [.agg ps] true 0, .arr 1 gs true 0, .arr 3 os true 0, .arr 3 es true 0, .arr 3 [.agg [.i ec, .i (ea : Int), .i (eb : Int)]] true 0]⟩, ⟨17, 2, .ptr 1 j 0 n, [.arr 11 [.agg ps] true 0, .arr 1 gs true 0, .arr 3 os true 0, .arr 3 es true 0, .arr 3 [.agg [.i ec, .i (ea : Int), .i (eb : Int)]] true 0]⟩, ⟨17, 3, .i x0, [.arr 11 [.agg ps] true 0, .arr 1 gs true 0, .arr 3 os true 0, .arr 3 es true 0, .arr 3 [.agg [.i ec, .i (ea : Int), .i (eb : Int)]] true 0]⟩, ⟨17, 5, .bool false, [.arr 11 [.agg ps] true 0, .arr 1 gs true 0, .arr 3 os true 0, .arr 3 es true 0, .arr 3 [.agg [.i ec, .i (ea : Int), .i (eb : Int)]] true 0]⟩] fun kf hk => ⟨_, by kernel_rfl, (oB [.arr 11 [.agg ps] true 0, .arr 1 gs true 0, .arr 3 os true 0, .arr 3 es true 0, .arr 3 [.agg [.i ec, .i (ea : Int), .i (eb : Int)]] true 0] (decide_eq_true g0) (oP [.arr 11 [.agg ps] true 0, .arr 1 gs true 0, .arr 3 os true 0, .arr 3 es true 0, .arr 3 [.agg [.i ec, .i (ea : Int), .i (eb : Int)]] true 0] g1 (oP [.arr 11 [.agg ps] true 0, .arr 1 gs true 0, .arr 3 os true 0, .arr 3 es true 0, .arr 3 [.agg [.i ec, .i (ea : Int), .i (eb : Int)]] true 0] g2 (oB [.arr 11 [.agg ps] true 0, .arr 1 gs true 0, .arr 3 os true 0, .arr 3 es true 0, .arr 3 [.agg [.i ec, .i (ea : Int), .i (eb : Int)]] true 0] (decide_eq_false g3) .nil))))⟩
theorem spn_n_2 (rw ps : List HV) (f : Nat) (n : Nat) (gs : List HV) (m : Nat) (os : List HV) (q : Nat) (es : List HV) (i : Nat) (ec : Int) (ea eb : Nat) (o w : Int) (j : Nat) {y5 y8 y11 y14 y19 y20 : HV}(g0 : ¬ ((j : Int) < (n : Int))) : RT polSp 61 (sub [1, 1, 1, 1, 0, 1, 0, 0, 1, 1, 0, 0, 1, 1, 1, 1, 1, 0, 0] B61) (env61 (.imm .arg 1 rw) (.i (f : Int)) (.agg ps) y5 (.imm .lit 3 []) (.sl 1 0 n (some n) n 1) y8 (.sl 2 0 m none m 3) y11 (.i o) (.i w) y14 y19 y20 (.sl 3 0 q none q 3) (.i (q : Int)) (.i (i : Int)) (.i (n : Int)) (.i (j : Int))) [.arr 11 [.agg ps] true 0, .arr 1 gs true 0, .arr 3 os true 0, .arr 3 es true 0, .arr 3 [.agg [.i ec, .i (ea : Int), .i (eb : Int)]] true 0] (.exit 4) (env61 (.imm .arg 1 rw) (.i (f : Int)) (.agg ps) y5 (.imm .lit 3 []) (.sl 1 0 n (some n) n 1) y8 (.sl 2 0 m none m 3) y11 (.i o) (.i w) y14 y19 y20 (.sl 3 0 q none q 3) (.i (q : Int)) (.i (i : Int)) (.i (n : Int)) (.i (j : Int))) [.arr 11 [.agg ps] true 0, .arr 1 gs true 0, .arr 3 os true 0, .arr 3 es true 0, .arr 3 [.agg [.i ec, .i (ea : Int), .i (eb : Int)]] true 0] :=
  RunsTo.hin 0 60 [⟨15, 0, .bool false, [.arr 11 [.agg ps] true 0, .arr 1 gs true 0, .arr 3 os true 0, .arr 3 es true 0, .arr 3 [.agg [.i ec, .i (ea : Int), .i (eb : Int)]] true 0]⟩] fun kf hk => ⟨_, by kernel_rfl, (oB [.arr 11 [.agg ps] true 0, .arr 1 gs true 0, .arr 3 os true 0, .arr 3 es true 0, .arr 3 [.agg [.i ec, .i (ea : Int), .i (eb : Int)]] true 0] (decide_eq_false g0) .nil)⟩
theorem spn_o_0 (rw ps : List HV) (f : Nat) (n : Nat) (gs : List HV) (m : Nat) (os : List HV) (q : Nat) (es : List HV) (i : Nat) (ec : Int) (ea eb : Nat) {y5 y8 y11 y12 y13 y14 y19 y20 y55 y56 : HV} : RT polSp 61 (sub [1, 1, 1, 1, 0, 1, 0, 0, 1, 1, 1] B61) (env61 (.imm .arg 1 rw) (.i (f : Int)) (.agg ps) y5 (.imm .lit 3 []) (.sl 1 0 n (some n) n 1) y8 (.sl 2 0 m none m 3) y11 y12 y13 y14 y19 y20 (.sl 3 0 q none q 3) (.i (q : Int)) (.i (i : Int)) y55 y56) [.arr 11 [.agg ps] true 0, .arr 1 gs true 0, .arr 3 os true 0, .arr 3 es true 0, .arr 3 [.agg [.i ec, .i (ea : Int), .i (eb : Int)]] true 0] .normal (env61 (.imm .arg 1 rw) (.i (f : Int)) (.agg ps) y5 (.imm .lit 3 []) (.sl 1 0 n (some n) n 1) y8 (.sl 2 0 m none m 3) y11 y12 y13 y14 y19 y20 (.sl 3 0 q none q 3) (.i (q : Int)) (.i (IntKind.i64.wrap ((i : Int) + 1))) y55 y56) [.arr 11 [.agg ps] true 0, .arr 1 gs true 0, .arr 3 os true 0, .arr 3 es true 0, .arr 3 [.agg [.i ec, .i (ea : Int), .i (eb : Int)]] true 0] :=
  RunsTo.hin 0 60 [] fun kf hk => ⟨_, by kernel_rfl, .nil⟩
theorem spn_p_0 (rw ps : List HV) (f : Nat) (n : Nat) (gs : List HV) (m : Nat) (os : List HV) (q : Nat) (es : List HV) {y5 y7 y8 y11 y12 y13 y14 y19 y20 y31 y32 y33 y55 y56 : HV} : RT polSp 61 (sub [1, 1, 1, 1, 1] B61) (env61 (.imm .arg 1 rw) (.i (f : Int)) (.agg ps) y5 (.imm .lit 3 []) y7 y8 (.sl 2 0 m none m 3) y11 y12 y13 y14 y19 y20 y31 y32 y33 y55 y56) [.arr 11 [.agg ps] true 0, .arr 1 gs true 0, .arr 3 os true 0, .arr 3 es true 0] .ret (env61 (.imm .arg 1 rw) (.i (f : Int)) (.agg ps) y5 (.sl 2 0 m none m 3) y7 y8 (.sl 2 0 m none m 3) y11 y12 y13 y14 y19 y20 y31 y32 y33 y55 y56) [.arr 11 [.agg ps] true 0, .arr 1 gs true 0, .arr 3 os true 0, .arr 3 es true 0] :=
  RunsTo.hin 0 60 [] fun kf hk => ⟨_, by kernel_rfl, .nil⟩
end Go.Proofs.Ytlendaofkmhgmaa
end
section
open Go Go.HL Go.HL.So
namespace Go.Proofs.Ytlendaofkmhgmaa
open Go.Proofs.Try renaming prog → Tp
open Go.HL.HV renaming undef → Ud
theorem res61 : Try.f61.results.toList = [.tmp 6] := by kernel_rfl
theorem ixg {n b k : Nat} {cap : Option Nat} (hk : k < n) : idxV Tp 23 (.sl b 0 n cap n 1) (.int .i64 (k : Int)) = some (.ptr b k 0 n) := by
  have := idx_sl (P := Tp) (t := 23) (b := b) (len := n) (tot := n) (cap := cap) (ik := .i64) (n := (k : Int)) u23 z3 (by omega) (by omega)
  rwa [Int.toNat_natCast] at this
theorem ixe {n b k : Nat} {cap : Option Nat} (hk : k < n) : idxV Tp 88 (.sl b 0 n cap n 3) (.int .i64 (k : Int)) = some (.ptr b k 0 n) := ixs (db := b) (n := n) (cap := cap) rfl hk
theorem ldg {H : Heap} {b k n : Nat} {g : List Int} (hb : H[b]? = some (bI g)) (hn : g.length = n) (hk : k < n) : loadV Tp H 3 (.ptr b k 0 n) = some (.int .i64 (g.getD k 0)) := by
  subst hn; exact load_out hb hk
theorem stg {H : Heap} {b k n : Nat} {g : List Int} (hb : H[b]? = some (bI g)) (hn : g.length = n) (hk : k < n) (v : Int) : storeV Tp H 3 (.ptr b k 0 n) (.int .i64 v) = some (H.set b (bI (g.set k v))) := by
  subst hn; exact store_out hb hk v
theorem lde {H : Heap} {b k n : Nat} {l : List Ed} (hb : H[b]? = some (bE encE l)) (hn : l.length = n) (hk : k < n) : loadV Tp H 91 (.ptr b k 0 n) = some (encE (at_ l k)) :=
  load_agg (b := b) hb (by simpa using hn.symm) (by rw [List.getElem?_map, List.getElem?_eq_getElem (by omega)]; simp [at_, List.getD, List.getElem?_eq_getElem (show k < l.length by omega), encE]) a91 s91
section
variable {d : List (List Int)} {ps : List Int} {f : Nat}
abbrev spH (ps g : List Int) (os es : List Ed) : Heap := [pB ps, bI g, bE encE os, bE encE es]
abbrev spX (ps g : List Int) (os es : List Ed) (e : Ed) : Heap := [pB ps, bI g, bE encE os, bE encE es, .arr 3 [encE e] true 0]
abbrev mkQ (c : Int) (a b : Nat) : Ed := (c, (a : Int), (b : Int))
theorem sp_in (hd : okD d) {i ea eb : Nat} {ec o w : Int} {os es : List Ed} : ∀ k j (g : List Int), g.length = d.length → j + k = d.length →
    ∃ y14, RT polSp 61 (sub [1, 1, 1, 1, 0, 1, 0, 0, 1, 1, 0, 0, 1, 1, 1, 1, 1, 0] B61) (env61 (.imm .arg 1 (d.map encR)) (.int .i64 (f : Int)) (.agg (ps.map encI)) Ud (.imm .lit 3 []) (.sl 1 0 d.length (some d.length) d.length 1) Ud (.sl 2 0 os.length none os.length 3) Ud (.int .i64 o) (.int .i64 w) Ud Ud Ud (.sl 3 0 es.length none es.length 3) (.int .i64 (es.length : Int)) (.int .i64 (i : Int)) (.int .i64 (d.length : Int)) (.int .i64 (j : Int))) (spX ps g os es (mkQ ec ea eb)) (.exit 4)
      (env61 (.imm .arg 1 (d.map encR)) (.int .i64 (f : Int)) (.agg (ps.map encI)) Ud (.imm .lit 3 []) (.sl 1 0 d.length (some d.length) d.length 1) Ud (.sl 2 0 os.length none os.length 3) Ud (.int .i64 o) (.int .i64 w) y14 Ud Ud (.sl 3 0 es.length none es.length 3) (.int .i64 (es.length : Int)) (.int .i64 (i : Int)) (.int .i64 (d.length : Int)) (.int .i64 (d.length : Int))) (spX ps (rlb o w k j g) os es (mkQ ec ea eb)) := by
  have hn := hd.1
  intro k
  induction k with
  | zero =>
    intro j g hg hj
    have : j = d.length := by omega
    subst this
    exact ⟨_, lpo (spn_n_2 (d.map encR) (ps.map encI) f d.length (g.map encI) os.length (os.map encE) es.length (es.map encE) i ec ea eb o w d.length (by omega))⟩
  | succ k ih =>
    intro j g hg hj
    by_cases c : g.getD j 0 = o
    · have s := spn_n_0 (d.map encR) (ps.map encI) f d.length (g.map encI) os.length (os.map encE) es.length (es.map encE) i ec ea eb o w j (y5 := Ud) (y8 := Ud) (y11 := Ud) (y14 := Ud) (y19 := Ud) (y20 := Ud) (by omega) (ixg (by omega)) (ldg (H := spX ps g os es (mkQ ec ea eb)) (g := g) rfl hg (by omega)) c (ixg (by omega)) (stg (H := spX ps g os es (mkQ ec ea eb)) (b := 1) (k := j) rfl hg (by omega) w)
      rw [wrap_succ (by omega)] at s
      obtain ⟨y14, r⟩ := ih (j + 1) (g.set j w) (by simpa using hg) (by omega)
      rw [rlb, if_pos c]
      exact ⟨y14, lop (s) (gc_eq _ rfl) (r)⟩
    · have s := spn_n_1 (d.map encR) (ps.map encI) f d.length (g.map encI) os.length (os.map encE) es.length (es.map encE) i ec ea eb o w j (y5 := Ud) (y8 := Ud) (y11 := Ud) (y14 := Ud) (y19 := Ud) (y20 := Ud) (by omega) (ixg (by omega)) (ldg (H := spX ps g os es (mkQ ec ea eb)) (g := g) rfl hg (by omega)) c
      rw [wrap_succ (by omega)] at s
      obtain ⟨y14, r⟩ := ih (j + 1) g hg (by omega)
      rw [rlb, if_neg c]
      exact ⟨y14, lop (s) (gc_eq _ rfl) (r)⟩
theorem gcX {ps g g2 : List Int} {os os2 es : List Ed} {e : Ed} {r : Nat} (hr : r ≤ 4) : gc (spH ps g os es).length r (spX ps g2 os2 es e) = spH ps g2 os2 es := by
  unfold gc
  have : max (spH ps g os es).length (max r (mxs (spX ps g2 os2 es e))) = 4 := by
    have h1 : mxs (spX ps g2 os2 es e) = 0 := by simp [mxs, Blk.mx, bE]
    rw [h1]; show max 4 (max r 0) = 4; omega
  rw [this]; rfl
theorem app_Em {H : Heap} {b : Nat} {o : List Ed} (hb : H[b]? = some (bE encE o)) (hl : o.length ≤ 1000) (e : Ed) :
    appV H 3 24 (.sl b 0 o.length none o.length 3) [encE e] = some (.sl b 0 (o.length + 1) none (o.length + 1) 3, H.set b (.arr 3 (o.map encE ++ [encE e]) true 0)) := by
  have := app_sl (H := H) (k := 3) (bytes := 24) (b := b) (n := o.length) (mx := 0) (els := o.map encE) (xs := [encE e]) hb (by simp) (by simp) (by simp only [roomMax, List.length_singleton]; omega) (encE_bnd [e])
  rw [this]; rfl
abbrev spO (d : List (List Int)) (ps : List Int) (f m q : Nat) (v33 : HV) : Env := (env61 (.imm .arg 1 (d.map encR)) (.int .i64 (f : Int)) (.agg (ps.map encI)) Ud (.imm .lit 3 []) (.sl 1 0 d.length (some d.length) d.length 1) Ud (.sl 2 0 m none m 3) Ud Ud Ud Ud Ud Ud (.sl 3 0 q none q 3) (.int .i64 (q : Int)) v33 Ud Ud)
theorem hgc {g2 : List Int} {es : List Ed} {e : Ed} (g : List Int) (os os2 : List Ed) (m i : Nat) : gc (spH ps g os es).length (bndE (spO d ps f m es.length (.int .i64 (i : Int)))) (spX ps g2 os2 es e) = spH ps g2 os2 es := gcX (by simp [bndE, bnd, bndL, ints_bnd])
theorem sp_out (hd : okD d) {es : List Ed} (he : EIn d.length es) (hq : es.length ≤ 500) : ∀ k i (os : List Ed) (g : List Int), i + k = es.length → g.length = d.length → os.length + k ≤ 500 →
    ∃ g' E, RT polSp 61 (sub [1, 1, 1, 1, 0, 1, 0] B61) (spO d ps f os.length es.length (.int .i64 (i : Int))) (spH ps g os es) (.exit 2) E (spH ps g' (os ++ krP (es.drop i) g) es) ∧
      ∃ y5 y8 y11 y12 y13 y14 y19 y20 y33 y55 y56, E = (env61 (.imm .arg 1 (d.map encR)) (.int .i64 (f : Int)) (.agg (ps.map encI)) y5 (.imm .lit 3 []) (.sl 1 0 d.length (some d.length) d.length 1) y8 (.sl 2 0 (os ++ krP (es.drop i) g).length none (os ++ krP (es.drop i) g).length 3) y11 y12 y13 y14 y19 y20 (.sl 3 0 es.length none es.length 3) (.int .i64 (es.length : Int)) y33 y55 y56) := by
  have hn := hd.1
  intro k
  induction k with
  | zero =>
    intro i os g hi hg ho
    have : i = es.length := by omega
    subst this
    rw [List.drop_length, krP, List.append_nil]
    have s := spn_g_1 (d.map encR) (ps.map encI) f d.length (g.map encI) os.length (os.map encE) es.length (es.map encE) es.length (y5 := Ud) (y8 := Ud) (y11 := Ud) (y12 := Ud) (y13 := Ud) (y14 := Ud) (y19 := Ud) (y20 := Ud) (y55 := Ud) (y56 := Ud) (by omega)
    have s2 := spn_hf_0 (d.map encR) (ps.map encI) f d.length (g.map encI) os.length (os.map encE) es.length (es.map encE) es.length (y5 := Ud) (y8 := Ud) (y11 := Ud) (y12 := Ud) (y13 := Ud) (y14 := Ud) (y19 := Ud) (y20 := Ud) (y55 := Ud) (y56 := Ud)
    exact ⟨g, _, lpo (sq (s) (sqo (s2) (c := sub [1, 1, 1, 1, 0, 1, 0, 0, 1] B61) (b := sub [1, 1, 1, 1, 0, 1, 0, 0, 1, 1] B61)) (c := sub [1, 1, 1, 1, 0, 1, 0, 0] B61)), _, _, _, _, _, _, _, _, _, _, _, rfl⟩
  | succ k ih =>
    intro i os g hi hg ho
    have hdrop : es.drop i = at_ es i :: es.drop (i + 1) := by
      rw [List.drop_eq_getElem_cons (by omega)]
      simp [at_, List.getD, List.getElem?_eq_getElem (show i < es.length by omega)]
    have hmem : at_ es i ∈ es := by
      have : at_ es i = es[i] := by simp [at_, List.getD, List.getElem?_eq_getElem (show i < es.length by omega)]
      rw [this]; exact List.getElem_mem _
    obtain ⟨ec, ea, eb, hae, ha, hb⟩ : ∃ (ec : Int) (ea eb : Nat), at_ es i = mkQ ec ea eb ∧ ea < d.length ∧ eb < d.length := by
      obtain ⟨⟨h1, h2⟩, h3, h4⟩ := he _ hmem
      refine ⟨(at_ es i).1, (at_ es i).2.1.toNat, (at_ es i).2.2.toNat, ?_, h2, h4⟩
      show at_ es i = ((at_ es i).1, _, _)
      rw [Int.toNat_of_nonneg h1, Int.toNat_of_nonneg h3]
    rw [hdrop, hae, krP]
    simp only [Int.toNat_natCast]
    have s := spn_g_0 (d.map encR) (ps.map encI) f d.length (g.map encI) os.length (os.map encE) es.length (es.map encE) i (y5 := Ud) (y8 := Ud) (y11 := Ud) (y12 := Ud) (y13 := Ud) (y14 := Ud) (y19 := Ud) (y20 := Ud) (y55 := Ud) (y56 := Ud) (by omega)
    have s2 := spn_ht_0 (d.map encR) (ps.map encI) f d.length (g.map encI) os.length (os.map encE) es.length (es.map encE) i (y5 := Ud) (y8 := Ud) (y11 := Ud) (y12 := Ud) (y13 := Ud) (y14 := Ud) (y19 := Ud) (y20 := Ud) (y55 := Ud) (y56 := Ud)
    have hl := lde (H := spH ps g os es) (b := 3) (k := i) (l := es) rfl rfl (by omega)
    rw [hae] at hl
    have s3 := spn_i_0 (d.map encR) (ps.map encI) f d.length (g.map encI) os.length (os.map encE) es.length (es.map encE) i ec ea eb (y5 := Ud) (y8 := Ud) (y11 := Ud) (y12 := Ud) (y13 := Ud) (y14 := Ud) (y19 := Ud) (y20 := Ud) (y55 := Ud) (y56 := Ud) (ixe (by omega)) hl
    have s4 := spn_j_0 (d.map encR) (ps.map encI) f d.length (g.map encI) os.length (os.map encE) es.length (es.map encE) i ec ea eb (y5 := Ud) (y8 := Ud) (y12 := Ud) (y13 := Ud) (y14 := Ud) (y19 := Ud) (y20 := Ud) (y55 := Ud) (y56 := Ud) (ixg ha) (ldg (H := spX ps g os es (mkQ ec ea eb)) (g := g) rfl hg ha) (ixg hb) (ldg (H := spX ps g os es (mkQ ec ea eb)) (g := g) rfl hg hb)
    by_cases c : g.getD ea 0 = g.getD eb 0
    · rw [if_pos c]
      have s5 := spn_k_0 (d.map encR) (ps.map encI) f d.length (g.map encI) os.length (os.map encE) es.length (es.map encE) i ec ea eb (g.getD ea 0) (g.getD eb 0) (y5 := Ud) (y8 := Ud) (y14 := Ud) (y19 := Ud) (y20 := Ud) (y55 := Ud) (y56 := Ud) c
      have s6 := spn_o_0 (d.map encR) (ps.map encI) f d.length (g.map encI) os.length (os.map encE) es.length (es.map encE) i ec ea eb (y5 := Ud) (y8 := Ud) (y14 := Ud) (y19 := Ud) (y20 := Ud) (y55 := Ud) (y56 := Ud) (y11 := .ptr 4 0 0 1) (y12 := .int .i64 (g.getD ea 0)) (y13 := .int .i64 (g.getD eb 0))
      rw [wrap_succ (by omega)] at s6
      have st := sq (s) (sq (s2) (sq (bke (c := sub [1, 1, 1, 1, 0, 1, 0, 0, 1, 1, 0] B61) (sq (s3) (sq (s4) (sqo (s5) (c := sub [1, 1, 1, 1, 0, 1, 0, 0, 1, 1, 0, 0, 1, 1] B61) (b := sub [1, 1, 1, 1, 0, 1, 0, 0, 1, 1, 0, 0, 1, 1, 1] B61)) (c := sub [1, 1, 1, 1, 0, 1, 0, 0, 1, 1, 0, 0, 1] B61)) (c := sub [1, 1, 1, 1, 0, 1, 0, 0, 1, 1, 0, 0] B61))) (s6) (c := sub [1, 1, 1, 1, 0, 1, 0, 0, 1, 1] B61)) (c := sub [1, 1, 1, 1, 0, 1, 0, 0, 1] B61)) (c := sub [1, 1, 1, 1, 0, 1, 0, 0] B61)
      obtain ⟨g', E, r, q⟩ := ih (i + 1) os g (by omega) hg (by omega)
      exact ⟨g', E, lop (st) (hgc (ps := ps) (d := d) (f := f) (es := es) (g2 := g) (e := mkQ ec ea eb) g os os os.length (i + 1)) (r), q⟩
    · rw [if_neg c]
      have s5 := spn_k_1 (d.map encR) (ps.map encI) f d.length (g.map encI) os.length (os.map encE) es.length (es.map encE) i ec ea eb (g.getD ea 0) (g.getD eb 0) (y5 := Ud) (y8 := Ud) (y14 := Ud) (y19 := Ud) (y20 := Ud) (y55 := Ud) (y56 := Ud) c
      have s7 := spn_l_0 (d.map encR) (ps.map encI) f d.length (g.map encI) os.length (os.map encE) es.length (es.map encE) i ec ea eb (g.getD ea 0) (g.getD eb 0) (y5 := Ud) (y8 := Ud) (y14 := Ud) (y19 := Ud) (y20 := Ud) (y55 := Ud) (y56 := Ud) (app_Em (H := spX ps g os es (mkQ ec ea eb)) (b := 2) (o := os) rfl (by omega) (mkQ ec ea eb))
      have hs : os.map encE ++ [HV.agg [.int .i64 ec, .int .i64 (ea : Int), .int .i64 (eb : Int)]] = (os ++ [mkQ ec ea eb]).map encE := by simp [encE]
      rw [hs] at s7
      have s8 := spn_m_0 (d.map encR) (ps.map encI) f d.length (g.map encI) (os.length + 1) ((os ++ [mkQ ec ea eb]).map encE) es.length (es.map encE) i ec ea eb (y5 := Ud) (y8 := Ud) (y14 := Ud) (y19 := Ud) (y20 := Ud) (y55 := Ud) (y56 := Ud) (y12 := .int .i64 (g.getD ea 0)) (y13 := .int .i64 (g.getD eb 0))
      obtain ⟨y14, r0⟩ := sp_in (ps := ps) (f := f) hd (i := i) (ea := ea) (eb := eb) (ec := ec) (o := g.getD ea 0) (w := g.getD eb 0) (os := os ++ [mkQ ec ea eb]) (es := es) d.length 0 g hg (by omega)
      rw [show (os ++ [mkQ ec ea eb]).length = os.length + 1 by simp, ← hg] at r0
      have r0' := lpi (e0 := (env61 (.imm .arg 1 (d.map encR)) (.int .i64 (f : Int)) (.agg (ps.map encI)) Ud (.imm .lit 3 []) (.sl 1 0 g.length (some g.length) g.length 1) Ud (.sl 2 0 (os.length + 1) none (os.length + 1) 3) (.ptr 4 0 0 1) (.int .i64 (g.getD ea 0)) (.int .i64 (g.getD eb 0)) Ud Ud Ud (.sl 3 0 es.length none es.length 3) (.int .i64 (es.length : Int)) (.int .i64 (i : Int)) (.int .i64 (g.length : Int)) (.int .i64 0))) r0 (b := sub [1, 1, 1, 1, 0, 1, 0, 0, 1, 1, 0, 0, 1, 1, 1, 1, 1, 0, 0] B61)
      rw [hg] at r0'
      have hg2 : (rlb (g.getD ea 0) (g.getD eb 0) d.length 0 g).length = d.length := by rw [rlb_len, hg]
      have s6 := spn_o_0 (d.map encR) (ps.map encI) f d.length ((rlb (g.getD ea 0) (g.getD eb 0) d.length 0 g).map encI) (os.length + 1) ((os ++ [mkQ ec ea eb]).map encE) es.length (es.map encE) i ec ea eb (y5 := Ud) (y8 := Ud) (y11 := Ud) (y19 := Ud) (y20 := Ud) (y14 := y14) (y12 := .int .i64 (g.getD ea 0)) (y13 := .int .i64 (g.getD eb 0)) (y55 := .int .i64 (d.length : Int)) (y56 := .int .i64 (d.length : Int))
      rw [wrap_succ (by omega)] at s6
      have st := sq (s) (sq (s2) (sq (RunsTo.block_normal (i := 3) (c := sub [1, 1, 1, 1, 0, 1, 0, 0, 1, 1, 0] B61) (sq (s3) (sq (s4) (sq (s5) (sq (s7) (sq (s8) (bke (c := sub [1, 1, 1, 1, 0, 1, 0, 0, 1, 1, 0, 0, 1, 1, 1, 1, 1] B61) (r0')) (c := sub [1, 1, 1, 1, 0, 1, 0, 0, 1, 1, 0, 0, 1, 1, 1, 1] B61)) (c := sub [1, 1, 1, 1, 0, 1, 0, 0, 1, 1, 0, 0, 1, 1, 1] B61)) (c := sub [1, 1, 1, 1, 0, 1, 0, 0, 1, 1, 0, 0, 1, 1] B61)) (c := sub [1, 1, 1, 1, 0, 1, 0, 0, 1, 1, 0, 0, 1] B61)) (c := sub [1, 1, 1, 1, 0, 1, 0, 0, 1, 1, 0, 0] B61)) (by kernel_rfl)) (s6) (c := sub [1, 1, 1, 1, 0, 1, 0, 0, 1, 1] B61)) (c := sub [1, 1, 1, 1, 0, 1, 0, 0, 1] B61)) (c := sub [1, 1, 1, 1, 0, 1, 0, 0] B61)
      obtain ⟨g', E, r, q⟩ := ih (i + 1) (os ++ [mkQ ec ea eb]) _ (by omega) hg2 (by simp; omega)
      rw [List.append_assoc] at r q
      rw [hg]
      rw [show (os ++ [mkQ ec ea eb]).length = os.length + 1 by simp] at r
      exact ⟨g', E, lop (st) (hgc (ps := ps) (d := d) (f := f) (es := es) (g2 := rlb (g.getD ea 0) (g.getD eb 0) d.length 0 g) (e := mkQ ec ea eb) g os (os ++ [mkQ ec ea eb]) (os.length + 1) (i + 1)) (r), q⟩
theorem spn_init (hd : okD d) : ∀ k i (g : List Int), i + k = d.length → g.length = d.length → (∀ x, x < i → g.getD x 0 = (x : Int)) →
    ∃ y8, RT polSp 61 (sub [1, 1, 0, 1, 0] B61) (env61 (.imm .arg 1 (d.map encR)) (.int .i64 (f : Int)) (.agg (ps.map encI)) (.ptr 0 0 0 1) (.imm .lit 3 []) (.sl 1 0 d.length (some d.length) d.length 1) Ud Ud Ud Ud Ud Ud (.int .i64 (d.length : Int)) (.int .i64 (i : Int)) Ud Ud Ud Ud Ud) [pB ps, bI g] (.exit 0)
      (env61 (.imm .arg 1 (d.map encR)) (.int .i64 (f : Int)) (.agg (ps.map encI)) (.ptr 0 0 0 1) (.imm .lit 3 []) (.sl 1 0 d.length (some d.length) d.length 1) y8 Ud Ud Ud Ud Ud (.int .i64 (d.length : Int)) (.int .i64 (d.length : Int)) Ud Ud Ud Ud Ud) [pB ps, bI (iota d.length)] := by
  have hn := hd.1
  intro k
  induction k with
  | zero =>
    intro i g hi hg hx
    have : i = d.length := by omega
    subst this
    have e : g = iota d.length := by
      apply List.ext_getElem?
      intro x
      by_cases hxl : x < d.length
      · have h1 := hx x hxl
        have h2 := iota_at hxl
        rw [List.getElem?_eq_getElem (by omega), List.getElem?_eq_getElem (by rw [iota_len]; exact hxl)]
        simp only [List.getD, List.getElem?_eq_getElem (show x < g.length by omega), Option.getD_some] at h1
        simp only [List.getD, List.getElem?_eq_getElem (show x < (iota d.length).length by rw [iota_len]; exact hxl), Option.getD_some] at h2
        rw [h1, h2]
      · rw [List.getElem?_eq_none (by omega), List.getElem?_eq_none (by rw [iota_len]; omega)]
    rw [e]
    exact ⟨_, lpo (spn_d_1 (d.map encR) (ps.map encI) f d.length ((iota d.length).map encI) d.length (by omega))⟩
  | succ k ih =>
    intro i g hi hg hx
    have s := spn_d_0 (d.map encR) (ps.map encI) f d.length (g.map encI) i (y8 := Ud) (y9 := Ud) (y11 := Ud) (y12 := Ud) (y13 := Ud) (y14 := Ud) (y31 := Ud) (y32 := Ud) (y33 := Ud) (y55 := Ud) (y56 := Ud) (by omega) (ixg (by omega)) (stg (H := [pB ps, bI g]) (b := 1) (k := i) rfl hg (by omega) (i : Int))
    rw [wrap_succ (by omega)] at s
    obtain ⟨y8, r⟩ := ih (i + 1) (g.set i (i : Int)) (by omega) (by simpa using hg) (fun x hx2 => by
      rw [getDs _ _ _ _ (by omega)]
      split
      · rename_i e; rw [e]
      · exact hx x (by omega))
    exact ⟨y8, lop (s) (gc_eq _ rfl) (r)⟩
end
theorem toRes_E {H : Heap} {b : Nat} {l : List Ed} (hb : H[b]? = some (bE encE l)) : toRes H false (.sl b 0 l.length none l.length 3) = some (.own 3 (l.map encE)) := by
  have hr := resCell_sl (H := H) (no := [b]) (b := b) (k := 3) (m := l.length) (cap := none) (els := l.map encE) hb (by simp) (mapO_self (fun e => frz_E (n := 3) e) _)
  have ho : ownedAll H false (.sl b 0 l.length none l.length 3) = [b] := by simp [ownedAll, cellsOf, owned, hb, bE]
  simp only [toRes, ho, List.nodup_cons, List.not_mem_nil, not_false_eq_true, List.nodup_nil, and_self, if_true, resVal, hr]
theorem encE_any (l : List Ed) : (l.map encE).any isOwn = false := by
  rw [List.any_eq_false]
  intro v hv
  obtain ⟨k, _, rfl⟩ := List.mem_map.1 hv
  simp [encE, isOwn]
theorem recv_E (l : List Ed) (H : Heap) : recv (.own 3 (l.map encE)) H = (.sl H.length 0 l.length none l.length 3, H ++ [bE encE l]) := by
  simp only [recv, recvVal, recvCell, encE_any, List.length_map]
  rfl
theorem arg_agg (H : Heap) (ps : List Int) : toArg H 6 (.agg (ps.map encI)) = some (.agg (ps.map encI)) := by
  show (match mapO (toArg H 5) (ps.map encI) with | some l => some (HV.agg l) | none => none) = _
  have hm : mapO (toArg H 5) (ps.map encI) = some (ps.map encI) := mapO_self (f := toArg H 5) (g := encI) (fun _ => rfl) ps
  rw [hm]
theorem q70 {pol' : Pol} (hp : pol'.prim 70 = some edges70) {d : List (List Int)} {ps : List Int} {f : Nat} {v : HV} (hd : okD d) (hf : f ≤ d.length) (hs : Small ps) (H : Heap) (hv : toArg H 6 v = some (.imm .arg 1 (d.map encR))) :
    ∀ kf, callN Tp pol' (kf + 1) 70 [v, .int .i64 (f : Int), .agg (ps.map encI)] H = some (.sl H.length 0 (edg d ps f).length none (edg d ps f).length 3, H ++ [bE encE (edg d ps f)]) := fun kf => by
  rw [prim_call (pol := pol') (g := 70) (F := edges70) hp (rs := [.imm .arg 1 (d.map encR), .int .i64 (f : Int), .agg (ps.map encI)]) (by simp only [mapO, hv, arg_agg]; rfl) (res := .own 3 ((edg d ps f).map encE)) (by simp only [edges70, mpF, mapO_map decR_enc, mapO_map decI_enc]; rw [if_pos ⟨hd, by omega, hs⟩, Int.toNat_natCast]), recv_E]
theorem pl_all {H : Heap} {ps : List Int} {b : Nat} (hb : H[b]? = some (pB ps)) (hp : ps.length = 11) : loadV Tp H 66 (.ptr b 0 0 1) = some (.agg (ps.map encI)) :=
  load_agg (b := b) hb rfl rfl (by kernel_rfl) (by rw [show tySize Tp 66 = some 11 by kernel_rfl]; simp [hp])
theorem spanning_ok : PrimOk Tp 61 spanning61 := by
  refine primOk_pure (pol := polSp) (fn := Try.f61) (cd := B61) follows_mixed soundSp (by kernel_rfl) (by kernel_rfl) (fnok polSp.prim _ _ (by kernel_rfl)) (by kernel_rfl) ?_
  intro args res h
  obtain ⟨d, a0, ps, rfl, hq⟩ := mpF_inv h
  clear h
  split at hq
  · rename_i hc
    obtain ⟨hd, ha, hp⟩ := hc
    cases hq
    have hn := hd.1
    obtain ⟨f, rfl⟩ : ∃ x : Nat, a0 = (x : Int) := ⟨a0.toNat, by omega⟩
    rw [Int.toNat_natCast]
    have s0 := spn_a_0 (d.map encR) (ps.map encI) f (box_p hp.1)
    have mk := makeV_ok (P := Tp) (H := [pB ps]) (t := 23) (e := 3) (k := 1) (bt := 8) (zv := .int .i64 0) (n := (d.length : Int)) u23 (by kernel_rfl) (by simp [cellsOf, cellV]) (by simp [cellsOf]) (by omega) (by omega) (by simp only [roomMax]; omega)
    rw [Int.toNat_natCast] at mk
    have hrep : List.replicate d.length (HV.int .i64 0) = (List.replicate d.length (0 : Int)).map encI := by simp [encI]
    rw [hrep] at mk
    have s1 := spn_b_0 (d.map encR) (ps.map encI) f (y7 := Ud) (y8 := Ud) (y9 := Ud) (y11 := Ud) (y12 := Ud) (y13 := Ud) (y14 := Ud) (y19 := Ud) (y20 := Ud) (y31 := Ud) (y32 := Ud) (y33 := Ud) (y55 := Ud) (y56 := Ud) (by rw [List.length_map, hrep]; exact mk)
    rw [List.length_map, hrep] at s1
    have s2 := spn_c_0 (d.map encR) (ps.map encI) f d.length ((List.replicate d.length (0 : Int)).map encI) (y8 := Ud) (y9 := Ud) (y11 := Ud) (y12 := Ud) (y13 := Ud) (y14 := Ud) (y19 := Ud) (y20 := Ud) (y31 := Ud) (y32 := Ud) (y33 := Ud) (y55 := Ud) (y56 := Ud)
    obtain ⟨y8, r1⟩ := spn_init (ps := ps) (f := f) hd d.length 0 (List.replicate d.length 0) (by omega) (by simp) (fun x hx => by omega)
    have s3 := spn_e_0 (d.map encR) (ps.map encI) f d.length ((iota d.length).map encI) (y9 := Ud) (y11 := Ud) (y12 := Ud) (y13 := Ud) (y14 := Ud) (y31 := Ud) (y32 := Ud) (y33 := Ud) (y55 := Ud) (y56 := Ud) (y8 := y8) (y19 := .int .i64 (d.length : Int)) (y20 := .int .i64 (d.length : Int))
    have s4 := spn_f_0 (d.map encR) (ps.map encI) f d.length ((iota d.length).map encI) 0 [] (y11 := Ud) (y12 := Ud) (y13 := Ud) (y14 := Ud) (y31 := Ud) (y32 := Ud) (y33 := Ud) (y55 := Ud) (y56 := Ud) (y8 := y8) (y19 := .int .i64 (d.length : Int)) (y20 := .int .i64 (d.length : Int)) (pl_all (b := 0) rfl hp.1) (q70 (pol' := polSp) (by kernel_rfl) hd (by omega) hp _ (arg_rw _ d))
    have hel := edg_len (ps := ps) (f := f) hd (by omega)
    obtain ⟨g', E, r2, y5, y8', y11, y12, y13, y14, y19, y20, y33, y55, y56, rfl⟩ := sp_out (ps := ps) (f := f) hd (edg_in (ps := ps) (f := f) (by omega)) (by omega) (edg d ps f).length 0 [] (iota d.length) (by omega) (iota_len _) (by simp; omega)
    rw [List.drop_zero, List.nil_append] at r2
    have et : krP (edg d ps f) (iota d.length) = treeL d ps f := rfl
    rw [et] at r2
    have r2' := lpi (e0 := (env61 (.imm .arg 1 (d.map encR)) (.int .i64 (f : Int)) (.agg (ps.map encI)) (.ptr 0 0 0 1) (.imm .lit 3 []) (.sl 1 0 d.length (some d.length) d.length 1) y8 (.sl 2 0 0 none 0 3) Ud Ud Ud Ud (.int .i64 (d.length : Int)) (.int .i64 (d.length : Int)) (.sl 3 0 (edg d ps f).length none (edg d ps f).length 3) (.int .i64 ((edg d ps f).length : Int)) (.int .i64 0) Ud Ud)) r2 (b := sub [1, 1, 1, 1, 0, 1, 0, 0] B61)
    have z := spn_p_0 (d.map encR) (ps.map encI) f d.length (g'.map encI) (treeL d ps f).length ((treeL d ps f).map encE) (edg d ps f).length ((edg d ps f).map encE) (y7 := .sl 1 0 d.length (some d.length) d.length 1) (y8 := y8') (y11 := y11) (y12 := y12) (y13 := y13) (y14 := y14) (y19 := y19) (y20 := y20) (y31 := .sl 3 0 (edg d ps f).length none (edg d ps f).length 3) (y32 := .int .i64 ((edg d ps f).length : Int)) (y33 := y33) (y55 := y55) (y56 := y56) (y5 := y5)
    have t := sq (s0) (sq (s1) (sq (sq (s2) (bke (c := sub [1, 1, 0, 1] B61) (r1)) (c := sub [1, 1, 0] B61)) (sq (s3) (sq (sq (s4) (bke (c := sub [1, 1, 1, 1, 0, 1] B61) (r2')) (c := sub [1, 1, 1, 1, 0] B61)) (z) (c := sub [1, 1, 1, 1] B61)) (c := sub [1, 1, 1] B61)) (c := sub [1, 1] B61)) (c := sub [1] B61)) (c := B61)
    exact ⟨_, _, _, .sl 2 0 (treeL d ps f).length none (treeL d ps f).length 3, t, by simp, by simp only [resultsV, res61]; rfl, toRes_E rfl⟩
  · cases hq
end Go.Proofs.Ytlendaofkmhgmaa
end
section
open Go Go.HL Go.HL.So
namespace Go.Proofs.Ytlendaofkmhgmaa
open Go.Proofs.Try renaming prog → Tp
open Go.HL.HV renaming undef → Ud
def two2 : Nat → List Ed → List Ed
  | _, [] => []
  | w, e :: l => if e.2.1 = 0 ∧ w < 2 then e :: two2 (w + 1) l else two2 w l
def chosen (d : List (List Int)) (ps : List Int) : List Ed := treeL d ps 1 ++ two2 0 (edg d ps 0)
def dstep (t : List Int) (e : Ed) : List Int := (t.set e.2.1.toNat (t.getD e.2.1.toNat 0 + 1)).set e.2.2.toNat ((t.set e.2.1.toNat (t.getD e.2.1.toNat 0 + 1)).getD e.2.2.toNat 0 + 1)
def degs (l : List Ed) : List Int := l.foldl dstep (List.replicate 11 0)
def sumA (l : List Ed) (s : Int) : Int := l.foldl (fun s e => s + e.1) s
def sumP (ps : List Int) (s : Int) : Int := ps.foldl (fun s n => s - 2 * n) s
def boundS (d : List (List Int)) (ps : List Int) : Int := sumP ps (sumA (chosen d ps) 0)
theorem two2_mem {e : Ed} : ∀ (l : List Ed) (w : Nat), e ∈ two2 w l → e ∈ l
  | [], _, h => by cases h
  | x :: l, w, h => by
    rw [two2] at h
    split at h
    · rcases List.mem_cons.1 h with rfl | h
      · simp
      · exact List.mem_cons_of_mem _ (two2_mem l _ h)
    · exact List.mem_cons_of_mem _ (two2_mem l _ h)
theorem two2_len : ∀ (l : List Ed) (w : Nat), (two2 w l).length + w ≤ max w 2
  | [], w => by simp [two2]; omega
  | e :: l, w => by
    rw [two2]
    split
    · have := two2_len l (w + 1); rw [List.length_cons]; omega
    · exact two2_len l w
theorem chosen_in {d : List (List Int)} {ps : List Int} (hd : okD d) : EIn d.length (chosen d ps) := fun e he => by
  have hn := hd.1
  rcases List.mem_append.1 he with h | h
  · exact edg_in (f := 1) (by omega) e (krP_mem _ _ h)
  · exact edg_in (f := 0) (by omega) e (two2_mem _ _ h)
theorem chosen_len {d : List (List Int)} {ps : List Int} (hd : okD d) : (chosen d ps).length ≤ 123 := by
  have hn := hd.1
  unfold chosen
  rw [List.length_append]
  have h1 := edg_len (ps := ps) (f := 1) hd (by omega)
  have h2 := krP_len (edg d ps 1) (iota d.length)
  have h3 := two2_len (edg d ps 0) 0
  unfold treeL
  omega
def costOk (l : List Ed) : Prop := ∀ e ∈ l, -3000000000 ≤ e.1 ∧ e.1 ≤ 3000000000
theorem edg_cost {d : List (List Int)} {ps : List Int} {f : Nat} (hd : okD d) (hp : Small ps) (hf : f ≤ d.length) : costOk (edg d ps f) := fun e he => by
  have hn := hd.1
  obtain ⟨x, y, h, rfl⟩ := ((edg_ok (d := d) (p := ps) hf).2 e).1 he
  have b1 := hd.at (i := x) (j := y) (by omega) (by omega)
  have b2 := hp.at (i := x) (by omega)
  have b3 := hp.at (i := y) (by omega)
  simp only [mkE, cst]
  omega
theorem chosen_cost {d : List (List Int)} {ps : List Int} (hd : okD d) (hp : Small ps) : costOk (chosen d ps) := fun e he => by
  have hn := hd.1
  rcases List.mem_append.1 he with h | h
  · exact edg_cost (f := 1) hd hp (by omega) e (krP_mem _ _ h)
  · exact edg_cost (f := 0) hd hp (by omega) e (two2_mem _ _ h)
def CtB (t : List Int) (k : Nat) : Prop := t.length = 11 ∧ ∀ x, x < 11 → 0 ≤ t.getD x 0 ∧ t.getD x 0 ≤ 2 * (k : Int)
theorem CtB.step {t : List Int} {k : Nat} (h : CtB t k) {e : Ed} (ha : e.2.1.toNat < 11) (hb : e.2.2.toNat < 11) : CtB (dstep t e) (k + 1) := by
  obtain ⟨h1, h2⟩ := h
  refine ⟨by simp [dstep, h1], fun x hx => ?_⟩
  unfold dstep
  rw [getDs _ _ _ _ (by simp [h1, hb]), getDs _ _ _ _ (by rw [h1]; exact ha), getDs _ _ _ _ (by rw [h1]; exact ha)]
  have q1 := h2 x hx
  have q2 := h2 _ ha
  have q3 := h2 _ hb
  split
  · split <;> omega
  · split <;> omega
theorem CtB.zero : CtB (List.replicate 11 0) 0 := ⟨rfl, fun x hx => by
  have : (List.replicate 11 (0 : Int)).getD x 0 = 0 := by rw [List.getD, List.getElem?_replicate, if_pos hx]; rfl
  rw [this]; omega⟩
open Classical in
noncomputable def bound50 : List HV → Option HV
  | [.imm .arg 1 rw, .agg pv] => (match mapO decR rw, mapO decI pv with | some R, some ps => if okD R ∧ Small ps then some (.tuple [.int .i64 (boundS R ps), .agg ((degs (chosen R ps)).map encI)]) else none | _, _ => none)
  | _ => none
noncomputable def polBo : Pol := { pol with prim := fun g => if g == 70 then some edges70 else if g == 61 then some spanning61 else none }
theorem soundBo (n : Nat) : CallSound Tp (callN Tp polBo n) := sound_prim _ (fun g f h => by
  split at h
  · rename_i hg; cases h; rw [eq_of_beq hg]; exact edges_ok
  split at h
  · rename_i hg; cases h; rw [eq_of_beq hg]; exact spanning_ok
  · cases h) n
theorem q61 {pol' : Pol} (hp : pol'.prim 61 = some spanning61) {d : List (List Int)} {ps : List Int} {f : Nat} {v : HV} (hd : okD d) (hf : f ≤ d.length) (hs : Small ps) (H : Heap) (hv : toArg H 6 v = some (.imm .arg 1 (d.map encR))) :
    ∀ kf, callN Tp pol' (kf + 1) 61 [v, .int .i64 (f : Int), .agg (ps.map encI)] H = some (.sl H.length 0 (treeL d ps f).length none (treeL d ps f).length 3, H ++ [bE encE (treeL d ps f)]) := fun kf => by
  rw [prim_call (pol := pol') (g := 61) (F := spanning61) hp (rs := [.imm .arg 1 (d.map encR), .int .i64 (f : Int), .agg (ps.map encI)]) (by simp only [mapO, hv, arg_agg]; rfl) (res := .own 3 ((treeL d ps f).map encE)) (by simp only [spanning61, mpF, mapO_map decR_enc, mapO_map decI_enc]; rw [if_pos ⟨hd, by omega, hs⟩, Int.toNat_natCast]), recv_E]
end Go.Proofs.Ytlendaofkmhgmaa
end
section
open Go Go.HL
namespace Go.Proofs.Ytlendaofkmhgmaa
set_option maxRecDepth 100000
open Go.Proofs.Try renaming prog → Tp
open Go.HL.HV renaming undef → Ud
noncomputable def B50 : Code := Try.f50.body.getD .skip
abbrev env50 (v0 v1 v3 v4 v5 v6 v7 v9 v10 v11 v13 v15 v21 v22 v23 v41 v42 v43 v64 v65 : HV) : Env := [(0, v0), (1, v1), (3, v3), (4, v4), (5, v5), (6, v6), (7, v7), (9, v9), (10, v10), (11, v11), (13, v13), (15, v15), (21, v21), (22, v22), (23, v23), (41, v41), (42, v42), (43, v43), (64, v64), (65, v65)]
theorem bo_a_0 (rw ps : List HV) (g0 : (if (cellsOf (.agg ps)).all cellV then some (newV (.agg ps) []) else none) = some (.ptr 0 0 0 1, [.arr 11 [.agg ps] true 0])) : RT polBo 50 (sub [0] B50) [(0, .imm .arg 1 rw), (1, .agg ps)] [] .normal (env50 (.imm .arg 1 rw) (.agg ps) (.ptr 0 0 0 1) (.i 0) (.ptr 1 0 0 1) Ud Ud Ud Ud Ud Ud Ud Ud Ud Ud Ud Ud Ud Ud Ud) [.arr 11 [.agg ps] true 0, .arr 11 [.agg [.i 0, .i 0, .i 0, .i 0, .i 0, .i 0, .i 0, .i 0, .i 0, .i 0, .i 0]] true 0] :=
  RunsTo.hin 0 60 [⟨0, 0, .ptr 0 0 0 1, [.arr 11 [.agg ps] true 0]⟩] fun kf hk => ⟨_, by kernel_rfl, (oC (g0) .nil)⟩
theorem bo_b_0 (rw ps : List HV)  {y6 y7 y9 y10 y11 y13 y15 y21 y22 y23 y41 y42 y43 y64 y65 : HV} {m : Nat} {cs : List HV} (g0 : loadV Tp [.arr 11 [.agg ps] true 0, .arr 11 [.agg [.i 0, .i 0, .i 0, .i 0, .i 0, .i 0, .i 0, .i 0, .i 0, .i 0, .i 0]] true 0] 66 (.ptr 0 0 0 1) = some (.agg ps)) (g1 : ∀ kf, callN Tp polBo (kf + 1) 61 [.imm .arg 1 rw, .i 1, .agg ps] [.arr 11 [.agg ps] true 0, .arr 11 [.agg [.i 0, .i 0, .i 0, .i 0, .i 0, .i 0, .i 0, .i 0, .i 0, .i 0, .i 0]] true 0] = some (.sl 2 0 m none m 3, [.arr 11 [.agg ps] true 0, .arr 11 [.agg [.i 0, .i 0, .i 0, .i 0, .i 0, .i 0, .i 0, .i 0, .i 0, .i 0, .i 0]] true 0, .arr 3 cs true 0])) : RT polBo 50 (sub [1, 0] B50) (env50 (.imm .arg 1 rw) (.agg ps) (.ptr 0 0 0 1) (.i 0) (.ptr 1 0 0 1) y6 y7 y9 y10 y11 y13 y15 y21 y22 y23 y41 y42 y43 y64 y65) [.arr 11 [.agg ps] true 0, .arr 11 [.agg [.i 0, .i 0, .i 0, .i 0, .i 0, .i 0, .i 0, .i 0, .i 0, .i 0, .i 0]] true 0] .normal (env50 (.imm .arg 1 rw) (.agg ps) (.ptr 0 0 0 1) (.i 0) (.ptr 1 0 0 1) (.sl 2 0 m none m 3) y7 y9 y10 y11 y13 y15 y21 y22 y23 y41 y42 y43 y64 y65) [.arr 11 [.agg ps] true 0, .arr 11 [.agg [.i 0, .i 0, .i 0, .i 0, .i 0, .i 0, .i 0, .i 0, .i 0, .i 0, .i 0]] true 0, .arr 3 cs true 0] :=
  RunsTo.hin 0 60 [⟨1, 1, .agg ps, [.arr 11 [.agg ps] true 0, .arr 11 [.agg [.i 0, .i 0, .i 0, .i 0, .i 0, .i 0, .i 0, .i 0, .i 0, .i 0, .i 0]] true 0]⟩, ⟨1, 2, .sl 2 0 m none m 3, [.arr 11 [.agg ps] true 0, .arr 11 [.agg [.i 0, .i 0, .i 0, .i 0, .i 0, .i 0, .i 0, .i 0, .i 0, .i 0, .i 0]] true 0, .arr 3 cs true 0]⟩] fun kf hk => ⟨_, by kernel_rfl, (oP [.arr 11 [.agg ps] true 0, .arr 11 [.agg [.i 0, .i 0, .i 0, .i 0, .i 0, .i 0, .i 0, .i 0, .i 0, .i 0, .i 0]] true 0] g0 (oC (g1 kf) .nil))⟩
theorem bo_c_0 (rw ps : List HV) (m : Nat) (cs : List HV) {y7 y9 y10 y11 y13 y15 y21 y22 y23 y41 y42 y43 y64 y65 : HV} : RT polBo 50 (sub [1, 1, 0] B50) (env50 (.imm .arg 1 rw) (.agg ps) (.ptr 0 0 0 1) (.i 0) (.ptr 1 0 0 1) (.sl 2 0 m none m 3) y7 y9 y10 y11 y13 y15 y21 y22 y23 y41 y42 y43 y64 y65) [.arr 11 [.agg ps] true 0, .arr 11 [.agg [.i 0, .i 0, .i 0, .i 0, .i 0, .i 0, .i 0, .i 0, .i 0, .i 0, .i 0]] true 0, .arr 3 cs true 0] .normal (env50 (.imm .arg 1 rw) (.agg ps) (.ptr 0 0 0 1) (.i 0) (.ptr 1 0 0 1) (.sl 2 0 m none m 3) (.i 0) y9 y10 y11 y13 y15 y21 y22 y23 y41 y42 y43 y64 y65) [.arr 11 [.agg ps] true 0, .arr 11 [.agg [.i 0, .i 0, .i 0, .i 0, .i 0, .i 0, .i 0, .i 0, .i 0, .i 0, .i 0]] true 0, .arr 3 cs true 0] :=
  RunsTo.hin 0 60 [] fun kf hk => ⟨_, by kernel_rfl, .nil⟩
theorem bo_d_0 (rw ps : List HV) (m : Nat) (cs : List HV) {y9 y10 y11 y13 y15 y21 y22 y23 y41 y42 y43 y64 y65 : HV} {q : Nat} {es : List HV} (g0 : loadV Tp [.arr 11 [.agg ps] true 0, .arr 11 [.agg [.i 0, .i 0, .i 0, .i 0, .i 0, .i 0, .i 0, .i 0, .i 0, .i 0, .i 0]] true 0, .arr 3 cs true 0] 66 (.ptr 0 0 0 1) = some (.agg ps)) (g1 : ∀ kf, callN Tp polBo (kf + 1) 70 [.imm .arg 1 rw, .i 0, .agg ps] [.arr 11 [.agg ps] true 0, .arr 11 [.agg [.i 0, .i 0, .i 0, .i 0, .i 0, .i 0, .i 0, .i 0, .i 0, .i 0, .i 0]] true 0, .arr 3 cs true 0] = some (.sl 3 0 q none q 3, [.arr 11 [.agg ps] true 0, .arr 11 [.agg [.i 0, .i 0, .i 0, .i 0, .i 0, .i 0, .i 0, .i 0, .i 0, .i 0, .i 0]] true 0, .arr 3 cs true 0, .arr 3 es true 0])) : RT polBo 50 (sub [1, 1, 1, 0, 0] B50) (env50 (.imm .arg 1 rw) (.agg ps) (.ptr 0 0 0 1) (.i 0) (.ptr 1 0 0 1) (.sl 2 0 m none m 3) (.i 0) y9 y10 y11 y13 y15 y21 y22 y23 y41 y42 y43 y64 y65) [.arr 11 [.agg ps] true 0, .arr 11 [.agg [.i 0, .i 0, .i 0, .i 0, .i 0, .i 0, .i 0, .i 0, .i 0, .i 0, .i 0]] true 0, .arr 3 cs true 0] .normal (env50 (.imm .arg 1 rw) (.agg ps) (.ptr 0 0 0 1) (.i 0) (.ptr 1 0 0 1) (.sl 2 0 m none m 3) (.i 0) y9 y10 y11 y13 y15 (.sl 3 0 q none q 3) (.i (q : Int)) (.i 0) y41 y42 y43 y64 y65) [.arr 11 [.agg ps] true 0, .arr 11 [.agg [.i 0, .i 0, .i 0, .i 0, .i 0, .i 0, .i 0, .i 0, .i 0, .i 0, .i 0]] true 0, .arr 3 cs true 0, .arr 3 es true 0] :=
  RunsTo.hin 0 60 [⟨3, 1, .agg ps, [.arr 11 [.agg ps] true 0, .arr 11 [.agg [.i 0, .i 0, .i 0, .i 0, .i 0, .i 0, .i 0, .i 0, .i 0, .i 0, .i 0]] true 0, .arr 3 cs true 0]⟩, ⟨3, 2, .sl 3 0 q none q 3, [.arr 11 [.agg ps] true 0, .arr 11 [.agg [.i 0, .i 0, .i 0, .i 0, .i 0, .i 0, .i 0, .i 0, .i 0, .i 0, .i 0]] true 0, .arr 3 cs true 0, .arr 3 es true 0]⟩] fun kf hk => ⟨_, by kernel_rfl, (oP [.arr 11 [.agg ps] true 0, .arr 11 [.agg [.i 0, .i 0, .i 0, .i 0, .i 0, .i 0, .i 0, .i 0, .i 0, .i 0, .i 0]] true 0, .arr 3 cs true 0] g0 (oC (g1 kf) .nil))⟩
theorem bo_e_0 (rw ps : List HV) (m : Nat) (cs : List HV) (q : Nat) (es : List HV) (w i : Nat) (ec : Int) (ea eb : Nat) {y9 y10 y11 y13 y15 y41 y42 y43 y64 y65 : HV}(g0 : (i : Int) < (q : Int)) (g1 : idxV Tp 88 (.sl 3 0 q none q 3) (.i (i : Int)) = some (.ptr 3 i 0 q)) (g2 : loadV Tp [.arr 11 [.agg ps] true 0, .arr 11 [.agg [.i 0, .i 0, .i 0, .i 0, .i 0, .i 0, .i 0, .i 0, .i 0, .i 0, .i 0]] true 0, .arr 3 cs true 0, .arr 3 es true 0] 91 (.ptr 3 i 0 q) = some (.agg [.i ec, .i (ea : Int), .i (eb : Int)])) (g3 : (ea : Int) = 0) (g4 : (w : Int) < 2) (g5 : appV [.arr 11 [.agg ps] true 0, .arr 11 [.agg [.i 0, .i 0, .i 0, .i 0, .i 0, .i 0, .i 0, .i 0, .i 0, .i 0, .i 0]] true 0, .arr 3 cs true 0, .arr 3 es true 0, .arr 3 [.agg [.i ec, .i (ea : Int), .i (eb : Int)]] true 0] 3 24 (.sl 2 0 m none m 3) [.agg [.i ec, .i (ea : Int), .i (eb : Int)]] = some (.sl 2 0 (m + 1) none (m + 1) 3, [.arr 11 [.agg ps] true 0, .arr 11 [.agg [.i 0, .i 0, .i 0, .i 0, .i 0, .i 0, .i 0, .i 0, .i 0, .i 0, .i 0]] true 0, .arr 3 (cs ++ [.agg [.i ec, .i (ea : Int), .i (eb : Int)]]) true 0, .arr 3 es true 0, .arr 3 [.agg [.i ec, .i (ea : Int), .i (eb : Int)]] true 0])) : RT polBo 50 (sub [1, 1, 1, 0, 1, 0, 0] B50) (env50 (.imm .arg 1 rw) (.agg ps) (.ptr 0 0 0 1) (.i 0) (.ptr 1 0 0 1) (.sl 2 0 m none m 3) (.i (w : Int)) y9 y10 y11 y13 y15 (.sl 3 0 q none q 3) (.i (q : Int)) (.i (i : Int)) y41 y42 y43 y64 y65) [.arr 11 [.agg ps] true 0, .arr 11 [.agg [.i 0, .i 0, .i 0, .i 0, .i 0, .i 0, .i 0, .i 0, .i 0, .i 0, .i 0]] true 0, .arr 3 cs true 0, .arr 3 es true 0] .normal (env50 (.imm .arg 1 rw) (.agg ps) (.ptr 0 0 0 1) (.i 0) (.ptr 1 0 0 1) (.sl 2 0 (m + 1) none (m + 1) 3) (.i (IntKind.i64.wrap ((w : Int) + 1))) (.ptr 4 0 0 1) y10 y11 y13 y15 (.sl 3 0 q none q 3) (.i (q : Int)) (.i (IntKind.i64.wrap ((i : Int) + 1))) y41 y42 y43 y64 y65) [.arr 11 [.agg ps] true 0, .arr 11 [.agg [.i 0, .i 0, .i 0, .i 0, .i 0, .i 0, .i 0, .i 0, .i 0, .i 0, .i 0]] true 0, .arr 3 (cs ++ [.agg [.i ec, .i (ea : Int), .i (eb : Int)]]) true 0, .arr 3 es true 0, .arr 3 [.agg [.i ec, .i (ea : Int), .i (eb : Int)]] true 0] :=
  RunsTo.hin 0 60 [⟨4, 0, .bool true, [.arr 11 [.agg ps] true 0, .arr 11 [.agg [.i 0, .i 0, .i 0, .i 0, .i 0, .i 0, .i 0, .i 0, .i 0, .i 0, .i 0]] true 0, .arr 3 cs true 0, .arr 3 es true 0]⟩, ⟨5, 0, .ptr 3 i 0 q, [.arr 11 [.agg ps] true 0, .arr 11 [.agg [.i 0, .i 0, .i 0, .i 0, .i 0, .i 0, .i 0, .i 0, .i 0, .i 0, .i 0]] true 0, .arr 3 cs true 0, .arr 3 es true 0]⟩, ⟨5, 1, .agg [.i ec, .i (ea : Int), .i (eb : Int)], [.arr 11 [.agg ps] true 0, .arr 11 [.agg [.i 0, .i 0, .i 0, .i 0, .i 0, .i 0, .i 0, .i 0, .i 0, .i 0, .i 0]] true 0, .arr 3 cs true 0, .arr 3 es true 0]⟩, ⟨6, 2, .bool true, [.arr 11 [.agg ps] true 0, .arr 11 [.agg [.i 0, .i 0, .i 0, .i 0, .i 0, .i 0, .i 0, .i 0, .i 0, .i 0, .i 0]] true 0, .arr 3 cs true 0, .arr 3 es true 0, .arr 3 [.agg [.i ec, .i (ea : Int), .i (eb : Int)]] true 0]⟩, ⟨6, 5, .bool true, [.arr 11 [.agg ps] true 0, .arr 11 [.agg [.i 0, .i 0, .i 0, .i 0, .i 0, .i 0, .i 0, .i 0, .i 0, .i 0, .i 0]] true 0, .arr 3 cs true 0, .arr 3 es true 0, .arr 3 [.agg [.i ec, .i (ea : Int), .i (eb : Int)]] true 0]⟩, ⟨7, 3, .sl 2 0 (m + 1) none (m + 1) 3, [.arr 11 [.agg ps] true 0, .arr 11 [.agg [.i 0, .i 0, .i 0, .i 0, .i 0, .i 0, .i 0, .i 0, .i 0, .i 0, .i 0]] true 0, .arr 3 (cs ++ [.agg [.i ec, .i (ea : Int), .i (eb : Int)]]) true 0, .arr 3 es true 0, .arr 3 [.agg [.i ec, .i (ea : Int), .i (eb : Int)]] true 0]⟩] fun kf hk => ⟨_, by kernel_rfl, (oB [.arr 11 [.agg ps] true 0, .arr 11 [.agg [.i 0, .i 0, .i 0, .i 0, .i 0, .i 0, .i 0, .i 0, .i 0, .i 0, .i 0]] true 0, .arr 3 cs true 0, .arr 3 es true 0] (decide_eq_true g0) (oP [.arr 11 [.agg ps] true 0, .arr 11 [.agg [.i 0, .i 0, .i 0, .i 0, .i 0, .i 0, .i 0, .i 0, .i 0, .i 0, .i 0]] true 0, .arr 3 cs true 0, .arr 3 es true 0] g1 (oP [.arr 11 [.agg ps] true 0, .arr 11 [.agg [.i 0, .i 0, .i 0, .i 0, .i 0, .i 0, .i 0, .i 0, .i 0, .i 0, .i 0]] true 0, .arr 3 cs true 0, .arr 3 es true 0] g2 (oB [.arr 11 [.agg ps] true 0, .arr 11 [.agg [.i 0, .i 0, .i 0, .i 0, .i 0, .i 0, .i 0, .i 0, .i 0, .i 0, .i 0]] true 0, .arr 3 cs true 0, .arr 3 es true 0, .arr 3 [.agg [.i ec, .i (ea : Int), .i (eb : Int)]] true 0] (decide_eq_true g3) (oB [.arr 11 [.agg ps] true 0, .arr 11 [.agg [.i 0, .i 0, .i 0, .i 0, .i 0, .i 0, .i 0, .i 0, .i 0, .i 0, .i 0]] true 0, .arr 3 cs true 0, .arr 3 es true 0, .arr 3 [.agg [.i ec, .i (ea : Int), .i (eb : Int)]] true 0] (decide_eq_true g4) (oC (g5) .nil))))))⟩
theorem bo_e_1 (rw ps : List HV) (m : Nat) (cs : List HV) (q : Nat) (es : List HV) (w i : Nat) (ec : Int) (ea eb : Nat) {y9 y10 y11 y13 y15 y41 y42 y43 y64 y65 : HV}(g0 : (i : Int) < (q : Int)) (g1 : idxV Tp 88 (.sl 3 0 q none q 3) (.i (i : Int)) = some (.ptr 3 i 0 q)) (g2 : loadV Tp [.arr 11 [.agg ps] true 0, .arr 11 [.agg [.i 0, .i 0, .i 0, .i 0, .i 0, .i 0, .i 0, .i 0, .i 0, .i 0, .i 0]] true 0, .arr 3 cs true 0, .arr 3 es true 0] 91 (.ptr 3 i 0 q) = some (.agg [.i ec, .i (ea : Int), .i (eb : Int)])) (g3 : (ea : Int) = 0) (g4 : ¬ ((w : Int) < 2)) : RT polBo 50 (sub [1, 1, 1, 0, 1, 0, 0] B50) (env50 (.imm .arg 1 rw) (.agg ps) (.ptr 0 0 0 1) (.i 0) (.ptr 1 0 0 1) (.sl 2 0 m none m 3) (.i (w : Int)) y9 y10 y11 y13 y15 (.sl 3 0 q none q 3) (.i (q : Int)) (.i (i : Int)) y41 y42 y43 y64 y65) [.arr 11 [.agg ps] true 0, .arr 11 [.agg [.i 0, .i 0, .i 0, .i 0, .i 0, .i 0, .i 0, .i 0, .i 0, .i 0, .i 0]] true 0, .arr 3 cs true 0, .arr 3 es true 0] .normal (env50 (.imm .arg 1 rw) (.agg ps) (.ptr 0 0 0 1) (.i 0) (.ptr 1 0 0 1) (.sl 2 0 m none m 3) (.i (w : Int)) (.ptr 4 0 0 1) y10 y11 y13 y15 (.sl 3 0 q none q 3) (.i (q : Int)) (.i (IntKind.i64.wrap ((i : Int) + 1))) y41 y42 y43 y64 y65) [.arr 11 [.agg ps] true 0, .arr 11 [.agg [.i 0, .i 0, .i 0, .i 0, .i 0, .i 0, .i 0, .i 0, .i 0, .i 0, .i 0]] true 0, .arr 3 cs true 0, .arr 3 es true 0, .arr 3 [.agg [.i ec, .i (ea : Int), .i (eb : Int)]] true 0] :=
  RunsTo.hin 0 60 [⟨4, 0, .bool true, [.arr 11 [.agg ps] true 0, .arr 11 [.agg [.i 0, .i 0, .i 0, .i 0, .i 0, .i 0, .i 0, .i 0, .i 0, .i 0, .i 0]] true 0, .arr 3 cs true 0, .arr 3 es true 0]⟩, ⟨5, 0, .ptr 3 i 0 q, [.arr 11 [.agg ps] true 0, .arr 11 [.agg [.i 0, .i 0, .i 0, .i 0, .i 0, .i 0, .i 0, .i 0, .i 0, .i 0, .i 0]] true 0, .arr 3 cs true 0, .arr 3 es true 0]⟩, ⟨5, 1, .agg [.i ec, .i (ea : Int), .i (eb : Int)], [.arr 11 [.agg ps] true 0, .arr 11 [.agg [.i 0, .i 0, .i 0, .i 0, .i 0, .i 0, .i 0, .i 0, .i 0, .i 0, .i 0]] true 0, .arr 3 cs true 0, .arr 3 es true 0]⟩, ⟨6, 2, .bool true, [.arr 11 [.agg ps] true 0, .arr 11 [.agg [.i 0, .i 0, .i 0, .i 0, .i 0, .i 0, .i 0, .i 0, .i 0, .i 0, .i 0]] true 0, .arr 3 cs true 0, .arr 3 es true 0, .arr 3 [.agg [.i ec, .i (ea : Int), .i (eb : Int)]] true 0]⟩, ⟨6, 5, .bool false, [.arr 11 [.agg ps] true 0, .arr 11 [.agg [.i 0, .i 0, .i 0, .i 0, .i 0, .i 0, .i 0, .i 0, .i 0, .i 0, .i 0]] true 0, .arr 3 cs true 0, .arr 3 es true 0, .arr 3 [.agg [.i ec, .i (ea : Int), .i (eb : Int)]] true 0]⟩] fun kf hk => ⟨_, by kernel_rfl, (oB [.arr 11 [.agg ps] true 0, .arr 11 [.agg [.i 0, .i 0, .i 0, .i 0, .i 0, .i 0, .i 0, .i 0, .i 0, .i 0, .i 0]] true 0, .arr 3 cs true 0, .arr 3 es true 0] (decide_eq_true g0) (oP [.arr 11 [.agg ps] true 0, .arr 11 [.agg [.i 0, .i 0, .i 0, .i 0, .i 0, .i 0, .i 0, .i 0, .i 0, .i 0, .i 0]] true 0, .arr 3 cs true 0, .arr 3 es true 0] g1 (oP [.arr 11 [.agg ps] true 0, .arr 11 [.agg [.i 0, .i 0, .i 0, .i 0, .i 0, .i 0, .i 0, .i 0, .i 0, .i 0, .i 0]] true 0, .arr 3 cs true 0, .arr 3 es true 0] g2 (oB [.arr 11 [.agg ps] true 0, .arr 11 [.agg [.i 0, .i 0, .i 0, .i 0, .i 0, .i 0, .i 0, .i 0, .i 0, .i 0, .i 0]] true 0, .arr 3 cs true 0, .arr 3 es true 0, .arr 3 [.agg [.i ec, .i (ea : Int), .i (eb : Int)]] true 0] (decide_eq_true g3) (oB [.arr 11 [.agg ps] true 0, .arr 11 [.agg [.i 0, .i 0, .i 0, .i 0, .i 0, .i 0, .i 0, .i 0, .i 0, .i 0, .i 0]] true 0, .arr 3 cs true 0, .arr 3 es true 0, .arr 3 [.agg [.i ec, .i (ea : Int), .i (eb : Int)]] true 0] (decide_eq_false g4) .nil)))))⟩
theorem bo_e_2 (rw ps : List HV) (m : Nat) (cs : List HV) (q : Nat) (es : List HV) (w i : Nat) (ec : Int) (ea eb : Nat) {y9 y10 y11 y13 y15 y41 y42 y43 y64 y65 : HV}(g0 : (i : Int) < (q : Int)) (g1 : idxV Tp 88 (.sl 3 0 q none q 3) (.i (i : Int)) = some (.ptr 3 i 0 q)) (g2 : loadV Tp [.arr 11 [.agg ps] true 0, .arr 11 [.agg [.i 0, .i 0, .i 0, .i 0, .i 0, .i 0, .i 0, .i 0, .i 0, .i 0, .i 0]] true 0, .arr 3 cs true 0, .arr 3 es true 0] 91 (.ptr 3 i 0 q) = some (.agg [.i ec, .i (ea : Int), .i (eb : Int)])) (g3 : ¬ ((ea : Int) = 0)) : RT polBo 50 (sub [1, 1, 1, 0, 1, 0, 0] B50) (env50 (.imm .arg 1 rw) (.agg ps) (.ptr 0 0 0 1) (.i 0) (.ptr 1 0 0 1) (.sl 2 0 m none m 3) (.i (w : Int)) y9 y10 y11 y13 y15 (.sl 3 0 q none q 3) (.i (q : Int)) (.i (i : Int)) y41 y42 y43 y64 y65) [.arr 11 [.agg ps] true 0, .arr 11 [.agg [.i 0, .i 0, .i 0, .i 0, .i 0, .i 0, .i 0, .i 0, .i 0, .i 0, .i 0]] true 0, .arr 3 cs true 0, .arr 3 es true 0] .normal (env50 (.imm .arg 1 rw) (.agg ps) (.ptr 0 0 0 1) (.i 0) (.ptr 1 0 0 1) (.sl 2 0 m none m 3) (.i (w : Int)) (.ptr 4 0 0 1) y10 y11 y13 y15 (.sl 3 0 q none q 3) (.i (q : Int)) (.i (IntKind.i64.wrap ((i : Int) + 1))) y41 y42 y43 y64 y65) [.arr 11 [.agg ps] true 0, .arr 11 [.agg [.i 0, .i 0, .i 0, .i 0, .i 0, .i 0, .i 0, .i 0, .i 0, .i 0, .i 0]] true 0, .arr 3 cs true 0, .arr 3 es true 0, .arr 3 [.agg [.i ec, .i (ea : Int), .i (eb : Int)]] true 0] :=
  RunsTo.hin 0 60 [⟨4, 0, .bool true, [.arr 11 [.agg ps] true 0, .arr 11 [.agg [.i 0, .i 0, .i 0, .i 0, .i 0, .i 0, .i 0, .i 0, .i 0, .i 0, .i 0]] true 0, .arr 3 cs true 0, .arr 3 es true 0]⟩, ⟨5, 0, .ptr 3 i 0 q, [.arr 11 [.agg ps] true 0, .arr 11 [.agg [.i 0, .i 0, .i 0, .i 0, .i 0, .i 0, .i 0, .i 0, .i 0, .i 0, .i 0]] true 0, .arr 3 cs true 0, .arr 3 es true 0]⟩, ⟨5, 1, .agg [.i ec, .i (ea : Int), .i (eb : Int)], [.arr 11 [.agg ps] true 0, .arr 11 [.agg [.i 0, .i 0, .i 0, .i 0, .i 0, .i 0, .i 0, .i 0, .i 0, .i 0, .i 0]] true 0, .arr 3 cs true 0, .arr 3 es true 0]⟩, ⟨6, 2, .bool false, [.arr 11 [.agg ps] true 0, .arr 11 [.agg [.i 0, .i 0, .i 0, .i 0, .i 0, .i 0, .i 0, .i 0, .i 0, .i 0, .i 0]] true 0, .arr 3 cs true 0, .arr 3 es true 0, .arr 3 [.agg [.i ec, .i (ea : Int), .i (eb : Int)]] true 0]⟩] fun kf hk => ⟨_, by kernel_rfl, (oB [.arr 11 [.agg ps] true 0, .arr 11 [.agg [.i 0, .i 0, .i 0, .i 0, .i 0, .i 0, .i 0, .i 0, .i 0, .i 0, .i 0]] true 0, .arr 3 cs true 0, .arr 3 es true 0] (decide_eq_true g0) (oP [.arr 11 [.agg ps] true 0, .arr 11 [.agg [.i 0, .i 0, .i 0, .i 0, .i 0, .i 0, .i 0, .i 0, .i 0, .i 0, .i 0]] true 0, .arr 3 cs true 0, .arr 3 es true 0] g1 (oP [.arr 11 [.agg ps] true 0, .arr 11 [.agg [.i 0, .i 0, .i 0, .i 0, .i 0, .i 0, .i 0, .i 0, .i 0, .i 0, .i 0]] true 0, .arr 3 cs true 0, .arr 3 es true 0] g2 (oB [.arr 11 [.agg ps] true 0, .arr 11 [.agg [.i 0, .i 0, .i 0, .i 0, .i 0, .i 0, .i 0, .i 0, .i 0, .i 0, .i 0]] true 0, .arr 3 cs true 0, .arr 3 es true 0, .arr 3 [.agg [.i ec, .i (ea : Int), .i (eb : Int)]] true 0] (decide_eq_false g3) .nil))))⟩
theorem bo_e_3 (rw ps : List HV) (m : Nat) (cs : List HV) (q : Nat) (es : List HV) (w i : Nat) (ec : Int) (ea eb : Nat) {y9 y10 y11 y13 y15 y41 y42 y43 y64 y65 : HV}(g0 : ¬ ((i : Int) < (q : Int))) : RT polBo 50 (sub [1, 1, 1, 0, 1, 0, 0] B50) (env50 (.imm .arg 1 rw) (.agg ps) (.ptr 0 0 0 1) (.i 0) (.ptr 1 0 0 1) (.sl 2 0 m none m 3) (.i (w : Int)) y9 y10 y11 y13 y15 (.sl 3 0 q none q 3) (.i (q : Int)) (.i (i : Int)) y41 y42 y43 y64 y65) [.arr 11 [.agg ps] true 0, .arr 11 [.agg [.i 0, .i 0, .i 0, .i 0, .i 0, .i 0, .i 0, .i 0, .i 0, .i 0, .i 0]] true 0, .arr 3 cs true 0, .arr 3 es true 0] (.exit 0) (env50 (.imm .arg 1 rw) (.agg ps) (.ptr 0 0 0 1) (.i 0) (.ptr 1 0 0 1) (.sl 2 0 m none m 3) (.i (w : Int)) y9 y10 y11 y13 y15 (.sl 3 0 q none q 3) (.i (q : Int)) (.i (i : Int)) y41 y42 y43 y64 y65) [.arr 11 [.agg ps] true 0, .arr 11 [.agg [.i 0, .i 0, .i 0, .i 0, .i 0, .i 0, .i 0, .i 0, .i 0, .i 0, .i 0]] true 0, .arr 3 cs true 0, .arr 3 es true 0] :=
  RunsTo.hin 0 60 [⟨4, 0, .bool false, [.arr 11 [.agg ps] true 0, .arr 11 [.agg [.i 0, .i 0, .i 0, .i 0, .i 0, .i 0, .i 0, .i 0, .i 0, .i 0, .i 0]] true 0, .arr 3 cs true 0, .arr 3 es true 0]⟩] fun kf hk => ⟨_, by kernel_rfl, (oB [.arr 11 [.agg ps] true 0, .arr 11 [.agg [.i 0, .i 0, .i 0, .i 0, .i 0, .i 0, .i 0, .i 0, .i 0, .i 0, .i 0]] true 0, .arr 3 cs true 0, .arr 3 es true 0] (decide_eq_false g0) .nil)⟩
theorem bo_f_0 (rw ps : List HV) (m : Nat) (cs : List HV) (q : Nat) (es : List HV) {y7 y9 y10 y11 y13 y15 y21 y22 y23 y41 y42 y43 y64 y65 : HV} : RT polBo 50 (sub [1, 1, 1, 1, 0] B50) (env50 (.imm .arg 1 rw) (.agg ps) (.ptr 0 0 0 1) (.i 0) (.ptr 1 0 0 1) (.sl 2 0 m none m 3) y7 y9 y10 y11 y13 y15 y21 y22 y23 y41 y42 y43 y64 y65) [.arr 11 [.agg ps] true 0, .arr 11 [.agg [.i 0, .i 0, .i 0, .i 0, .i 0, .i 0, .i 0, .i 0, .i 0, .i 0, .i 0]] true 0, .arr 3 cs true 0, .arr 3 es true 0] .normal (env50 (.imm .arg 1 rw) (.agg ps) (.ptr 0 0 0 1) (.i 0) (.ptr 1 0 0 1) (.sl 2 0 m none m 3) y7 y9 (.i 0) y11 y13 y15 y21 y22 y23 y41 y42 y43 y64 y65) [.arr 11 [.agg ps] true 0, .arr 11 [.agg [.i 0, .i 0, .i 0, .i 0, .i 0, .i 0, .i 0, .i 0, .i 0, .i 0, .i 0]] true 0, .arr 3 cs true 0, .arr 3 es true 0] :=
  RunsTo.hin 0 60 [] fun kf hk => ⟨_, by kernel_rfl, .nil⟩
theorem bo_g_0 (rw ps : List HV) (m : Nat) (cs : List HV) (q : Nat) (es : List HV) {y7 y9 y11 y13 y15 y21 y22 y23 y41 y42 y43 y64 y65 : HV} : RT polBo 50 (sub [1, 1, 1, 1, 1, 0] B50) (env50 (.imm .arg 1 rw) (.agg ps) (.ptr 0 0 0 1) (.i 0) (.ptr 1 0 0 1) (.sl 2 0 m none m 3) y7 y9 (.i 0) y11 y13 y15 y21 y22 y23 y41 y42 y43 y64 y65) [.arr 11 [.agg ps] true 0, .arr 11 [.agg [.i 0, .i 0, .i 0, .i 0, .i 0, .i 0, .i 0, .i 0, .i 0, .i 0, .i 0]] true 0, .arr 3 cs true 0, .arr 3 es true 0] .normal (env50 (.imm .arg 1 rw) (.agg ps) (.ptr 0 0 0 1) (.i 0) (.ptr 1 0 0 1) (.sl 2 0 m none m 3) y7 y9 (.i 0) (.ptr 4 0 0 1) y13 y15 y21 y22 y23 y41 y42 y43 y64 y65) [.arr 11 [.agg ps] true 0, .arr 11 [.agg [.i 0, .i 0, .i 0, .i 0, .i 0, .i 0, .i 0, .i 0, .i 0, .i 0, .i 0]] true 0, .arr 3 cs true 0, .arr 3 es true 0, .arr 11 [.agg [.i 0, .i 0, .i 0, .i 0, .i 0, .i 0, .i 0, .i 0, .i 0, .i 0, .i 0]] true 0] :=
  RunsTo.hin 0 60 [] fun kf hk => ⟨_, by kernel_rfl, .nil⟩
theorem bo_h_0 (rw ps : List HV) (m : Nat) (cs : List HV) (q : Nat) (es : List HV) (aa : List HV) {y7 y9 y13 y15 y21 y22 y23 y41 y42 y43 y64 y65 : HV} : RT polBo 50 (sub [1, 1, 1, 1, 1, 1, 0, 0] B50) (env50 (.imm .arg 1 rw) (.agg ps) (.ptr 0 0 0 1) (.i 0) (.ptr 1 0 0 1) (.sl 2 0 m none m 3) y7 y9 (.i 0) (.ptr 4 0 0 1) y13 y15 y21 y22 y23 y41 y42 y43 y64 y65) [.arr 11 [.agg ps] true 0, .arr 11 [.agg [.i 0, .i 0, .i 0, .i 0, .i 0, .i 0, .i 0, .i 0, .i 0, .i 0, .i 0]] true 0, .arr 3 cs true 0, .arr 3 es true 0, .arr 11 [.agg aa] true 0] .normal (env50 (.imm .arg 1 rw) (.agg ps) (.ptr 0 0 0 1) (.i 0) (.ptr 1 0 0 1) (.sl 2 0 m none m 3) y7 y9 (.i 0) (.ptr 4 0 0 1) y13 y15 y21 y22 y23 (.sl 2 0 m none m 3) (.i (m : Int)) (.i 0) y64 y65) [.arr 11 [.agg ps] true 0, .arr 11 [.agg [.i 0, .i 0, .i 0, .i 0, .i 0, .i 0, .i 0, .i 0, .i 0, .i 0, .i 0]] true 0, .arr 3 cs true 0, .arr 3 es true 0, .arr 11 [.agg aa] true 0] :=
  RunsTo.hin 0 60 [] fun kf hk => ⟨_, by kernel_rfl, .nil⟩
theorem bo_i_0 (rw ps : List HV) (m : Nat) (cs : List HV) (q : Nat) (es : List HV) (aa : List HV) (sm : Int) (i : Nat) (ec : Int) (ea eb : Nat) {y6 y7 y9 y13 y15 y21 y22 y23 y64 y65 : HV} {x0 : Int} {cs0 : List HV} {x1 : Int} {cs1 : List HV} (g0 : (i : Int) < (m : Int)) (g1 : idxV Tp 88 (.sl 2 0 m none m 3) (.i (i : Int)) = some (.ptr 2 i 0 m)) (g2 : loadV Tp [.arr 11 [.agg ps] true 0, .arr 11 [.agg [.i 0, .i 0, .i 0, .i 0, .i 0, .i 0, .i 0, .i 0, .i 0, .i 0, .i 0]] true 0, .arr 3 cs true 0, .arr 3 es true 0, .arr 11 [.agg aa] true 0] 91 (.ptr 2 i 0 m) = some (.agg [.i ec, .i (ea : Int), .i (eb : Int)])) (g3 : idxV Tp 66 (.ptr 4 0 0 1) (.i (ea : Int)) = some (.ptr 4 0 ea 1)) (g4 : loadV Tp [.arr 11 [.agg ps] true 0, .arr 11 [.agg [.i 0, .i 0, .i 0, .i 0, .i 0, .i 0, .i 0, .i 0, .i 0, .i 0, .i 0]] true 0, .arr 3 cs true 0, .arr 3 es true 0, .arr 11 [.agg aa] true 0, .arr 3 [.agg [.i ec, .i (ea : Int), .i (eb : Int)]] true 0] 3 (.ptr 4 0 ea 1) = some (.i x0)) (g5 : idxV Tp 66 (.ptr 4 0 0 1) (.i (ea : Int)) = some (.ptr 4 0 ea 1)) (g6 : storeV Tp [.arr 11 [.agg ps] true 0, .arr 11 [.agg [.i 0, .i 0, .i 0, .i 0, .i 0, .i 0, .i 0, .i 0, .i 0, .i 0, .i 0]] true 0, .arr 3 cs true 0, .arr 3 es true 0, .arr 11 [.agg aa] true 0, .arr 3 [.agg [.i ec, .i (ea : Int), .i (eb : Int)]] true 0] 3 (.ptr 4 0 ea 1) (.i (IntKind.i64.wrap (x0 + 1))) = some [.arr 11 [.agg ps] true 0, .arr 11 [.agg [.i 0, .i 0, .i 0, .i 0, .i 0, .i 0, .i 0, .i 0, .i 0, .i 0, .i 0]] true 0, .arr 3 cs true 0, .arr 3 es true 0, .arr 11 [.agg cs0] true 0, .arr 3 [.agg [.i ec, .i (ea : Int), .i (eb : Int)]] true 0]) (g7 : idxV Tp 66 (.ptr 4 0 0 1) (.i (eb : Int)) = some (.ptr 4 0 eb 1)) (g8 : loadV Tp [.arr 11 [.agg ps] true 0, .arr 11 [.agg [.i 0, .i 0, .i 0, .i 0, .i 0, .i 0, .i 0, .i 0, .i 0, .i 0, .i 0]] true 0, .arr 3 cs true 0, .arr 3 es true 0, .arr 11 [.agg cs0] true 0, .arr 3 [.agg [.i ec, .i (ea : Int), .i (eb : Int)]] true 0] 3 (.ptr 4 0 eb 1) = some (.i x1)) (g9 : idxV Tp 66 (.ptr 4 0 0 1) (.i (eb : Int)) = some (.ptr 4 0 eb 1)) (g10 : storeV Tp [.arr 11 [.agg ps] true 0, .arr 11 [.agg [.i 0, .i 0, .i 0, .i 0, .i 0, .i 0, .i 0, .i 0, .i 0, .i 0, .i 0]] true 0, .arr 3 cs true 0, .arr 3 es true 0, .arr 11 [.agg cs0] true 0, .arr 3 [.agg [.i ec, .i (ea : Int), .i (eb : Int)]] true 0] 3 (.ptr 4 0 eb 1) (.i (IntKind.i64.wrap (x1 + 1))) = some [.arr 11 [.agg ps] true 0, .arr 11 [.agg [.i 0, .i 0, .i 0, .i 0, .i 0, .i 0, .i 0, .i 0, .i 0, .i 0, .i 0]] true 0, .arr 3 cs true 0, .arr 3 es true 0, .arr 11 [.agg cs1] true 0, .arr 3 [.agg [.i ec, .i (ea : Int), .i (eb : Int)]] true 0]) : RT polBo 50 (sub [1, 1, 1, 1, 1, 1, 0, 1, 0, 0] B50) (env50 (.imm .arg 1 rw) (.agg ps) (.ptr 0 0 0 1) (.i 0) (.ptr 1 0 0 1) y6 y7 y9 (.i sm) (.ptr 4 0 0 1) y13 y15 y21 y22 y23 (.sl 2 0 m none m 3) (.i (m : Int)) (.i (i : Int)) y64 y65) [.arr 11 [.agg ps] true 0, .arr 11 [.agg [.i 0, .i 0, .i 0, .i 0, .i 0, .i 0, .i 0, .i 0, .i 0, .i 0, .i 0]] true 0, .arr 3 cs true 0, .arr 3 es true 0, .arr 11 [.agg aa] true 0] .normal (env50 (.imm .arg 1 rw) (.agg ps) (.ptr 0 0 0 1) (.i 0) (.ptr 1 0 0 1) y6 y7 y9 (.i (IntKind.i64.wrap (sm + ec))) (.ptr 4 0 0 1) (.ptr 5 0 0 1) y15 y21 y22 y23 (.sl 2 0 m none m 3) (.i (m : Int)) (.i (IntKind.i64.wrap ((i : Int) + 1))) y64 y65) [.arr 11 [.agg ps] true 0, .arr 11 [.agg [.i 0, .i 0, .i 0, .i 0, .i 0, .i 0, .i 0, .i 0, .i 0, .i 0, .i 0]] true 0, .arr 3 cs true 0, .arr 3 es true 0, .arr 11 [.agg cs1] true 0, .arr 3 [.agg [.i ec, .i (ea : Int), .i (eb : Int)]] true 0] :=
  RunsTo.hin 0 60 [⟨13, 0, .bool true, [.arr 11 [.agg ps] true 0, .arr 11 [.agg [.i 0, .i 0, .i 0, .i 0, .i 0, .i 0, .i 0, .i 0, .i 0, .i 0, .i 0]] true 0, .arr 3 cs true 0, .arr 3 es true 0, .arr 11 [.agg aa] true 0]⟩, ⟨14, 0, .ptr 2 i 0 m, [.arr 11 [.agg ps] true 0, .arr 11 [.agg [.i 0, .i 0, .i 0, .i 0, .i 0, .i 0, .i 0, .i 0, .i 0, .i 0, .i 0]] true 0, .arr 3 cs true 0, .arr 3 es true 0, .arr 11 [.agg aa] true 0]⟩, ⟨14, 1, .agg [.i ec, .i (ea : Int), .i (eb : Int)], [.arr 11 [.agg ps] true 0, .arr 11 [.agg [.i 0, .i 0, .i 0, .i 0, .i 0, .i 0, .i 0, .i 0, .i 0, .i 0, .i 0]] true 0, .arr 3 cs true 0, .arr 3 es true 0, .arr 11 [.agg aa] true 0]⟩, ⟨16, 2, .ptr 4 0 ea 1, [.arr 11 [.agg ps] true 0, .arr 11 [.agg [.i 0, .i 0, .i 0, .i 0, .i 0, .i 0, .i 0, .i 0, .i 0, .i 0, .i 0]] true 0, .arr 3 cs true 0, .arr 3 es true 0, .arr 11 [.agg aa] true 0, .arr 3 [.agg [.i ec, .i (ea : Int), .i (eb : Int)]] true 0]⟩, ⟨16, 3, .i x0, [.arr 11 [.agg ps] true 0, .arr 11 [.agg [.i 0, .i 0, .i 0, .i 0, .i 0, .i 0, .i 0, .i 0, .i 0, .i 0, .i 0]] true 0, .arr 3 cs true 0, .arr 3 es true 0, .arr 11 [.agg aa] true 0, .arr 3 [.agg [.i ec, .i (ea : Int), .i (eb : Int)]] true 0]⟩, ⟨16, 5, .ptr 4 0 ea 1, [.arr 11 [.agg ps] true 0, .arr 11 [.agg [.i 0, .i 0, .i 0, .i 0, .i 0, .i 0, .i 0, .i 0, .i 0, .i 0, .i 0]] true 0, .arr 3 cs true 0, .arr 3 es true 0, .arr 11 [.agg aa] true 0, .arr 3 [.agg [.i ec, .i (ea : Int), .i (eb : Int)]] true 0]⟩, ⟨16, 6, .tuple [], [.arr 11 [.agg ps] true 0, .arr 11 [.agg [.i 0, .i 0, .i 0, .i 0, .i 0, .i 0, .i 0, .i 0, .i 0, .i 0, .i 0]] true 0, .arr 3 cs true 0, .arr 3 es true 0, .arr 11 [.agg cs0] true 0, .arr 3 [.agg [.i ec, .i (ea : Int), .i (eb : Int)]] true 0]⟩, ⟨17, 2, .ptr 4 0 eb 1, [.arr 11 [.agg ps] true 0, .arr 11 [.agg [.i 0, .i 0, .i 0, .i 0, .i 0, .i 0, .i 0, .i 0, .i 0, .i 0, .i 0]] true 0, .arr 3 cs true 0, .arr 3 es true 0, .arr 11 [.agg cs0] true 0, .arr 3 [.agg [.i ec, .i (ea : Int), .i (eb : Int)]] true 0]⟩, ⟨17, 3, .i x1, [.arr 11 [.agg ps] true 0, .arr 11 [.agg [.i 0, .i 0, .i 0, .i 0, .i 0, .i 0, .i 0, .i 0, .i 0, .i 0, .i 0]] true 0, .arr 3 cs true 0, .arr 3 es true 0, .arr 11 [.agg cs0] true 0, .arr 3 [.agg [.i ec, .i (ea : Int), .i (eb : Int)]] true 0]⟩, ⟨17, 5, .ptr 4 0 eb 1, [.arr 11 [.agg ps] true 0, .arr 11 [.agg [.i 0, .i 0, .i 0, .i 0, .i 0, .i 0, .i 0, .i 0, .i 0, .i 0, .i 0]] true 0, .arr 3 cs true 0, .arr 3 es true 0, .arr 11 [.agg cs0] true 0, .arr 3 [.agg [.i ec, .i (ea : Int), .i (eb : Int)]] true 0]⟩, ⟨17, 6, .tuple [], [.arr 11 [.agg ps] true 0, .arr 11 [.agg [.i 0, .i 0, .i 0, .i 0, .i 0, .i 0, .i 0, .i 0, .i 0, .i 0, .i 0]] true 0, .arr 3 cs true 0, .arr 3 es true 0, .arr 11 [.agg cs1] true 0, .arr 3 [.agg [.i ec, .i (ea : Int), .i (eb : Int)]] true 0]⟩] fun kf hk => ⟨_, by kernel_rfl, (oB [.arr 11 [.agg ps] true 0, .arr 11 [.agg [.i 0, .i 0, .i 0, .i 0, .i 0, .i 0, .i 0, .i 0, .i 0, .i 0, .i 0]] true 0, .arr 3 cs true 0, .arr 3 es true 0, .arr 11 [.agg aa] true 0] (decide_eq_true g0) (oP [.arr 11 [.agg ps] true 0, .arr 11 [.agg [.i 0, .i 0, .i 0, .i 0, .i 0, .i 0, .i 0, .i 0, .i 0, .i 0, .i 0]] true 0, .arr 3 cs true 0, .arr 3 es true 0, .arr 11 [.agg aa] true 0] g1 (oP [.arr 11 [.agg ps] true 0, .arr 11 [.agg [.i 0, .i 0, .i 0, .i 0, .i 0, .i 0, .i 0, .i 0, .i 0, .i 0, .i 0]] true 0, .arr 3 cs true 0, .arr 3 es true 0, .arr 11 [.agg aa] true 0] g2 (oP [.arr 11 [.agg ps] true 0, .arr 11 [.agg [.i 0, .i 0, .i 0, .i 0, .i 0, .i 0, .i 0, .i 0, .i 0, .i 0, .i 0]] true 0, .arr 3 cs true 0, .arr 3 es true 0, .arr 11 [.agg aa] true 0, .arr 3 [.agg [.i ec, .i (ea : Int), .i (eb : Int)]] true 0] g3 (oP [.arr 11 [.agg ps] true 0, .arr 11 [.agg [.i 0, .i 0, .i 0, .i 0, .i 0, .i 0, .i 0, .i 0, .i 0, .i 0, .i 0]] true 0, .arr 3 cs true 0, .arr 3 es true 0, .arr 11 [.agg aa] true 0, .arr 3 [.agg [.i ec, .i (ea : Int), .i (eb : Int)]] true 0] g4 (oP [.arr 11 [.agg ps] true 0, .arr 11 [.agg [.i 0, .i 0, .i 0, .i 0, .i 0, .i 0, .i 0, .i 0, .i 0, .i 0, .i 0]] true 0, .arr 3 cs true 0, .arr 3 es true 0, .arr 11 [.agg aa] true 0, .arr 3 [.agg [.i ec, .i (ea : Int), .i (eb : Int)]] true 0] g5 (oS g6 (oP [.arr 11 [.agg ps] true 0, .arr 11 [.agg [.i 0, .i 0, .i 0, .i 0, .i 0, .i 0, .i 0, .i 0, .i 0, .i 0, .i 0]] true 0, .arr 3 cs true 0, .arr 3 es true 0, .arr 11 [.agg cs0] true 0, .arr 3 [.agg [.i ec, .i (ea : Int), .i (eb : Int)]] true 0] g7 (oP [.arr 11 [.agg ps] true 0, .arr 11 [.agg [.i 0, .i 0, .i 0, .i 0, .i 0, .i 0, .i 0, .i 0, .i 0, .i 0, .i 0]] true 0, .arr 3 cs true 0, .arr 3 es true 0, .arr 11 [.agg cs0] true 0, .arr 3 [.agg [.i ec, .i (ea : Int), .i (eb : Int)]] true 0] g8 (oP [.arr 11 [.agg ps] true 0, .arr 11 [.agg [.i 0, .i 0, .i 0, .i 0, .i 0, .i 0, .i 0, .i 0, .i 0, .i 0, .i 0]] true 0, .arr 3 cs true 0, .arr 3 es true 0, .arr 11 [.agg cs0] true 0, .arr 3 [.agg [.i ec, .i (ea : Int), .i (eb : Int)]] true 0] g9 (oS g10 .nil)))))))))))⟩
theorem bo_i_1 (rw ps : List HV) (m : Nat) (cs : List HV) (q : Nat) (es : List HV) (aa : List HV) (sm : Int) (i : Nat) (ec : Int) (ea eb : Nat) {y6 y7 y9 y13 y15 y21 y22 y23 y64 y65 : HV}(g0 : ¬ ((i : Int) < (m : Int))) : RT polBo 50 (sub [1, 1, 1, 1, 1, 1, 0, 1, 0, 0] B50) (env50 (.imm .arg 1 rw) (.agg ps) (.ptr 0 0 0 1) (.i 0) (.ptr 1 0 0 1) y6 y7 y9 (.i sm) (.ptr 4 0 0 1) y13 y15 y21 y22 y23 (.sl 2 0 m none m 3) (.i (m : Int)) (.i (i : Int)) y64 y65) [.arr 11 [.agg ps] true 0, .arr 11 [.agg [.i 0, .i 0, .i 0, .i 0, .i 0, .i 0, .i 0, .i 0, .i 0, .i 0, .i 0]] true 0, .arr 3 cs true 0, .arr 3 es true 0, .arr 11 [.agg aa] true 0] (.exit 2) (env50 (.imm .arg 1 rw) (.agg ps) (.ptr 0 0 0 1) (.i 0) (.ptr 1 0 0 1) y6 y7 y9 (.i sm) (.ptr 4 0 0 1) y13 y15 y21 y22 y23 (.sl 2 0 m none m 3) (.i (m : Int)) (.i (i : Int)) y64 y65) [.arr 11 [.agg ps] true 0, .arr 11 [.agg [.i 0, .i 0, .i 0, .i 0, .i 0, .i 0, .i 0, .i 0, .i 0, .i 0, .i 0]] true 0, .arr 3 cs true 0, .arr 3 es true 0, .arr 11 [.agg aa] true 0] :=
  RunsTo.hin 0 60 [⟨13, 0, .bool false, [.arr 11 [.agg ps] true 0, .arr 11 [.agg [.i 0, .i 0, .i 0, .i 0, .i 0, .i 0, .i 0, .i 0, .i 0, .i 0, .i 0]] true 0, .arr 3 cs true 0, .arr 3 es true 0, .arr 11 [.agg aa] true 0]⟩] fun kf hk => ⟨_, by kernel_rfl, (oB [.arr 11 [.agg ps] true 0, .arr 11 [.agg [.i 0, .i 0, .i 0, .i 0, .i 0, .i 0, .i 0, .i 0, .i 0, .i 0, .i 0]] true 0, .arr 3 cs true 0, .arr 3 es true 0, .arr 11 [.agg aa] true 0] (decide_eq_false g0) .nil)⟩
theorem bo_j_0 (rw ps : List HV) (m : Nat) (cs : List HV) (q : Nat) (es : List HV) (aa : List HV) (sm : Int) {y6 y7 y9 y13 y15 y21 y22 y23 y41 y42 y43 y64 y65 : HV}(g0 : loadV Tp [.arr 11 [.agg ps] true 0, .arr 11 [.agg [.i 0, .i 0, .i 0, .i 0, .i 0, .i 0, .i 0, .i 0, .i 0, .i 0, .i 0]] true 0, .arr 3 cs true 0, .arr 3 es true 0, .arr 11 [.agg aa] true 0] 66 (.ptr 0 0 0 1) = some (.agg ps)) : RT polBo 50 (sub [1, 1, 1, 1, 1, 1, 1, 0, 0] B50) (env50 (.imm .arg 1 rw) (.agg ps) (.ptr 0 0 0 1) (.i 0) (.ptr 1 0 0 1) y6 y7 y9 (.i sm) (.ptr 4 0 0 1) y13 y15 y21 y22 y23 y41 y42 y43 y64 y65) [.arr 11 [.agg ps] true 0, .arr 11 [.agg [.i 0, .i 0, .i 0, .i 0, .i 0, .i 0, .i 0, .i 0, .i 0, .i 0, .i 0]] true 0, .arr 3 cs true 0, .arr 3 es true 0, .arr 11 [.agg aa] true 0] .normal (env50 (.imm .arg 1 rw) (.agg ps) (.ptr 0 0 0 1) (.i 0) (.ptr 1 0 0 1) y6 y7 y9 (.i sm) (.ptr 4 0 0 1) y13 y15 y21 y22 y23 y41 y42 y43 (.agg ps) (.i 0)) [.arr 11 [.agg ps] true 0, .arr 11 [.agg [.i 0, .i 0, .i 0, .i 0, .i 0, .i 0, .i 0, .i 0, .i 0, .i 0, .i 0]] true 0, .arr 3 cs true 0, .arr 3 es true 0, .arr 11 [.agg aa] true 0] :=
  RunsTo.hin 0 60 [⟨19, 0, .agg ps, [.arr 11 [.agg ps] true 0, .arr 11 [.agg [.i 0, .i 0, .i 0, .i 0, .i 0, .i 0, .i 0, .i 0, .i 0, .i 0, .i 0]] true 0, .arr 3 cs true 0, .arr 3 es true 0, .arr 11 [.agg aa] true 0]⟩] fun kf hk => ⟨_, by kernel_rfl, (oP [.arr 11 [.agg ps] true 0, .arr 11 [.agg [.i 0, .i 0, .i 0, .i 0, .i 0, .i 0, .i 0, .i 0, .i 0, .i 0, .i 0]] true 0, .arr 3 cs true 0, .arr 3 es true 0, .arr 11 [.agg aa] true 0] g0 .nil)⟩
theorem bo_k_0 (rw ps : List HV) (m : Nat) (cs : List HV) (q : Nat) (es : List HV) (aa : List HV) (sm : Int) (i : Nat) {y3 y6 y7 y9 y13 y15 y21 y22 y23 y41 y42 y43 : HV} {x0 : Int} (g0 : (i : Int) < 11) (g1 : elemV Tp 66 (.agg ps) (.i (i : Int)) = some (.i x0)) : RT polBo 50 (sub [1, 1, 1, 1, 1, 1, 1, 0, 1, 0, 0] B50) (env50 (.imm .arg 1 rw) (.agg ps) y3 (.i 0) (.ptr 1 0 0 1) y6 y7 y9 (.i sm) (.ptr 4 0 0 1) y13 y15 y21 y22 y23 y41 y42 y43 (.agg ps) (.i (i : Int))) [.arr 11 [.agg ps] true 0, .arr 11 [.agg [.i 0, .i 0, .i 0, .i 0, .i 0, .i 0, .i 0, .i 0, .i 0, .i 0, .i 0]] true 0, .arr 3 cs true 0, .arr 3 es true 0, .arr 11 [.agg aa] true 0] .normal (env50 (.imm .arg 1 rw) (.agg ps) y3 (.i 0) (.ptr 1 0 0 1) y6 y7 y9 (.i (IntKind.i64.wrap (sm - IntKind.i64.wrap (2 * x0)))) (.ptr 4 0 0 1) y13 (.i x0) y21 y22 y23 y41 y42 y43 (.agg ps) (.i (IntKind.i64.wrap ((i : Int) + 1)))) [.arr 11 [.agg ps] true 0, .arr 11 [.agg [.i 0, .i 0, .i 0, .i 0, .i 0, .i 0, .i 0, .i 0, .i 0, .i 0, .i 0]] true 0, .arr 3 cs true 0, .arr 3 es true 0, .arr 11 [.agg aa] true 0] :=
  RunsTo.hin 0 60 [⟨20, 0, .bool true, [.arr 11 [.agg ps] true 0, .arr 11 [.agg [.i 0, .i 0, .i 0, .i 0, .i 0, .i 0, .i 0, .i 0, .i 0, .i 0, .i 0]] true 0, .arr 3 cs true 0, .arr 3 es true 0, .arr 11 [.agg aa] true 0]⟩, ⟨21, 0, .i x0, [.arr 11 [.agg ps] true 0, .arr 11 [.agg [.i 0, .i 0, .i 0, .i 0, .i 0, .i 0, .i 0, .i 0, .i 0, .i 0, .i 0]] true 0, .arr 3 cs true 0, .arr 3 es true 0, .arr 11 [.agg aa] true 0]⟩] fun kf hk => ⟨_, by kernel_rfl, (oB [.arr 11 [.agg ps] true 0, .arr 11 [.agg [.i 0, .i 0, .i 0, .i 0, .i 0, .i 0, .i 0, .i 0, .i 0, .i 0, .i 0]] true 0, .arr 3 cs true 0, .arr 3 es true 0, .arr 11 [.agg aa] true 0] (decide_eq_true g0) (oP [.arr 11 [.agg ps] true 0, .arr 11 [.agg [.i 0, .i 0, .i 0, .i 0, .i 0, .i 0, .i 0, .i 0, .i 0, .i 0, .i 0]] true 0, .arr 3 cs true 0, .arr 3 es true 0, .arr 11 [.agg aa] true 0] g1 .nil))⟩
theorem bo_k_1 (rw ps : List HV) (m : Nat) (cs : List HV) (q : Nat) (es : List HV) (aa : List HV) (sm : Int) (i : Nat) {y3 y6 y7 y9 y13 y15 y21 y22 y23 y41 y42 y43 : HV}(g0 : ¬ ((i : Int) < 11)) : RT polBo 50 (sub [1, 1, 1, 1, 1, 1, 1, 0, 1, 0, 0] B50) (env50 (.imm .arg 1 rw) (.agg ps) y3 (.i 0) (.ptr 1 0 0 1) y6 y7 y9 (.i sm) (.ptr 4 0 0 1) y13 y15 y21 y22 y23 y41 y42 y43 (.agg ps) (.i (i : Int))) [.arr 11 [.agg ps] true 0, .arr 11 [.agg [.i 0, .i 0, .i 0, .i 0, .i 0, .i 0, .i 0, .i 0, .i 0, .i 0, .i 0]] true 0, .arr 3 cs true 0, .arr 3 es true 0, .arr 11 [.agg aa] true 0] (.exit 4) (env50 (.imm .arg 1 rw) (.agg ps) y3 (.i 0) (.ptr 1 0 0 1) y6 y7 y9 (.i sm) (.ptr 4 0 0 1) y13 y15 y21 y22 y23 y41 y42 y43 (.agg ps) (.i (i : Int))) [.arr 11 [.agg ps] true 0, .arr 11 [.agg [.i 0, .i 0, .i 0, .i 0, .i 0, .i 0, .i 0, .i 0, .i 0, .i 0, .i 0]] true 0, .arr 3 cs true 0, .arr 3 es true 0, .arr 11 [.agg aa] true 0] :=
  RunsTo.hin 0 60 [⟨20, 0, .bool false, [.arr 11 [.agg ps] true 0, .arr 11 [.agg [.i 0, .i 0, .i 0, .i 0, .i 0, .i 0, .i 0, .i 0, .i 0, .i 0, .i 0]] true 0, .arr 3 cs true 0, .arr 3 es true 0, .arr 11 [.agg aa] true 0]⟩] fun kf hk => ⟨_, by kernel_rfl, (oB [.arr 11 [.agg ps] true 0, .arr 11 [.agg [.i 0, .i 0, .i 0, .i 0, .i 0, .i 0, .i 0, .i 0, .i 0, .i 0, .i 0]] true 0, .arr 3 cs true 0, .arr 3 es true 0, .arr 11 [.agg aa] true 0] (decide_eq_false g0) .nil)⟩
theorem bo_l_0 (rw ps : List HV) (m : Nat) (cs : List HV) (q : Nat) (es : List HV) (aa : List HV) (sm : Int) {y3 y6 y7 y9 y13 y15 y21 y22 y23 y41 y42 y43 y64 y65 : HV}(g0 : loadV Tp [.arr 11 [.agg ps] true 0, .arr 11 [.agg [.i 0, .i 0, .i 0, .i 0, .i 0, .i 0, .i 0, .i 0, .i 0, .i 0, .i 0]] true 0, .arr 3 cs true 0, .arr 3 es true 0, .arr 11 [.agg aa] true 0] 66 (.ptr 4 0 0 1) = some (.agg aa)) (g1 : storeV Tp [.arr 11 [.agg ps] true 0, .arr 11 [.agg [.i 0, .i 0, .i 0, .i 0, .i 0, .i 0, .i 0, .i 0, .i 0, .i 0, .i 0]] true 0, .arr 3 cs true 0, .arr 3 es true 0, .arr 11 [.agg aa] true 0] 66 (.ptr 1 0 0 1) (.agg aa) = some [.arr 11 [.agg ps] true 0, .arr 11 [.agg aa] true 0, .arr 3 cs true 0, .arr 3 es true 0, .arr 11 [.agg aa] true 0]) : RT polBo 50 (sub [1, 1, 1, 1, 1, 1, 1, 1] B50) (env50 (.imm .arg 1 rw) (.agg ps) y3 (.i 0) (.ptr 1 0 0 1) y6 y7 y9 (.i sm) (.ptr 4 0 0 1) y13 y15 y21 y22 y23 y41 y42 y43 y64 y65) [.arr 11 [.agg ps] true 0, .arr 11 [.agg [.i 0, .i 0, .i 0, .i 0, .i 0, .i 0, .i 0, .i 0, .i 0, .i 0, .i 0]] true 0, .arr 3 cs true 0, .arr 3 es true 0, .arr 11 [.agg aa] true 0] .ret (env50 (.imm .arg 1 rw) (.agg ps) y3 (.i sm) (.ptr 1 0 0 1) y6 y7 y9 (.i sm) (.ptr 4 0 0 1) y13 y15 y21 y22 y23 y41 y42 y43 y64 y65) [.arr 11 [.agg ps] true 0, .arr 11 [.agg aa] true 0, .arr 3 cs true 0, .arr 3 es true 0, .arr 11 [.agg aa] true 0] :=
  RunsTo.hin 0 60 [⟨24, 1, .agg aa, [.arr 11 [.agg ps] true 0, .arr 11 [.agg [.i 0, .i 0, .i 0, .i 0, .i 0, .i 0, .i 0, .i 0, .i 0, .i 0, .i 0]] true 0, .arr 3 cs true 0, .arr 3 es true 0, .arr 11 [.agg aa] true 0]⟩, ⟨24, 3, .tuple [], [.arr 11 [.agg ps] true 0, .arr 11 [.agg aa] true 0, .arr 3 cs true 0, .arr 3 es true 0, .arr 11 [.agg aa] true 0]⟩] fun kf hk => ⟨_, by kernel_rfl, (oP [.arr 11 [.agg ps] true 0, .arr 11 [.agg [.i 0, .i 0, .i 0, .i 0, .i 0, .i 0, .i 0, .i 0, .i 0, .i 0, .i 0]] true 0, .arr 3 cs true 0, .arr 3 es true 0, .arr 11 [.agg aa] true 0] g0 (oS g1 .nil))⟩
end Go.Proofs.Ytlendaofkmhgmaa
end
section
open Go Go.HL Go.HL.So
namespace Go.Proofs.Ytlendaofkmhgmaa
open Go.Proofs.Try renaming prog → Tp
open Go.HL.HV renaming undef → Ud
theorem res50 : Try.f50.results.toList = [.tmp 4, .cell 5 66] := by kernel_rfl
section
variable {d : List (List Int)} {ps : List Int}
theorem pst {H : Heap} {b i : Nat} {t : List Int} (hb : H[b]? = some (pB t)) (ht : t.length = 11) (hi : i < 11) (v : Int) : storeV Tp H 3 (.ptr b 0 i 1) (.int .i64 v) = some (H.set b (pB (t.set i v))) := by
  have := store_cell (P := Tp) (t := 3) (b := b) (i := 0) (off := i) (tot := 1) (v := .int .i64 v) (cs := t.map encI) hb rfl rfl z3 rfl rfl (by simp [bnd]) (by simpa [ht] using hi)
  rw [this]
  show some (H.set b (.arr 11 [.agg ((t.map encI).set i (encI v))] true 0)) = _
  rw [← List.map_set]
theorem pel {t : List Int} {i : Nat} (ht : t.length = 11) (hi : i < 11) : elemV Tp 66 (.agg (t.map encI)) (.int .i64 (i : Int)) = some (.int .i64 (t.getD i 0)) := by
  have := elem_arr (P := Tp) (t := 66) (e := 3) (m := 11) (ik := .i64) (n := (i : Int)) (cs := t.map encI) (v := .int .i64 (t.getD i 0)) u66 z3 a3 i3 (by omega) (by omega) (by rw [Int.toNat_natCast, List.getElem?_map, List.getElem?_eq_getElem (by omega)]; simp [List.getD, List.getElem?_eq_getElem (show i < t.length by omega), encI])
  exact this
theorem pst_all {H : Heap} {b : Nat} {t u : List Int} (hb : H[b]? = some (pB t)) (ht : t.length = 11) (hu : u.length = 11) : storeV Tp H 66 (.ptr b 0 0 1) (.agg (u.map encI)) = some (H.set b (pB u)) := by
  have hc : (u.map encI).all cellV = true := by simp [cellV, encI]
  have := store_agg (P := Tp) (t := 66) (b := b) (i := 0) (tot := 1) (cs := t.map encI) (new := u.map encI) hb rfl rfl (by rw [show tySize Tp 66 = some 11 by kernel_rfl]; simp [hu]) (by simp [ht, hu]) (by simp [hu]) hc (ints_bnd u)
  rw [this]; rfl
abbrev Zs : List Int := List.replicate 11 0
abbrev boH (ps : List Int) (cs es : List Ed) : Heap := [pB ps, pB Zs, bE encE cs, bE encE es]
abbrev boX (ps : List Int) (cs es : List Ed) (e : Ed) : Heap := [pB ps, pB Zs, bE encE cs, bE encE es, .arr 3 [encE e] true 0]
theorem bogc {cs cs2 es : List Ed} {e : Ed} (m w i q : Nat) (y6 : HV) (h6 : bnd y6 ≤ 4) : gc (boH ps cs es).length (bndE (env50 (.imm .arg 1 (d.map encR)) (.agg (ps.map encI)) (.ptr 0 0 0 1) (.int .i64 0) (.ptr 1 0 0 1) y6 (.int .i64 (w : Int)) Ud Ud Ud Ud Ud (.sl 3 0 q none q 3) (.int .i64 (q : Int)) (.int .i64 (i : Int)) Ud Ud Ud Ud Ud)) (boX ps cs2 es e) = boH ps cs2 es := by
  unfold gc
  have : max (boH ps cs es).length (max (bndE (env50 (.imm .arg 1 (d.map encR)) (.agg (ps.map encI)) (.ptr 0 0 0 1) (.int .i64 0) (.ptr 1 0 0 1) y6 (.int .i64 (w : Int)) Ud Ud Ud Ud Ud (.sl 3 0 q none q 3) (.int .i64 (q : Int)) (.int .i64 (i : Int)) Ud Ud Ud Ud Ud)) (mxs (boX ps cs2 es e))) = 4 := by
    have h1 : mxs (boX ps cs2 es e) = 0 := by simp [mxs, Blk.mx, bE]
    have h2 : bndE (env50 (.imm .arg 1 (d.map encR)) (.agg (ps.map encI)) (.ptr 0 0 0 1) (.int .i64 0) (.ptr 1 0 0 1) y6 (.int .i64 (w : Int)) Ud Ud Ud Ud Ud (.sl 3 0 q none q 3) (.int .i64 (q : Int)) (.int .i64 (i : Int)) Ud Ud Ud Ud Ud) ≤ 4 := by
      simp only [bndE, bnd, ints_bnd]; omega
    rw [h1]; show max 4 (max _ 0) = 4; omega
  rw [this]; rfl
theorem bo_two (hd : okD d) {es : List Ed} (he : EIn d.length es) (hq : es.length ≤ 500) : ∀ (k i w : Nat) (cs : List Ed), i + k = es.length → w ≤ 2 → cs.length + k ≤ 700 →
    ∃ y7 y23, RT polBo 50 (sub [1, 1, 1, 0, 1, 0] B50) (env50 (.imm .arg 1 (d.map encR)) (.agg (ps.map encI)) (.ptr 0 0 0 1) (.int .i64 0) (.ptr 1 0 0 1) (.sl 2 0 cs.length none cs.length 3) (.int .i64 (w : Int)) Ud Ud Ud Ud Ud (.sl 3 0 es.length none es.length 3) (.int .i64 (es.length : Int)) (.int .i64 (i : Int)) Ud Ud Ud Ud Ud) (boH ps cs es) (.exit 0)
      (env50 (.imm .arg 1 (d.map encR)) (.agg (ps.map encI)) (.ptr 0 0 0 1) (.int .i64 0) (.ptr 1 0 0 1) (.sl 2 0 (cs ++ two2 w (es.drop i)).length none (cs ++ two2 w (es.drop i)).length 3) y7 Ud Ud Ud Ud Ud (.sl 3 0 es.length none es.length 3) (.int .i64 (es.length : Int)) y23 Ud Ud Ud Ud Ud) (boH ps (cs ++ two2 w (es.drop i)) es) := by
  have hn := hd.1
  intro k
  induction k with
  | zero =>
    intro i w cs hi hw ho
    have : i = es.length := by omega
    subst this
    rw [List.drop_length, two2, List.append_nil]
    exact ⟨_, _, lpo (bo_e_3 (d.map encR) (ps.map encI) cs.length (cs.map encE) es.length (es.map encE) w es.length 0 0 0 (by omega))⟩
  | succ k ih =>
    intro i w cs hi hw ho
    have hdrop : es.drop i = at_ es i :: es.drop (i + 1) := by
      rw [List.drop_eq_getElem_cons (by omega)]
      simp [at_, List.getD, List.getElem?_eq_getElem (show i < es.length by omega)]
    have hmem : at_ es i ∈ es := by
      have : at_ es i = es[i] := by simp [at_, List.getD, List.getElem?_eq_getElem (show i < es.length by omega)]
      rw [this]; exact List.getElem_mem _
    obtain ⟨ec, ea, eb, hae, ha, hb⟩ : ∃ (ec : Int) (ea eb : Nat), at_ es i = mkQ ec ea eb ∧ ea < d.length ∧ eb < d.length := by
      obtain ⟨⟨h1, h2⟩, h3, h4⟩ := he _ hmem
      refine ⟨(at_ es i).1, (at_ es i).2.1.toNat, (at_ es i).2.2.toNat, ?_, h2, h4⟩
      show at_ es i = ((at_ es i).1, _, _)
      rw [Int.toNat_of_nonneg h1, Int.toNat_of_nonneg h3]
    rw [hdrop, hae, two2]
    have hl := lde (H := boH ps cs es) (b := 3) (k := i) (l := es) rfl rfl (by omega)
    rw [hae] at hl
    by_cases c : (ea : Int) = 0
    · by_cases c2 : w < 2
      · have s := bo_e_0 (d.map encR) (ps.map encI) cs.length (cs.map encE) es.length (es.map encE) w i ec ea eb (y9 := Ud) (y10 := Ud) (y11 := Ud) (y13 := Ud) (y15 := Ud) (y41 := Ud) (y42 := Ud) (y43 := Ud) (y64 := Ud) (y65 := Ud) (by omega) (ixe (by omega)) hl c (by omega) (app_Em (H := boX ps cs es (mkQ ec ea eb)) (b := 2) (o := cs) rfl (by omega) (mkQ ec ea eb))
        have hs : cs.map encE ++ [HV.agg [.int .i64 ec, .int .i64 (ea : Int), .int .i64 (eb : Int)]] = (cs ++ [mkQ ec ea eb]).map encE := by simp [encE]
        rw [wrap_succ (by omega), wrap_succ (by omega), hs] at s
        obtain ⟨y7, y23, r⟩ := ih (i + 1) (w + 1) (cs ++ [mkQ ec ea eb]) (by omega) (by omega) (by simp; omega)
        rw [if_pos ⟨c, c2⟩]
        rw [List.append_assoc, show (cs ++ [mkQ ec ea eb]).length = cs.length + 1 by simp] at r
        exact ⟨y7, y23, lop (s) (bogc (cs := cs) (cs2 := cs ++ [mkQ ec ea eb]) (e := mkQ ec ea eb) 0 (w + 1) (i + 1) es.length (.sl 2 0 (cs.length + 1) none (cs.length + 1) 3) (by simp [bnd])) (r)⟩
      · have s := bo_e_1 (d.map encR) (ps.map encI) cs.length (cs.map encE) es.length (es.map encE) w i ec ea eb (y9 := Ud) (y10 := Ud) (y11 := Ud) (y13 := Ud) (y15 := Ud) (y41 := Ud) (y42 := Ud) (y43 := Ud) (y64 := Ud) (y65 := Ud) (by omega) (ixe (by omega)) hl c (by omega)
        rw [wrap_succ (by omega)] at s
        obtain ⟨y7, y23, r⟩ := ih (i + 1) w cs (by omega) (by omega) (by omega)
        rw [if_neg (fun h => c2 h.2)]
        exact ⟨y7, y23, lop (s) (bogc (cs := cs) (cs2 := cs) (e := mkQ ec ea eb) 0 w (i + 1) es.length (.sl 2 0 cs.length none cs.length 3) (by simp [bnd])) (r)⟩
    · have s := bo_e_2 (d.map encR) (ps.map encI) cs.length (cs.map encE) es.length (es.map encE) w i ec ea eb (y9 := Ud) (y10 := Ud) (y11 := Ud) (y13 := Ud) (y15 := Ud) (y41 := Ud) (y42 := Ud) (y43 := Ud) (y64 := Ud) (y65 := Ud) (by omega) (ixe (by omega)) hl c
      rw [wrap_succ (by omega)] at s
      obtain ⟨y7, y23, r⟩ := ih (i + 1) w cs (by omega) (by omega) (by omega)
      rw [if_neg (fun h => c h.1)]
      exact ⟨y7, y23, lop (s) (bogc (cs := cs) (cs2 := cs) (e := mkQ ec ea eb) 0 w (i + 1) es.length (.sl 2 0 cs.length none cs.length 3) (by simp [bnd])) (r)⟩
abbrev boD (ps : List Int) (cs es : List Ed) (t : List Int) : Heap := [pB ps, pB Zs, bE encE cs, bE encE es, pB t]
abbrev boY (ps : List Int) (cs es : List Ed) (t : List Int) (e : Ed) : Heap := [pB ps, pB Zs, bE encE cs, bE encE es, pB t, .arr 3 [encE e] true 0]
theorem bogc2 {cs es : List Ed} {t u : List Int} {e : Ed} {m i : Nat} {s : Int} : gc (boD ps cs es t).length (bndE (env50 (.imm .arg 1 (d.map encR)) (.agg (ps.map encI)) (.ptr 0 0 0 1) (.int .i64 0) (.ptr 1 0 0 1) Ud Ud Ud (.int .i64 s) (.ptr 4 0 0 1) Ud Ud Ud Ud Ud (.sl 2 0 m none m 3) (.int .i64 (m : Int)) (.int .i64 (i : Int)) Ud Ud)) (boY ps cs es u e) = boD ps cs es u := by
  unfold gc
  have : max (boD ps cs es t).length (max (bndE (env50 (.imm .arg 1 (d.map encR)) (.agg (ps.map encI)) (.ptr 0 0 0 1) (.int .i64 0) (.ptr 1 0 0 1) Ud Ud Ud (.int .i64 s) (.ptr 4 0 0 1) Ud Ud Ud Ud Ud (.sl 2 0 m none m 3) (.int .i64 (m : Int)) (.int .i64 (i : Int)) Ud Ud)) (mxs (boY ps cs es u e))) = 5 := by
    have h1 : mxs (boY ps cs es u e) = 0 := by simp [mxs, Blk.mx, bE]
    have h2 : bndE (env50 (.imm .arg 1 (d.map encR)) (.agg (ps.map encI)) (.ptr 0 0 0 1) (.int .i64 0) (.ptr 1 0 0 1) Ud Ud Ud (.int .i64 s) (.ptr 4 0 0 1) Ud Ud Ud Ud Ud (.sl 2 0 m none m 3) (.int .i64 (m : Int)) (.int .i64 (i : Int)) Ud Ud) ≤ 5 := by
      simp only [bndE, bnd, ints_bnd]; omega
    rw [h1]; show max 5 (max _ 0) = 5; omega
  rw [this]; rfl
theorem bo_sum (hd : okD d) {cs es : List Ed} (he : EIn d.length cs) (hc : costOk cs) (hq : cs.length ≤ 500) : ∀ (k i : Nat) (t : List Int) (s : Int), i + k = cs.length → CtB t i → -3000000000 * (i : Int) ≤ s → s ≤ 3000000000 * (i : Int) →
    ∃ y13, RT polBo 50 (sub [1, 1, 1, 1, 1, 1, 0, 1, 0] B50) (env50 (.imm .arg 1 (d.map encR)) (.agg (ps.map encI)) (.ptr 0 0 0 1) (.int .i64 0) (.ptr 1 0 0 1) Ud Ud Ud (.int .i64 s) (.ptr 4 0 0 1) Ud Ud Ud Ud Ud (.sl 2 0 cs.length none cs.length 3) (.int .i64 (cs.length : Int)) (.int .i64 (i : Int)) Ud Ud) (boD ps cs es t) (.exit 2)
      (env50 (.imm .arg 1 (d.map encR)) (.agg (ps.map encI)) (.ptr 0 0 0 1) (.int .i64 0) (.ptr 1 0 0 1) Ud Ud Ud (.int .i64 (sumA (cs.drop i) s)) (.ptr 4 0 0 1) y13 Ud Ud Ud Ud (.sl 2 0 cs.length none cs.length 3) (.int .i64 (cs.length : Int)) (.int .i64 (cs.length : Int)) Ud Ud) (boD ps cs es ((cs.drop i).foldl dstep t)) := by
  have hn := hd.1
  intro k
  induction k with
  | zero =>
    intro i t s hi hb h1 h2
    have : i = cs.length := by omega
    subst this
    rw [List.drop_length]
    exact ⟨_, lpo (bo_i_1 (d.map encR) (ps.map encI) cs.length (cs.map encE) es.length (es.map encE) (t.map encI) s cs.length 0 0 0 (by omega))⟩
  | succ k ih =>
    intro i t s hi hb h1 h2
    have hdrop : cs.drop i = at_ cs i :: cs.drop (i + 1) := by
      rw [List.drop_eq_getElem_cons (by omega)]
      simp [at_, List.getD, List.getElem?_eq_getElem (show i < cs.length by omega)]
    have hmem : at_ cs i ∈ cs := by
      have : at_ cs i = cs[i] := by simp [at_, List.getD, List.getElem?_eq_getElem (show i < cs.length by omega)]
      rw [this]; exact List.getElem_mem _
    have hco := hc _ hmem
    obtain ⟨ec, ea, eb, hae, ha, hbb⟩ : ∃ (ec : Int) (ea eb : Nat), at_ cs i = mkQ ec ea eb ∧ ea < d.length ∧ eb < d.length := by
      obtain ⟨⟨h1, h2⟩, h3, h4⟩ := he _ hmem
      refine ⟨(at_ cs i).1, (at_ cs i).2.1.toNat, (at_ cs i).2.2.toNat, ?_, h2, h4⟩
      show at_ cs i = ((at_ cs i).1, _, _)
      rw [Int.toNat_of_nonneg h1, Int.toNat_of_nonneg h3]
    rw [hae] at hco
    simp only at hco
    rw [hdrop, hae]
    have hl := lde (H := boD ps cs es t) (b := 2) (k := i) (l := cs) rfl rfl (by omega)
    rw [hae] at hl
    have b1 := hb.2 ea (by omega)
    have hb1 : ∀ x, x < 11 → 0 ≤ (t.set ea (t.getD ea 0 + 1)).getD x 0 ∧ (t.set ea (t.getD ea 0 + 1)).getD x 0 ≤ 2 * (i : Int) + 1 := fun x hx => by
      rw [getDs _ _ _ _ (by rw [hb.1]; omega)]
      have := hb.2 x hx
      split <;> omega
    have b2 := hb1 eb (by omega)
    have hst := hb.step (e := mkQ ec ea eb) (by show ((ea : Int)).toNat < 11; omega) (by show ((eb : Int)).toNat < 11; omega)
    have w1 : IntKind.i64.wrap (t.getD ea 0 + 1) = t.getD ea 0 + 1 := wrap_id (by omega) (by omega)
    have w2 : IntKind.i64.wrap ((t.set ea (t.getD ea 0 + 1)).getD eb 0 + 1) = (t.set ea (t.getD ea 0 + 1)).getD eb 0 + 1 := wrap_id (by omega) (by omega)
    have w3 : IntKind.i64.wrap (s + ec) = s + ec := wrap_id (by omega) (by omega)
    have st1 := pst (H := boY ps cs es t (mkQ ec ea eb)) (b := 4) (i := ea) rfl hb.1 (by omega) (t.getD ea 0 + 1)
    have st2 := pst (H := boY ps cs es (t.set ea (t.getD ea 0 + 1)) (mkQ ec ea eb)) (b := 4) (i := eb) rfl (by simp [hb.1]) (by omega) ((t.set ea (t.getD ea 0 + 1)).getD eb 0 + 1)
    have sb := bo_i_0 (d.map encR) (ps.map encI) cs.length (cs.map encE) es.length (es.map encE) (t.map encI) s i ec ea eb (y6 := Ud) (y7 := Ud) (y9 := Ud) (y13 := Ud) (y15 := Ud) (y21 := Ud) (y22 := Ud) (y23 := Ud) (y64 := Ud) (y65 := Ud) (by omega) (ixe (by omega)) hl (px (H := []) (by omega)) (pl_at (H := boY ps cs es t (mkQ ec ea eb)) (b := 4) (ps := t) rfl hb.1 (by omega)) (px (H := []) (by omega)) (by rw [w1]; exact st1) (px (H := []) (by omega))
      (pl_at (H := boY ps cs es (t.set ea (t.getD ea 0 + 1)) (mkQ ec ea eb)) (b := 4) (ps := t.set ea (t.getD ea 0 + 1)) rfl (by simp [hb.1]) (by omega)) (px (H := []) (by omega)) (by rw [w2]; exact st2)
    rw [wrap_succ (by omega), w3] at sb
    obtain ⟨y13, r⟩ := ih (i + 1) (dstep t (mkQ ec ea eb)) (s + ec) (by omega) hst (by omega) (by omega)
    refine ⟨y13, lop sb (bogc2 (d := d) (ps := ps) (cs := cs) (es := es) (t := t) (u := dstep t (mkQ ec ea eb)) (e := mkQ ec ea eb) (m := cs.length) (i := i + 1) (s := s + ec)) r⟩
theorem bo_pr (hp : Small ps) {cs es : List Ed} {t : List Int} {y3 y41 y42 y43 : HV} : ∀ (k i : Nat) (s : Int), i + k = 11 → -10000000000000 - 2000000000 * (i : Int) ≤ s → s ≤ 10000000000000 + 2000000000 * (i : Int) →
    ∃ y15, RT polBo 50 (sub [1, 1, 1, 1, 1, 1, 1, 0, 1, 0] B50) (env50 (.imm .arg 1 (d.map encR)) (.agg (ps.map encI)) Ud (.int .i64 0) (.ptr 1 0 0 1) Ud Ud Ud (.int .i64 s) (.ptr 4 0 0 1) Ud Ud Ud Ud Ud Ud Ud Ud (.agg (ps.map encI)) (.int .i64 (i : Int))) (boD ps cs es t) (.exit 4)
      (env50 (.imm .arg 1 (d.map encR)) (.agg (ps.map encI)) Ud (.int .i64 0) (.ptr 1 0 0 1) Ud Ud Ud (.int .i64 (sumP (ps.drop i) s)) (.ptr 4 0 0 1) Ud y15 Ud Ud Ud Ud Ud Ud (.agg (ps.map encI)) (.int .i64 (11 : Int))) (boD ps cs es t) := by
  intro k
  induction k with
  | zero =>
    intro i s hi h1 h2
    have : i = 11 := by omega
    subst this
    rw [List.drop_of_length_le (by rw [hp.1]; omega)]
    exact ⟨_, lpo (bo_k_1 (d.map encR) (ps.map encI) cs.length (cs.map encE) es.length (es.map encE) (t.map encI) s 11 (by omega))⟩
  | succ k ih =>
    intro i s hi h1 h2
    have hl := hp.1
    have b := hp.at (i := i) (by omega)
    have hdrop : ps.drop i = ps.getD i 0 :: ps.drop (i + 1) := by
      rw [List.drop_eq_getElem_cons (by omega)]
      simp [List.getD, List.getElem?_eq_getElem (show i < ps.length by omega)]
    rw [hdrop]
    have w1 : IntKind.i64.wrap (2 * ps.getD i 0) = 2 * ps.getD i 0 := wrap_id (by omega) (by omega)
    have w2 : IntKind.i64.wrap (s - 2 * ps.getD i 0) = s - 2 * ps.getD i 0 := wrap_id (by omega) (by omega)
    have sb := bo_k_0 (d.map encR) (ps.map encI) cs.length (cs.map encE) es.length (es.map encE) (t.map encI) s i (y3 := Ud) (y6 := Ud) (y7 := Ud) (y9 := Ud) (y13 := Ud) (y15 := Ud) (y21 := Ud) (y22 := Ud) (y23 := Ud) (y41 := Ud) (y42 := Ud) (y43 := Ud) (by omega) (pel hl (by omega))
    rw [wrap_succ (by omega), w1, w2] at sb
    obtain ⟨y15, r⟩ := ih (i + 1) (s - 2 * ps.getD i 0) (by omega) (by omega) (by omega)
    exact ⟨y15, lop sb (gc_eq _ rfl) r⟩
end
theorem toRes_bd {H : Heap} {s : Int} {t : List Int} : toRes H false (.tuple [.int .i64 s, .agg (t.map encI)]) = some (.tuple [.int .i64 s, .agg (t.map encI)]) := by
  have hm : mapO (resCell H [] false) (t.map encI) = some (t.map encI) := mapO_self (f := resCell H [] false) (g := encI) (fun _ => rfl) t
  have ho : ownedAll H false (.tuple [.int .i64 s, .agg (t.map encI)]) = [] := by
    have h1 : ∀ l : List Int, (l.map encI).flatMap (owned H false) = [] := fun l => by
      rw [List.flatMap_eq_nil_iff]
      intro v hv
      obtain ⟨k, _, rfl⟩ := List.mem_map.1 hv
      rfl
    simp only [ownedAll, List.flatMap_cons, List.flatMap_nil, cellsOf, h1]
    rfl
  simp only [toRes, ho, List.nodup_nil, if_true, mapO, resVal, hm]
  rfl
theorem degs_ok {d : List (List Int)} (hd : okD d) : ∀ (l : List Ed) (t : List Int) (k : Nat), EIn d.length l → CtB t k → (l.foldl dstep t).length = 11
  | [], t, k, _, h => h.1
  | e :: l, t, k, he, h => by
    have hn := hd.1
    obtain ⟨⟨_, h2⟩, _, h4⟩ := he e (by simp)
    rw [List.foldl_cons]
    exact degs_ok hd l _ (k + 1) (fun x hx => he x (by simp [hx])) (h.step (by omega) (by omega))
theorem bound_ok : PrimOk Tp 50 bound50 := by
  refine primOk_pure (pol := polBo) (fn := Try.f50) (cd := B50) follows_mixed soundBo (by kernel_rfl) (by kernel_rfl) (fnok polBo.prim _ _ (by kernel_rfl)) (by kernel_rfl) ?_
  intro args res h
  unfold bound50 at h
  split at h
  · rename_i rw pv
    split at h
    · rename_i d ps hR hP
      rw [mapO_inv decR_inv hR, mapO_inv decI_inv hP]
      split at h
      · rename_i hc
        obtain ⟨hd, hp⟩ := hc
        cases h
        have hn := hd.1
        have s0 := bo_a_0 (d.map encR) (ps.map encI) (box_p hp.1)
        have s1 := bo_b_0 (d.map encR) (ps.map encI) (y6 := Ud) (y7 := Ud) (y9 := Ud) (y10 := Ud) (y11 := Ud) (y13 := Ud) (y15 := Ud) (y21 := Ud) (y22 := Ud) (y23 := Ud) (y41 := Ud) (y42 := Ud) (y43 := Ud) (y64 := Ud) (y65 := Ud) (pl_all (b := 0) rfl hp.1) (q61 (pol' := polBo) (f := 1) (by kernel_rfl) hd (by omega) hp _ (arg_rw _ d))
        have s2 := bo_c_0 (d.map encR) (ps.map encI) (treeL d ps 1).length ((treeL d ps 1).map encE) (y7 := Ud) (y9 := Ud) (y10 := Ud) (y11 := Ud) (y13 := Ud) (y15 := Ud) (y21 := Ud) (y22 := Ud) (y23 := Ud) (y41 := Ud) (y42 := Ud) (y43 := Ud) (y64 := Ud) (y65 := Ud)
        have s3 := bo_d_0 (d.map encR) (ps.map encI) (treeL d ps 1).length ((treeL d ps 1).map encE) (y9 := Ud) (y10 := Ud) (y11 := Ud) (y13 := Ud) (y15 := Ud) (y21 := Ud) (y22 := Ud) (y23 := Ud) (y41 := Ud) (y42 := Ud) (y43 := Ud) (y64 := Ud) (y65 := Ud) (pl_all (b := 0) rfl hp.1) (q70 (pol' := polBo) (f := 0) (by kernel_rfl) hd (by omega) hp _ (arg_rw _ d))
        have hel := edg_len (ps := ps) (f := 0) hd (by omega)
        have hcl := chosen_len (ps := ps) hd
        have htl : (treeL d ps 1).length ≤ 123 := by unfold chosen at hcl; rw [List.length_append] at hcl; omega
        obtain ⟨y7, y23, r1⟩ := bo_two (ps := ps) hd (edg_in (ps := ps) (f := 0) (by omega)) (by omega) (edg d ps 0).length 0 0 (treeL d ps 1) (by omega) (by omega) (by omega)
        rw [List.drop_zero, show treeL d ps 1 ++ two2 0 (edg d ps 0) = chosen d ps from rfl] at r1
        have s4 := bo_f_0 (d.map encR) (ps.map encI) (chosen d ps).length ((chosen d ps).map encE) (edg d ps 0).length ((edg d ps 0).map encE) (y9 := Ud) (y10 := Ud) (y11 := Ud) (y13 := Ud) (y15 := Ud) (y41 := Ud) (y42 := Ud) (y43 := Ud) (y64 := Ud) (y65 := Ud) (y7 := y7) (y21 := .sl 3 0 (edg d ps 0).length none (edg d ps 0).length 3) (y22 := .int .i64 ((edg d ps 0).length : Int)) (y23 := y23)
        have s5 := bo_g_0 (d.map encR) (ps.map encI) (chosen d ps).length ((chosen d ps).map encE) (edg d ps 0).length ((edg d ps 0).map encE) (y9 := Ud) (y11 := Ud) (y13 := Ud) (y15 := Ud) (y41 := Ud) (y42 := Ud) (y43 := Ud) (y64 := Ud) (y65 := Ud) (y7 := y7) (y21 := .sl 3 0 (edg d ps 0).length none (edg d ps 0).length 3) (y22 := .int .i64 ((edg d ps 0).length : Int)) (y23 := y23)
        have s6 := bo_h_0 (d.map encR) (ps.map encI) (chosen d ps).length ((chosen d ps).map encE) (edg d ps 0).length ((edg d ps 0).map encE) (Zs.map encI) (y9 := Ud) (y13 := Ud) (y15 := Ud) (y41 := Ud) (y42 := Ud) (y43 := Ud) (y64 := Ud) (y65 := Ud) (y7 := y7) (y21 := .sl 3 0 (edg d ps 0).length none (edg d ps 0).length 3) (y22 := .int .i64 ((edg d ps 0).length : Int)) (y23 := y23)
        obtain ⟨y13, r2⟩ := bo_sum (ps := ps) (es := edg d ps 0) hd (chosen_in (ps := ps) hd) (chosen_cost hd hp) (by omega) (chosen d ps).length 0 Zs 0 (by omega) CtB.zero (by omega) (by omega)
        rw [List.drop_zero] at r2
        have hsb : ∀ (l : List Ed) (s : Int) (k : Nat), costOk l → -3000000000 * (k : Int) ≤ s → s ≤ 3000000000 * (k : Int) → -3000000000 * ((k + l.length : Nat) : Int) ≤ sumA l s ∧ sumA l s ≤ 3000000000 * ((k + l.length : Nat) : Int) := by
          intro l
          induction l with
          | nil => intro s k _ h1 h2; exact ⟨by simpa [sumA] using h1, by simpa [sumA] using h2⟩
          | cons e l ih =>
            intro s k hc h1 h2
            have h3 := hc e (by simp)
            have := ih (s + e.1) (k + 1) (fun x hx => hc x (by simp [hx])) (by omega) (by omega)
            rw [List.length_cons, show k + (l.length + 1) = k + 1 + l.length by omega]
            exact this
        have hsum := hsb (chosen d ps) 0 0 (chosen_cost hd hp) (by omega) (by omega)
        have htl2 := degs_ok hd (chosen d ps) Zs 0 (chosen_in hd) CtB.zero
        have edg' : (chosen d ps).foldl dstep Zs = degs (chosen d ps) := rfl
        rw [edg'] at htl2 r2
        generalize hsA : sumA (chosen d ps) 0 = sA at hsum r2
        have s7 := bo_j_0 (d.map encR) (ps.map encI) (chosen d ps).length ((chosen d ps).map encE) (edg d ps 0).length ((edg d ps 0).map encE) ((degs (chosen d ps)).map encI) sA (y6 := Ud) (y7 := Ud) (y9 := Ud) (y15 := Ud) (y21 := Ud) (y22 := Ud) (y23 := Ud) (y64 := Ud) (y65 := Ud) (y13 := y13) (y41 := .sl 2 0 (chosen d ps).length none (chosen d ps).length 3) (y42 := .int .i64 ((chosen d ps).length : Int)) (y43 := .int .i64 ((chosen d ps).length : Int)) (pl_all (b := 0) rfl hp.1)
        obtain ⟨y15, r3⟩ := bo_pr (d := d) hp (cs := chosen d ps) (es := edg d ps 0) (t := degs (chosen d ps)) (y3 := Ud) (y41 := Ud) (y42 := Ud) (y43 := Ud) 11 0 sA rfl (by omega) (by omega)
        rw [List.drop_zero] at r3
        have eb : sumP ps sA = boundS d ps := by rw [← hsA]; rfl
        rw [eb] at r3
        have s8 := bo_l_0 (d.map encR) (ps.map encI) (chosen d ps).length ((chosen d ps).map encE) (edg d ps 0).length ((edg d ps 0).map encE) ((degs (chosen d ps)).map encI) (boundS d ps) (y3 := Ud) (y6 := Ud) (y7 := Ud) (y9 := Ud) (y13 := Ud) (y21 := Ud) (y22 := Ud) (y23 := Ud) (y41 := Ud) (y42 := Ud) (y43 := Ud) (y15 := y15) (y64 := .agg (ps.map encI)) (y65 := .int .i64 ((11 : Nat) : Int)) (pl_all (b := 4) (ps := degs (chosen d ps)) rfl htl2) (pst_all (H := boD ps (chosen d ps) (edg d ps 0) (degs (chosen d ps))) (b := 1) (t := Zs) rfl rfl htl2)
        have r1' := lpi (e0 := (env50 (.imm .arg 1 (d.map encR)) (.agg (ps.map encI)) (.ptr 0 0 0 1) (.int .i64 0) (.ptr 1 0 0 1) (.sl 2 0 (treeL d ps 1).length none (treeL d ps 1).length 3) (.int .i64 0) Ud Ud Ud Ud Ud (.sl 3 0 (edg d ps 0).length none (edg d ps 0).length 3) (.int .i64 ((edg d ps 0).length : Int)) (.int .i64 0) Ud Ud Ud Ud Ud)) r1 (b := sub [1, 1, 1, 0, 1, 0, 0] B50)
        have r2' := lpi (e0 := (env50 (.imm .arg 1 (d.map encR)) (.agg (ps.map encI)) (.ptr 0 0 0 1) (.int .i64 0) (.ptr 1 0 0 1) (.sl 2 0 (chosen d ps).length none (chosen d ps).length 3) y7 Ud (.int .i64 0) (.ptr 4 0 0 1) Ud Ud (.sl 3 0 (edg d ps 0).length none (edg d ps 0).length 3) (.int .i64 ((edg d ps 0).length : Int)) y23 (.sl 2 0 (chosen d ps).length none (chosen d ps).length 3) (.int .i64 ((chosen d ps).length : Int)) (.int .i64 0) Ud Ud)) r2 (b := sub [1, 1, 1, 1, 1, 1, 0, 1, 0, 0] B50)
        have r3' := lpi (e0 := (env50 (.imm .arg 1 (d.map encR)) (.agg (ps.map encI)) (.ptr 0 0 0 1) (.int .i64 0) (.ptr 1 0 0 1) Ud Ud Ud (.int .i64 sA) (.ptr 4 0 0 1) y13 Ud Ud Ud Ud (.sl 2 0 (chosen d ps).length none (chosen d ps).length 3) (.int .i64 ((chosen d ps).length : Int)) (.int .i64 ((chosen d ps).length : Int)) (.agg (ps.map encI)) (.int .i64 0))) r3 (b := sub [1, 1, 1, 1, 1, 1, 1, 0, 1, 0, 0] B50)
        have t := sq (s0) (sq (s1) (sq (s2) (sq (sq (s3) (bke (c := sub [1, 1, 1, 0, 1] B50) (r1')) (c := sub [1, 1, 1, 0] B50)) (sq (s4) (sq (s5) (sq (sq (s6) (bke (c := sub [1, 1, 1, 1, 1, 1, 0, 1] B50) (r2')) (c := sub [1, 1, 1, 1, 1, 1, 0] B50)) (sq (sq (s7) (bke (c := sub [1, 1, 1, 1, 1, 1, 1, 0, 1] B50) (r3')) (c := sub [1, 1, 1, 1, 1, 1, 1, 0] B50)) (s8) (c := sub [1, 1, 1, 1, 1, 1, 1] B50)) (c := sub [1, 1, 1, 1, 1, 1] B50)) (c := sub [1, 1, 1, 1, 1] B50)) (c := sub [1, 1, 1, 1] B50)) (c := sub [1, 1, 1] B50)) (c := sub [1, 1] B50)) (c := sub [1] B50)) (c := B50)
        refine ⟨_, _, _, .tuple [.int .i64 (boundS d ps), .agg ((degs (chosen d ps)).map encI)], t, by simp, ?_, toRes_bd⟩
        have hr := pl_all (H := [pB ps, pB (degs (chosen d ps)), bE encE (chosen d ps), bE encE (edg d ps 0), pB (degs (chosen d ps))]) (b := 1) rfl htl2
        have hr2 : loadV Tp [.arr 11 [.agg (ps.map encI)] true 0, .arr 11 [.agg ((degs (chosen d ps)).map encI)] true 0, .arr 3 ((chosen d ps).map encE) true 0, .arr 3 ((edg d ps 0).map encE) true 0, .arr 11 [.agg ((degs (chosen d ps)).map encI)] true 0] 66 (.ptr 1 0 0 1) = some (.agg ((degs (chosen d ps)).map encI)) := hr
        simp [resultsV, res50, mapO, resultV, env50, Env.get]
        rw [hr2]
      · cases h
    · cases h
  · cases h
end Go.Proofs.Ytlendaofkmhgmaa
end
section
open Go Go.HL Go.HL.So
namespace Go.Proofs.Ytlendaofkmhgmaa
def price48 : List HV → Option HV
  | [.int .i64 n] => some (.bool (!decide (-10000 ≤ n ∧ n ≤ 10000)))
  | _ => none
noncomputable def polPm : Pol := { pol with prim := fun g => if g == 46 then some miles46 else if g == 48 then some price48 else if g == 50 then some bound50 else none }
def pad (l : List Int) : List Int := l ++ List.replicate (11 - l.length) 0
def prOk (l : List Int) : Prop := ∀ v ∈ l, -10000 ≤ v ∧ v ≤ 10000
def bndT (d : List (List Int)) (l : List Int) : Int := if d.length < 3 then 2 * at2 d 0 (d.length - 1) else boundS d (pad l)
open Classical in
noncomputable def bound17 : List HV → Option HV := rlF fun R l => if (R.length ≤ 1000 ∧ (R.all fun r => decide (r.length ≤ 1000)) = true) ∧ l.length ≤ 1000 then some (if okD R ∧ l.length = R.length ∧ prOk l then .tuple [.int .i64 (bndT R l), .int .i64 0] else .tuple [.int .i64 0, .int .i64 2]) else none
theorem pad_len {l : List Int} (h : l.length ≤ 11) : (pad l).length = 11 := by simp [pad]; omega
theorem pad_small {l : List Int} (h : l.length ≤ 11) (hp : prOk l) : Small (pad l) := by
  refine ⟨pad_len h, fun x hx => ?_⟩
  rcases List.mem_append.1 hx with hx | hx
  · have := hp x hx; omega
  · have := (List.mem_replicate.1 hx).2; omega
end Go.Proofs.Ytlendaofkmhgmaa
end
section
open Go Go.HL
namespace Go.Proofs.Ytlendaofkmhgmaa
set_option maxRecDepth 100000
open Go.Proofs.Try renaming prog → Tp
open Go.HL.HV renaming undef → Ud
noncomputable def B48 : Code := Try.f48.body.getD .skip
abbrev env48 (v0 v2 : HV) : Env := [(0, v0), (2, v2)]
theorem pc48_0 (n : Int)(g0 : (-10000 : Int) ≤ n ∧ n ≤ (10000 : Int)) : RT polW 48 (sub [] B48) [(0, .i n)] [] .ret (env48 (.i n) (.bool false)) [] :=
  RunsTo.hin 0 60 [⟨1, 1, .bool true, []⟩] fun kf hk => ⟨_, by kernel_rfl, (oB [] (decide_eq_true g0) .nil)⟩
theorem pc48_1 (n : Int)(g0 : ¬ ((-10000 : Int) ≤ n ∧ n ≤ (10000 : Int))) : RT polW 48 (sub [] B48) [(0, .i n)] [] .ret (env48 (.i n) (.bool true)) [] :=
  RunsTo.hin 0 60 [⟨1, 1, .bool false, []⟩] fun kf hk => ⟨_, by kernel_rfl, (oB [] (decide_eq_false g0) .nil)⟩
theorem jp_a_0 (la : List HV) (H : Heap) : RT polPm 69 (sub [0] B69) [(0, .imm .arg 1 la), (1, .func 48 [] [])] H .normal (env69 (.imm .arg 1 la) (.func 48 [] []) (.i 0) Ud Ud Ud) H :=
  RunsTo.hin 0 60 [] fun kf hk => ⟨_, by kernel_rfl, .nil⟩
theorem jp_b_0 (la : List HV) (H : Heap) : RT polPm 69 (sub [1, 0, 0] B69) (env69 (.imm .arg 1 la) (.func 48 [] []) (.i 0) Ud Ud Ud) H .normal (env69 (.imm .arg 1 la) (.func 48 [] []) (.i 0) Ud (.i (la.length : Int)) (.i 0)) H :=
  RunsTo.hin 0 60 [] fun kf hk => ⟨_, by kernel_rfl, .nil⟩
theorem jp_l_0 (la : List HV) (H : Heap) (j : Nat) (x0 : Int) (H0 : Heap) (g0 : (j : Int) < (la.length : Int)) (g1 : idxV Tp 23 (.imm .arg 1 la) (.i (j : Int)) = some (.vptr (.i x0))) (g2 : ∀ kf, callN Tp polPm (kf + 1) 48 [.i x0] H = some (.bool true, H0)) : RT polPm 69 (sub [1, 0, 1, 0, 0] B69) (env69 (.imm .arg 1 la) (.func 48 [] []) (.i 0) Ud (.i (la.length : Int)) (.i (j : Int))) H .ret (env69 (.imm .arg 1 la) (.func 48 [] []) (.i (j : Int)) (.i (j : Int)) (.i (la.length : Int)) (.i (j : Int))) H0 :=
  RunsTo.hin 0 60 [⟨2, 0, .bool true, H⟩, ⟨4, 3, .vptr (.i x0), H⟩, ⟨4, 5, .bool true, H0⟩] fun kf hk => ⟨_, by kernel_rfl, (oB H (decide_eq_true g0) (oP H g1 (oC (g2 kf) .nil)))⟩
theorem jp_l_1 (la : List HV) (H : Heap) (j : Nat) (x0 : Int) (H0 : Heap) (g0 : (j : Int) < (la.length : Int)) (g1 : idxV Tp 23 (.imm .arg 1 la) (.i (j : Int)) = some (.vptr (.i x0))) (g2 : ∀ kf, callN Tp polPm (kf + 1) 48 [.i x0] H = some (.bool false, H0)) : RT polPm 69 (sub [1, 0, 1, 0, 0] B69) (env69 (.imm .arg 1 la) (.func 48 [] []) (.i 0) Ud (.i (la.length : Int)) (.i (j : Int))) H .normal (env69 (.imm .arg 1 la) (.func 48 [] []) (.i 0) (.i (j : Int)) (.i (la.length : Int)) (.i (IntKind.i64.wrap ((j : Int) + 1)))) H0 :=
  RunsTo.hin 0 60 [⟨2, 0, .bool true, H⟩, ⟨4, 3, .vptr (.i x0), H⟩, ⟨4, 5, .bool false, H0⟩] fun kf hk => ⟨_, by kernel_rfl, (oB H (decide_eq_true g0) (oP H g1 (oC (g2 kf) .nil)))⟩
theorem jp_l_2 (la : List HV) (H : Heap) (j : Nat)(g0 : ¬ ((j : Int) < (la.length : Int))) : RT polPm 69 (sub [1, 0, 1, 0, 0] B69) (env69 (.imm .arg 1 la) (.func 48 [] []) (.i 0) Ud (.i (la.length : Int)) (.i (j : Int))) H (.exit 0) (env69 (.imm .arg 1 la) (.func 48 [] []) (.i 0) Ud (.i (la.length : Int)) (.i (j : Int))) H :=
  RunsTo.hin 0 60 [⟨2, 0, .bool false, H⟩] fun kf hk => ⟨_, by kernel_rfl, (oB H (decide_eq_false g0) .nil)⟩
theorem jp_z_0 (la : List HV) (H : Heap) (j : Nat) : RT polPm 69 (sub [1, 1] B69) (env69 (.imm .arg 1 la) (.func 48 [] []) (.i 0) Ud (.i (la.length : Int)) (.i (j : Int))) H .ret (env69 (.imm .arg 1 la) (.func 48 [] []) (.i (-1)) Ud (.i (la.length : Int)) (.i (j : Int))) H :=
  RunsTo.hin 0 60 [] fun kf hk => ⟨_, by kernel_rfl, .nil⟩
theorem cp_0 (N : Nat) (la : List HV) (H : Heap) (r : Int) (H0 : Heap) (g0 : ∀ kf, N ≤ kf → callN Tp polPm (kf + 1) 69 [.imm .arg 1 la, .func 48 [] []] H = some (.i r, H0)) (g1 : 0 ≤ r) : RT polPm 47 (sub [] B47) [(0, .imm .arg 1 la), (1, .func 48 [] [])] H .ret (env47 (.imm .arg 1 la) (.func 48 [] []) (.bool true)) H0 :=
  RunsTo.hin N 60 [⟨1, 2, .i r, H0⟩, ⟨1, 3, .bool true, H0⟩] fun kf hk => ⟨_, by kernel_rfl, (oC (g0 kf (by omega)) (oB H0 (decide_eq_true g1) .nil))⟩
theorem cp_1 (N : Nat) (la : List HV) (H : Heap) (r : Int) (H0 : Heap) (g0 : ∀ kf, N ≤ kf → callN Tp polPm (kf + 1) 69 [.imm .arg 1 la, .func 48 [] []] H = some (.i r, H0)) (g1 : ¬ (0 ≤ r)) : RT polPm 47 (sub [] B47) [(0, .imm .arg 1 la), (1, .func 48 [] [])] H .ret (env47 (.imm .arg 1 la) (.func 48 [] []) (.bool false)) H0 :=
  RunsTo.hin N 60 [⟨1, 2, .i r, H0⟩, ⟨1, 3, .bool false, H0⟩] fun kf hk => ⟨_, by kernel_rfl, (oC (g0 kf (by omega)) (oB H0 (decide_eq_false g1) .nil))⟩
noncomputable def B17 : Code := Try.f17.body.getD .skip
abbrev env17 (v0 v1 v4 v5 v6 v7 : HV) : Env := [(0, v0), (1, v1), (4, v4), (5, v5), (6, v6), (7, v7)]
theorem bd_a_0 (N : Nat) (rw la : List HV)  : RT polPm 17 (sub [0] B17) [(0, .imm .arg 1 rw), (1, .imm .arg 1 la)] [] .normal (env17 (.imm .arg 1 rw) (.imm .arg 1 la) (.i 0) (.i 0) Ud Ud) [] :=
  RunsTo.hin N 60 [] fun kf hk => ⟨_, by kernel_rfl, .nil⟩
theorem bd_b_0 (N : Nat) (rw la : List HV)  {y6 y7 : HV} {H0 : Heap} (g0 : ∀ kf, callN Tp polPm (kf + 1) 46 [.imm .arg 1 rw] [] = some (.bool true, [])) (g1 : (la.length : Int) = (rw.length : Int)) (g2 : ∀ kf, N ≤ kf → callN Tp polPm (kf + 1) 47 [.imm .arg 1 la, .func 48 [] []] [] = some (.bool true, H0)) : RT polPm 17 (sub [1, 0] B17) (env17 (.imm .arg 1 rw) (.imm .arg 1 la) (.i 0) (.i 0) y6 y7) [] .ret (env17 (.imm .arg 1 rw) (.imm .arg 1 la) (.i 0) (.i 2) y6 y7) H0 :=
  RunsTo.hin N 60 [⟨1, 1, .bool true, []⟩, ⟨1, 8, .bool false, []⟩, ⟨1, 12, .bool true, H0⟩] fun kf hk => ⟨_, by kernel_rfl, (oC (g0 kf) (oB [] (congrArg not (decide_eq_true g1)) (oC (g2 kf (by omega)) .nil)))⟩
theorem bd_b_1 (N : Nat) (rw la : List HV)  {y6 y7 : HV} {H0 : Heap} (g0 : ∀ kf, callN Tp polPm (kf + 1) 46 [.imm .arg 1 rw] [] = some (.bool true, [])) (g1 : (la.length : Int) = (rw.length : Int)) (g2 : ∀ kf, N ≤ kf → callN Tp polPm (kf + 1) 47 [.imm .arg 1 la, .func 48 [] []] [] = some (.bool false, H0)) : RT polPm 17 (sub [1, 0] B17) (env17 (.imm .arg 1 rw) (.imm .arg 1 la) (.i 0) (.i 0) y6 y7) [] .normal (env17 (.imm .arg 1 rw) (.imm .arg 1 la) (.i 0) (.i 0) y6 y7) H0 :=
  RunsTo.hin N 60 [⟨1, 1, .bool true, []⟩, ⟨1, 8, .bool false, []⟩, ⟨1, 12, .bool false, H0⟩] fun kf hk => ⟨_, by kernel_rfl, (oC (g0 kf) (oB [] (congrArg not (decide_eq_true g1)) (oC (g2 kf (by omega)) .nil)))⟩
theorem bd_b_2 (N : Nat) (rw la : List HV)  {y6 y7 : HV}(g0 : ∀ kf, callN Tp polPm (kf + 1) 46 [.imm .arg 1 rw] [] = some (.bool true, [])) (g1 : ¬ ((la.length : Int) = (rw.length : Int))) : RT polPm 17 (sub [1, 0] B17) (env17 (.imm .arg 1 rw) (.imm .arg 1 la) (.i 0) (.i 0) y6 y7) [] .ret (env17 (.imm .arg 1 rw) (.imm .arg 1 la) (.i 0) (.i 2) y6 y7) [] :=
  RunsTo.hin N 60 [⟨1, 1, .bool true, []⟩, ⟨1, 8, .bool true, []⟩] fun kf hk => ⟨_, by kernel_rfl, (oC (g0 kf) (oB [] (congrArg not (decide_eq_false g1)) .nil))⟩
theorem bd_b_3 (N : Nat) (rw la : List HV)  {y6 y7 : HV}(g0 : ∀ kf, callN Tp polPm (kf + 1) 46 [.imm .arg 1 rw] [] = some (.bool false, [])) : RT polPm 17 (sub [1, 0] B17) (env17 (.imm .arg 1 rw) (.imm .arg 1 la) (.i 0) (.i 0) y6 y7) [] .ret (env17 (.imm .arg 1 rw) (.imm .arg 1 la) (.i 0) (.i 2) y6 y7) [] :=
  RunsTo.hin N 60 [⟨1, 1, .bool false, []⟩] fun kf hk => ⟨_, by kernel_rfl, (oC (g0 kf) .nil)⟩
theorem bd_c_0 (N : Nat) (rw la : List HV)  {y6 y7 : HV} {l0 : List HV} {x0 : Int} (g0 : (rw.length : Int) < 3) (g1 : idxV Tp 22 (.imm .arg 1 rw) (.i 0) = some (.vptr (.imm .arg 1 l0))) (g2 : idxV Tp 23 (.imm .arg 1 l0) (.i (IntKind.i64.wrap ((rw.length : Int) - 1))) = some (.vptr (.i x0))) : RT polPm 17 (sub [1, 1, 0] B17) (env17 (.imm .arg 1 rw) (.imm .arg 1 la) (.i 0) (.i 0) y6 y7) [] .ret (env17 (.imm .arg 1 rw) (.imm .arg 1 la) (.i (IntKind.i64.wrap (2 * x0))) (.i 0) y6 y7) [] :=
  RunsTo.hin N 60 [⟨3, 2, .bool true, []⟩, ⟨4, 1, .vptr (.imm .arg 1 l0), []⟩, ⟨4, 6, .vptr (.i x0), []⟩] fun kf hk => ⟨_, by kernel_rfl, (oB [] (decide_eq_true g0) (oP [] g1 (oP [] g2 .nil)))⟩
theorem bd_c_1 (N : Nat) (rw la : List HV)  {y6 y7 : HV}(g0 : ¬ ((rw.length : Int) < 3)) : RT polPm 17 (sub [1, 1, 0] B17) (env17 (.imm .arg 1 rw) (.imm .arg 1 la) (.i 0) (.i 0) y6 y7) [] .normal (env17 (.imm .arg 1 rw) (.imm .arg 1 la) (.i 0) (.i 0) y6 y7) [] :=
  RunsTo.hin N 60 [⟨3, 2, .bool false, []⟩] fun kf hk => ⟨_, by kernel_rfl, (oB [] (decide_eq_false g0) .nil)⟩
theorem bd_d_0 (N : Nat) (rw la : List HV)  {y6 y7 : HV} : RT polPm 17 (sub [1, 1, 1, 0] B17) (env17 (.imm .arg 1 rw) (.imm .arg 1 la) (.i 0) (.i 0) y6 y7) [] .normal (env17 (.imm .arg 1 rw) (.imm .arg 1 la) (.i 0) (.i 0) (.ptr 0 0 0 1) y7) [.arr 11 [.agg [.i 0, .i 0, .i 0, .i 0, .i 0, .i 0, .i 0, .i 0, .i 0, .i 0, .i 0]] true 0] :=
  RunsTo.hin N 60 [] fun kf hk => ⟨_, by kernel_rfl, .nil⟩
theorem bd_e_0 (N : Nat) (rw la : List HV)  {y7 : HV} {pp0 : List HV} {n0 : Int} (g0 : builtinV Tp .copy [23, 23] [.aview 0 0 0 11, .imm .arg 1 la] [.arr 11 [.agg [.i 0, .i 0, .i 0, .i 0, .i 0, .i 0, .i 0, .i 0, .i 0, .i 0, .i 0]] true 0] = some (.i n0, [.arr 11 [.agg pp0] true 0])) : RT polPm 17 (sub [1, 1, 1, 1, 0] B17) (env17 (.imm .arg 1 rw) (.imm .arg 1 la) (.i 0) (.i 0) (.ptr 0 0 0 1) y7) [.arr 11 [.agg [.i 0, .i 0, .i 0, .i 0, .i 0, .i 0, .i 0, .i 0, .i 0, .i 0, .i 0]] true 0] .normal (env17 (.imm .arg 1 rw) (.imm .arg 1 la) (.i 0) (.i 0) (.ptr 0 0 0 1) y7) [.arr 11 [.agg pp0] true 0] :=
  RunsTo.hin N 60 [⟨6, 2, .i n0, [.arr 11 [.agg pp0] true 0]⟩] fun kf hk => ⟨_, by kernel_rfl, (oC (g0) .nil)⟩
theorem bd_f_0 (N : Nat) (rw la : List HV) (pp : List HV) {y7 : HV} {sm : Int} {aa : List HV} (g0 : loadV Tp [.arr 11 [.agg pp] true 0] 66 (.ptr 0 0 0 1) = some (.agg pp)) (g1 : ∀ kf, callN Tp polPm (kf + 1) 50 [.imm .arg 1 rw, .agg pp] [.arr 11 [.agg pp] true 0] = some (.tuple [.i sm, .agg aa], [.arr 11 [.agg pp] true 0])) (g2 : storeV Tp [.arr 11 [.agg pp] true 0, .arr 11 [.agg [.i 0, .i 0, .i 0, .i 0, .i 0, .i 0, .i 0, .i 0, .i 0, .i 0, .i 0]] true 0] 66 (.ptr 1 0 0 1) (.agg aa) = some [.arr 11 [.agg pp] true 0, .arr 11 [.agg aa] true 0]) : RT polPm 17 (sub [1, 1, 1, 1, 1] B17) (env17 (.imm .arg 1 rw) (.imm .arg 1 la) (.i 0) (.i 0) (.ptr 0 0 0 1) y7) [.arr 11 [.agg pp] true 0] .ret (env17 (.imm .arg 1 rw) (.imm .arg 1 la) (.i sm) (.i 0) (.ptr 0 0 0 1) (.i sm)) [.arr 11 [.agg pp] true 0, .arr 11 [.agg aa] true 0] :=
  RunsTo.hin N 60 [⟨7, 1, .agg pp, [.arr 11 [.agg pp] true 0]⟩, ⟨7, 2, .tuple [.i sm, .agg aa], [.arr 11 [.agg pp] true 0]⟩, ⟨7, 8, .tuple [], [.arr 11 [.agg pp] true 0, .arr 11 [.agg aa] true 0]⟩] fun kf hk => ⟨_, by kernel_rfl, (oP [.arr 11 [.agg pp] true 0] g0 (oC (g1 kf) (oS g2 .nil)))⟩
end Go.Proofs.Ytlendaofkmhgmaa
end
section
open Go Go.HL Go.HL.So
namespace Go.Proofs.Ytlendaofkmhgmaa
open Go.Proofs.Try renaming prog → Tp
open Go.HL.HV renaming undef → Ud
theorem res48 : Try.f48.results.toList = [.tmp 2] := by kernel_rfl
theorem res17 : Try.f17.results.toList = [.tmp 4, .tmp 5] := by kernel_rfl
theorem price_ok : PrimOk Tp 48 price48 := by
  refine primOk_pure (pol := polW) (fn := Try.f48) (cd := B48) follows_mixed soundW (by kernel_rfl) (by kernel_rfl) (fnok polW.prim _ _ (by kernel_rfl)) (by kernel_rfl) ?_
  intro args res h
  unfold price48 at h
  split at h
  · rename_i n
    cases h
    by_cases g : (-10000 : Int) ≤ n ∧ n ≤ 10000
    · exact ⟨_, _, _, .bool false, pc48_0 n g, by simp, by simp only [resultsV, res48]; rfl, by rw [decide_eq_true g]; rfl⟩
    · exact ⟨_, _, _, .bool true, pc48_1 n g, by simp, by simp only [resultsV, res48]; rfl, by rw [decide_eq_false g]; rfl⟩
  · cases h
theorem soundPm (n : Nat) : CallSound Tp (callN Tp polPm n) := sound_prim _ (fun g f h => by
  split at h
  · rename_i hg; cases h; rw [eq_of_beq hg]; exact miles_ok
  split at h
  · rename_i hg; cases h; rw [eq_of_beq hg]; exact price_ok
  split at h
  · rename_i hg; cases h; rw [eq_of_beq hg]; exact bound_ok
  · cases h) n
abbrev jpE (l : List Int) (j : Nat) : Env := env69 (.imm .arg 1 (l.map encI)) (.func 48 [] []) (.int .i64 0) Ud (.int .i64 (l.length : Int)) (.int .i64 (j : Int))
def pk (v : Int) : Prop := -10000 ≤ v ∧ v ≤ 10000
theorem prim_price (n : Int) (H : Heap) (b : Bool) (hb : (!decide (-10000 ≤ n ∧ n ≤ 10000)) = b) : ∀ k, callN Tp polPm (k + 1) 48 [.int .i64 n] H = some (.bool b, H) := fun k => by
  rw [prim_call (pol := polPm) (g := 48) (F := price48) (by kernel_rfl) (rs := [.int .i64 n]) rfl (res := .bool b) (by rw [← hb]; rfl)]; rfl
theorem jp_loop (l : List Int) (H : Heap) (hl : l.length ≤ 1000) : ∀ (d j : Nat), j + d = l.length →
    ∃ x E r, RT polPm 69 (sub [1, 0, 1, 0] B69) (jpE l j) H x E H ∧
      (((∀ v, v ∈ l.drop j → pk v) ∧ x = .exit 0 ∧ E = jpE l l.length) ∨ (x = .ret ∧ E.get 4 = .int .i64 r ∧ 0 ≤ r ∧ ¬ ∀ v, v ∈ l.drop j → pk v)) := by
  intro d
  induction d with
  | zero =>
    intro j hj
    have hj : j = l.length := by omega
    subst hj
    have s1 := jp_l_2 (l.map encI) H l.length (by simp)
    rw [List.length_map] at s1
    exact ⟨_, _, 0, lpo s1, .inl ⟨by simp, rfl, rfl⟩⟩
  | succ d ih =>
    intro j hj
    have hjl : j < l.length := by omega
    have g1 := gx hjl
    rw [getD_at hjl] at g1
    rw [List.drop_eq_getElem_cons hjl]
    by_cases he : -10000 ≤ l[j] ∧ l[j] ≤ 10000
    · obtain ⟨x, E, r, h1, h2⟩ := ih (j + 1) (by omega)
      have s1 := jp_l_1 (l.map encI) H j _ H (by simp; omega) g1 (prim_price _ H false (by rw [decide_eq_true he]; rfl))
      rw [wrap_succ (by omega), List.length_map] at s1
      refine ⟨x, E, r, lop s1 (gc_eq _ rfl) h1, ?_⟩
      rcases h2 with ⟨k1, k2, k3⟩ | ⟨k1, k2, k3, k4⟩
      · exact .inl ⟨fun v hv => by
          rcases List.mem_cons.1 hv with rfl | hv
          · exact he
          · exact k1 v hv, k2, k3⟩
      · exact .inr ⟨k1, k2, k3, fun h => k4 fun v hv => h v (List.mem_cons_of_mem _ hv)⟩
    · have s1 := jp_l_0 (l.map encI) H j _ H (by simp; omega) g1 (prim_price _ H true (by rw [decide_eq_false he]; rfl))
      rw [List.length_map] at s1
      exact ⟨_, _, (j : Int), lpo s1, .inr ⟨rfl, rfl, by omega, fun h => he (h _ List.mem_cons_self)⟩⟩
theorem jp_call (l : List Int) (H : Heap) (hl : l.length ≤ 1000) : ∃ r, CallsTo (P := Tp) (pol := polPm) 69 [.imm .arg 1 (l.map encI), .func 48 [] []] H (.int .i64 r) H ∧ (0 ≤ r ↔ ¬ ∀ v, v ∈ l → pk v) := by
  have a1 := jp_a_0 (l.map encI) H
  have b1 := jp_b_0 (l.map encI) H
  rw [List.length_map] at b1
  obtain ⟨x, E, r, h1, h2⟩ := jp_loop l H hl l.length 0 (by omega)
  rw [List.drop_zero] at h2
  rcases h2 with ⟨k1, rfl, rfl⟩ | ⟨rfl, k2, k3, k4⟩
  · have t1 := sq b1 (bke (c := sub [1, 0, 1] B69) h1) (c := sub [1, 0] B69)
    have z1 := jp_z_0 (l.map encI) H l.length
    rw [List.length_map] at z1
    have t2 := sq a1 (sq t1 z1 (c := sub [1] B69)) (c := B69)
    have := CallsTo.shared (P := Tp) (pol := polPm) (g := 69) (fn := Try.f69) (cd := B69) (args := [.imm .arg 1 (l.map encI), .func 48 [] []]) (v := .int .i64 (-1)) (by kernel_rfl) (by kernel_rfl) (by kernel_rfl) (by kernel_rfl) t2 (by kernel_rfl) (by simp) (by simp only [resultsV, res69]; rfl)
    rw [gc_eq _ rfl] at this
    exact ⟨-1, this, fun h => absurd h (by omega), fun h => absurd k1 h⟩
  · have t1 := sq b1 (RunsTo.block_ret (c := sub [1, 0, 1] B69) (i := 0) h1 (by kernel_rfl)) (c := sub [1, 0] B69)
    have t2 := sq a1 (sqo t1 (c := sub [1] B69) (b := sub [1, 1] B69)) (c := B69)
    have := CallsTo.shared (P := Tp) (pol := polPm) (g := 69) (fn := Try.f69) (cd := B69) (args := [.imm .arg 1 (l.map encI), .func 48 [] []]) (v := .int .i64 r) (by kernel_rfl) (by kernel_rfl) (by kernel_rfl) (by kernel_rfl) t2 (by kernel_rfl) (by simp) (by simp only [resultsV, res69, mapO, resultV, k2])
    rw [gc_eq _ rfl] at this
    exact ⟨r, this, by simp only [k3, true_iff]; exact k4⟩
open Classical in
theorem cp_call (l : List Int) (H : Heap) (hl : l.length ≤ 1000) : CallsTo (P := Tp) (pol := polPm) 47 [.imm .arg 1 (l.map encI), .func 48 [] []] H (.bool (decide (¬ ∀ v, v ∈ l → pk v))) H := by
  obtain ⟨r, hc, hr⟩ := jp_call l H hl
  obtain ⟨N, hN⟩ := CallsTo.from hc
  by_cases h0 : 0 ≤ r
  · rw [decide_eq_true (hr.1 h0)]
    have := CallsTo.shared (P := Tp) (pol := polPm) (g := 47) (fn := Try.f47) (cd := B47) (args := [.imm .arg 1 (l.map encI), .func 48 [] []]) (v := .bool true) (by kernel_rfl) (by kernel_rfl) (by kernel_rfl) (by kernel_rfl) (cp_0 N (l.map encI) H r H hN h0) (by kernel_rfl) (by simp) (by simp only [resultsV, res47]; rfl)
    rw [gc_eq _ rfl] at this
    exact this
  · rw [decide_eq_false (fun h => h0 (hr.2 h))]
    have := CallsTo.shared (P := Tp) (pol := polPm) (g := 47) (fn := Try.f47) (cd := B47) (args := [.imm .arg 1 (l.map encI), .func 48 [] []]) (v := .bool false) (by kernel_rfl) (by kernel_rfl) (by kernel_rfl) (by kernel_rfl) (cp_1 N (l.map encI) H r H hN h0) (by kernel_rfl) (by simp) (by simp only [resultsV, res47]; rfl)
    rw [gc_eq _ rfl] at this
    exact this
theorem q50 {pol' : Pol} (hp : pol'.prim 50 = some bound50) {d : List (List Int)} {ps : List Int} {v : HV} (hd : okD d) (hs : Small ps) (H : Heap) (hv : toArg H 6 v = some (.imm .arg 1 (d.map encR))) :
    ∀ kf, callN Tp pol' (kf + 1) 50 [v, .agg (ps.map encI)] H = some (.tuple [.int .i64 (boundS d ps), .agg ((degs (chosen d ps)).map encI)], H) := fun kf => by
  rw [prim_call (pol := pol') (g := 50) (F := bound50) hp (rs := [.imm .arg 1 (d.map encR), .agg (ps.map encI)]) (by simp only [mapO, hv, arg_agg]) (res := .tuple [.int .i64 (boundS d ps), .agg ((degs (chosen d ps)).map encI)]) (by simp only [bound50, mapO_map decR_enc, mapO_map decI_enc]; rw [if_pos ⟨hd, hs⟩])]
  have hc : ∀ (l : List Int) (H : Heap), recvCells (l.map encI) H = (l.map encI, H) := fun l => by
    induction l with
    | nil => intro H; rfl
    | cons x l ih => intro H; simp only [List.map_cons, recvCells, ih, encI, recvCell]
  simp only [recv, recvVals, recvVal, hc, recvCell]
set_option maxRecDepth 100000 in
theorem copy_ok {l : List Int} (hl : l.length ≤ 11) : builtinV Tp .copy [23, 23] [.aview 0 0 0 11, .imm .arg 1 (l.map encI)] [pB (List.replicate 11 0)] = some (.int .i64 (l.length : Int), [pB (pad l)]) := by
  have hs : splice ((List.replicate 11 (0 : Int)).map encI) 0 ((l.map encI).take 11) = (pad l).map encI := by
    rw [List.take_of_length_le (by simpa using hl)]
    unfold splice pad
    simp only [List.take_zero, List.nil_append, Nat.zero_add, List.length_map, List.map_append, ← List.map_drop, List.drop_replicate]
  have hall : (l.map encI).all cellV = true := by simp [encI, cellV]
  have e : copyV [pB (List.replicate 11 0)] (.aview 0 0 0 11) (.imm .arg 1 (l.map encI)) = some (.int .i64 (l.length : Int), [pB (pad l)]) := by
    show (if (1 : Nat) = 1 then (if ([HV.agg ((List.replicate 11 (0 : Int)).map encI)].length = 1 ∧ 0 + 11 ≤ ((List.replicate 11 (0 : Int)).map encI).length ∧ bndL (l.map encI) = 0 ∧ (l.map encI).all cellV = true) then some (HV.int .i64 ((min (l.map encI).length 11 : Nat) : Int), [Blk.arr 11 [.agg (splice ((List.replicate 11 (0 : Int)).map encI) 0 ((l.map encI).take 11))] true 0]) else none) else none) = _
    rw [if_pos rfl, if_pos ⟨rfl, by simp, ints_bnd l, hall⟩, hs]
    simp only [List.length_map, Nat.min_eq_left hl]
  show (match Tp.underlying 23 with | some (.slice e) => (match srcOf [pB (List.replicate 11 0)] (.imm .arg 1 (l.map encI)) with | some (_, k) => if tySize Tp e = some k then copyV [pB (List.replicate 11 0)] (.aview 0 0 0 11) (.imm .arg 1 (l.map encI)) else none | none => none) | _ => none) = _
  rw [u23]
  show (if tySize Tp 3 = some 1 then copyV [pB (List.replicate 11 0)] (.aview 0 0 0 11) (.imm .arg 1 (l.map encI)) else none) = _
  rw [if_pos z3, e]
open Classical in
theorem Bound_ok : PrimOk Tp 17 bound17 := by
  refine primOk_pure (pol := polPm) (fn := Try.f17) (cd := B17) follows_mixed soundPm (by kernel_rfl) (by kernel_rfl) (fnok polPm.prim _ _ (by kernel_rfl)) (by kernel_rfl) ?_
  intro args res h
  obtain ⟨d, l, rfl, hq⟩ := rlF_inv h
  clear h
  split at hq
  · rename_i hc
    obtain ⟨hc, hl⟩ := hc
    cases hq
    have a := bd_a_0 0 (d.map encR) (l.map encI)
    have bad : ∀ (E : Env) (Hd : Heap), RT polPm 17 (sub [1, 0] B17) (env17 (.imm .arg 1 (d.map encR)) (.imm .arg 1 (l.map encI)) (.int .i64 0) (.int .i64 0) Ud Ud) [] .ret E Hd → E.get 4 = .int .i64 0 → E.get 5 = .int .i64 2 → ¬ (okD d ∧ l.length = d.length ∧ prOk l) →
        ∃ x E H' v, RT polPm 17 B17 (args0 [.imm .arg 1 (d.map encR), .imm .arg 1 (l.map encI)]) [] x E H' ∧ (∀ i, x ≠ .exit i) ∧ resultsV Tp Try.f17 E H' = some v ∧ toRes H' (polPm.deep 17) v = some (if okD d ∧ l.length = d.length ∧ prOk l then .tuple [.int .i64 (bndT d l), .int .i64 0] else .tuple [.int .i64 0, .int .i64 2]) := by
      intro E Hd t h4 h5 hn
      rw [if_neg hn]
      exact ⟨_, _, _, .tuple [.int .i64 0, .int .i64 2], sq a (sqo t (c := sub [1] B17) (b := sub [1, 1] B17)) (c := B17), by simp, by simp only [resultsV, res17, mapO, resultV, h4, h5], rfl⟩
    by_cases c1 : okD d
    · have hn := c1.1
      have m1 := prim_miles (pol' := polPm) (by kernel_rfl) hc.1 hc.2 [] true (okB_true c1)
      by_cases c2 : l.length = d.length
      · obtain ⟨N, hN⟩ := CallsTo.from (cp_call l [] hl)
        by_cases c3 : prOk l
        · rw [decide_eq_false (fun h => h c3)] at hN
          rw [if_pos ⟨c1, c2, c3⟩]
          have b := bd_b_1 N (d.map encR) (l.map encI) (y6 := Ud) (y7 := Ud) m1 (by simp only [List.length_map]; omega) hN
          by_cases c4 : d.length < 3
          · have e1 : IntKind.i64.wrap (((d.map encR).length : Int) - 1) = ((d.length - 1 : Nat) : Int) := by rw [List.length_map, wrap_pred (by omega) (by omega)]
            have b1 := c1.at (i := 0) (j := d.length - 1) (by omega) (by omega)
            have c := bd_c_0 0 (d.map encR) (l.map encI) (y6 := Ud) (y7 := Ud) (by rw [List.length_map]; omega) (g22' (d := d) (v := 0) (by omega)) (by rw [e1]; exact g23' c1 (by omega) (by omega))
            rw [wrap_id (by omega) (by omega)] at c
            have t := sq a (sq b (sqo c (c := sub [1, 1] B17) (b := sub [1, 1, 1] B17)) (c := sub [1] B17)) (c := B17)
            have e : bndT d l = 2 * at2 d 0 (d.length - 1) := if_pos c4
            rw [e]
            exact ⟨_, _, _, .tuple [.int .i64 (2 * at2 d 0 (d.length - 1)), .int .i64 0], t, by simp, by simp only [resultsV, res17]; rfl, rfl⟩
          · have c := bd_c_1 0 (d.map encR) (l.map encI) (y6 := Ud) (y7 := Ud) (by rw [List.length_map]; omega)
            have dd := bd_d_0 0 (d.map encR) (l.map encI) (y6 := Ud) (y7 := Ud)
            have e' := bd_e_0 0 (d.map encR) (l.map encI) (y7 := Ud) (copy_ok (by omega))
            have hs := pad_small (by omega) c3
            have f := bd_f_0 0 (d.map encR) (l.map encI) ((pad l).map encI) (y7 := Ud) (pl_all (b := 0) rfl hs.1) (q50 (pol' := polPm) (by kernel_rfl) c1 hs _ (arg_rw _ d)) (pst_all (H := [pB (pad l), pB (List.replicate 11 0)]) (b := 1) (t := List.replicate 11 0) rfl rfl (degs_ok c1 _ _ 0 (chosen_in c1) CtB.zero))
            have t1 := sq dd (sq e' f (c := sub [1, 1, 1, 1] B17)) (c := sub [1, 1, 1] B17)
            have t := sq a (sq b (sq c t1 (c := sub [1, 1] B17)) (c := sub [1] B17)) (c := B17)
            have e : bndT d l = boundS d (pad l) := if_neg c4
            rw [e]
            exact ⟨_, _, _, .tuple [.int .i64 (boundS d (pad l)), .int .i64 0], t, by simp, by simp only [resultsV, res17]; rfl, rfl⟩
        · have c3' : ¬ ∀ v, v ∈ l → pk v := c3
          rw [decide_eq_true (p := ¬ ∀ v, v ∈ l → pk v) c3'] at hN
          exact bad _ _ (bd_b_0 N (d.map encR) (l.map encI) (y6 := Ud) (y7 := Ud) m1 (by simp only [List.length_map]; omega) hN) rfl rfl (fun h => c3 h.2.2)
      · exact bad _ _ (bd_b_2 0 (d.map encR) (l.map encI) (y6 := Ud) (y7 := Ud) m1 (by simp only [List.length_map]; omega)) rfl rfl (fun h => c2 h.2.1)
    · have m1 := prim_miles (pol' := polPm) (by kernel_rfl) hc.1 hc.2 [] false (okB_false c1)
      exact bad _ _ (bd_b_3 0 (d.map encR) (l.map encI) (y6 := Ud) (y7 := Ud) m1) rfl rfl (fun h => c1 h.1)
  · cases hq
end Go.Proofs.Ytlendaofkmhgmaa
end
section
open Go Go.HL Go.HL.So
namespace Go.Proofs.Ytlendaofkmhgmaa
abbrev bF (l : List Ed) : Blk := .arr 3 (l.map encF) true 0
abbrev hF (Ls : List (List Ed)) : Heap := Ls.map bF
end Go.Proofs.Ytlendaofkmhgmaa
end
section
open Go Go.HL Go.HL.So
namespace Go.Proofs.Ytlendaofkmhgmaa
section
variable {d : List (List Int)} {l : List Int} {f : Nat}
theorem prOk.at (h : prOk l) {i : Nat} (hi : i < l.length) : -10000 ≤ l.getD i 0 ∧ l.getD i 0 ≤ 10000 := by
  have e : l.getD i 0 = l[i] := by simp [List.getD, List.getElem?_eq_getElem hi]
  rw [e]; exact h _ (List.getElem_mem _)
end
end Go.Proofs.Ytlendaofkmhgmaa
end
section
open Go Go.HL Go.HL.So
namespace Go.Proofs.Ytlendaofkmhgmaa
theorem edg_cong {d : List (List Int)} {p p' : List Int} {f : Nat} (hf : f ≤ d.length) (h : ∀ a, a < d.length → p.getD a 0 = p'.getD a 0) : edg d p f = edg d p' f := by
  obtain ⟨h1, h2⟩ := edg_ok (d := d) (p := p) hf
  obtain ⟨h3, h4⟩ := edg_ok (d := d) (p := p') hf
  refine strict_eq h1 h3 fun e => (h2 e).trans (Iff.trans ?_ (h4 e).symm)
  have key : ∀ x y, x < y → y < d.length → mkE d p x y = mkE d p' x y := fun x y hxy hy => by
    simp only [mkE, cst]
    rw [h x (by omega), h y hy]
  constructor
  · rintro ⟨x, y, hh, e⟩; exact ⟨x, y, hh, by rw [e, key x y hh.2.1 hh.2.2]⟩
  · rintro ⟨x, y, hh, e⟩; exact ⟨x, y, hh, by rw [e, key x y hh.2.1 hh.2.2]⟩
theorem chosen_cong {d : List (List Int)} {p p' : List Int} (hd : 1 ≤ d.length) (h : ∀ a, a < d.length → p.getD a 0 = p'.getD a 0) : chosen d p = chosen d p' := by
  unfold chosen treeL
  rw [edg_cong (f := 1) hd h, edg_cong (f := 0) (by omega) h]
theorem pad_get (l : List Int) (a : Nat) (ha : a < l.length) : (pad l).getD a 0 = l.getD a 0 := by
  simp only [pad, List.getD, List.getElem?_append_left ha]
theorem sumP_app (a b : List Int) (s : Int) : sumP (a ++ b) s = sumP b (sumP a s) := by simp [sumP, List.foldl_append]
theorem sumP_zero : ∀ (k : Nat) (s : Int), sumP (List.replicate k 0) s = s
  | 0, _ => rfl
  | k + 1, s => by
    have := sumP_zero k (s - 2 * 0)
    rw [show s - 2 * 0 = s by omega] at this
    show sumP (List.replicate k 0) (s - 2 * 0) = s
    rw [show s - 2 * 0 = s by omega, this]
theorem sumP_pad (l : List Int) (s : Int) : sumP (pad l) s = sumP l s := by rw [pad, sumP_app, sumP_zero]
end Go.Proofs.Ytlendaofkmhgmaa
end
section
open Go Go.HL Go.HL.So
namespace Go.Proofs.Ytlendaofkmhgmaa
theorem countP_lt {p q : Nat → Bool} : ∀ {l : List Nat} {a : Nat}, (∀ x ∈ l, q x = true → p x = true) → a ∈ l → p a = true → q a = false → l.countP q + 1 ≤ l.countP p
  | [], a, _, h, _, _ => by cases h
  | x :: l, a, hm, ha, h1, h2 => by
    have mono : l.countP q ≤ l.countP p := List.countP_mono_left fun y hy => hm y (by simp [hy])
    rw [List.countP_cons, List.countP_cons]
    rcases List.mem_cons.1 ha with rfl | ha'
    · rw [h1, h2]; simp; omega
    · have ih := countP_lt (fun y hy => hm y (by simp [hy])) ha' h1 h2
      have hx := hm x (by simp)
      cases hq : q x
      · cases hp : p x <;> simp <;> omega
      · rw [hx hq]; simp; omega
def rootB (g : List Int) (x : Nat) : Bool := decide (1 ≤ x ∧ g.getD x 0 = (x : Int))
def rts (n : Nat) (g : List Int) : Nat := (List.range n).countP (rootB g)
def KInv (n : Nat) (g : List Int) : Prop := g.length = n ∧ ∀ x, x < n → (∃ y : Nat, y < n ∧ g.getD x 0 = (y : Int) ∧ g.getD y 0 = (y : Int)) ∧ (1 ≤ x → 1 ≤ g.getD x 0)
theorem KInv.iota (n : Nat) : KInv n (iota n) := ⟨iota_len n, fun x hx => ⟨⟨x, hx, iota_at hx, iota_at hx⟩, fun h => by rw [iota_at hx]; omega⟩⟩
theorem KInv.step {n : Nat} {g : List Int} (h : KInv n g) {a b : Nat} (ha : a < n) (hb : b < n) (h1a : 1 ≤ a) (h1b : 1 ≤ b) (hne : g.getD a 0 ≠ g.getD b 0) :
    KInv n (rlb (g.getD a 0) (g.getD b 0) g.length 0 g) ∧ rts n (rlb (g.getD a 0) (g.getD b 0) g.length 0 g) + 1 ≤ rts n g := by
  obtain ⟨hl, h⟩ := h
  obtain ⟨⟨ya, hya, ea, eya⟩, pa⟩ := h a ha
  obtain ⟨⟨yb, hyb, eb, eyb⟩, pb⟩ := h b hb
  have hat : ∀ x, x < n → (rlb (g.getD a 0) (g.getD b 0) g.length 0 g).getD x 0 = if g.getD x 0 = g.getD a 0 then g.getD b 0 else g.getD x 0 := fun x hx => rlb_at _ _ _ (by omega)
  have hgl := rlb_len (g.getD a 0) (g.getD b 0) g.length 0 g
  generalize rlb (g.getD a 0) (g.getD b 0) g.length 0 g = g' at hat hgl ⊢
  have pa := pa h1a
  have pb := pb h1b
  rw [ea] at hne pa hat
  rw [eb] at hne pb hat
  refine ⟨⟨?_, fun x hx => ?_⟩, ?_⟩
  · rw [hgl, hl]
  · obtain ⟨⟨y, hy, e1, e2⟩, p⟩ := h x hx
    rw [hat x hx]
    by_cases c : g.getD x 0 = (ya : Int)
    · rw [if_pos c]
      refine ⟨⟨yb, hyb, rfl, ?_⟩, fun _ => pb⟩
      rw [hat yb hyb, eyb, if_neg (fun h => hne h.symm)]
    · rw [if_neg c]
      refine ⟨⟨y, hy, e1, ?_⟩, p⟩
      rw [hat y hy, e2, if_neg (by rw [← e1]; exact c)]
  · refine countP_lt (a := ya) (fun x hx hq => ?_) (List.mem_range.2 hya) (decide_eq_true ⟨by omega, eya⟩) (decide_eq_false fun h => ?_)
    · have hx := List.mem_range.1 hx
      obtain ⟨h1, h2⟩ := of_decide_eq_true hq
      rw [hat x hx] at h2
      refine decide_eq_true ⟨h1, ?_⟩
      by_cases c : g.getD x 0 = (ya : Int)
      · rw [if_pos c] at h2
        have : yb = x := by omega
        subst this
        rw [eyb] at c
        exact absurd c.symm hne
      · rwa [if_neg c] at h2
    · have h2 := h.2
      rw [hat ya hya, if_pos eya] at h2
      exact hne h2.symm
theorem rts_pos {n : Nat} {g : List Int} (h : KInv n g) (hn : 2 ≤ n) : 1 ≤ rts n g := by
  obtain ⟨⟨y, hy, e1, e2⟩, p⟩ := h.2 1 (by omega)
  have := countP_lt (p := rootB g) (q := fun _ => false) (l := List.range n) (a := y) (fun x _ h => by cases h) (List.mem_range.2 hy) (decide_eq_true ⟨by have := p (Nat.le_refl 1); omega, e2⟩) rfl
  exact Nat.le_trans (Nat.le_add_left 1 _) this
theorem rts_le {n : Nat} (g : List Int) (hn : 1 ≤ n) : rts n g + 1 ≤ n := by
  have := countP_lt (p := fun _ => true) (q := rootB g) (l := List.range n) (a := 0) (fun _ _ _ => rfl) (List.mem_range.2 hn) rfl (decide_eq_false fun h => by omega)
  rw [show (List.range n).countP (fun _ => true) = n by simp] at this
  exact this
theorem krP_rts {n : Nat} (hn : 2 ≤ n) : ∀ (l : List Ed) (g : List Int), KInv n g → (∀ e ∈ l, (1 ≤ e.2.1.toNat ∧ e.2.1.toNat < n) ∧ 1 ≤ e.2.2.toNat ∧ e.2.2.toNat < n) → (krP l g).length + 1 ≤ rts n g
  | [], g, h, _ => rts_pos h hn
  | e :: l, g, h, he => by
    obtain ⟨⟨h1, h2⟩, h3, h4⟩ := he e (by simp)
    have he' := fun x hx => he x (List.mem_cons_of_mem e hx)
    rw [krP]
    split
    · exact krP_rts hn l g h he'
    · rename_i c
      obtain ⟨k1, k2⟩ := h.step h2 h4 h1 h3 c
      have := krP_rts hn l _ k1 he'
      rw [List.length_cons]; omega
theorem chosen_n {d : List (List Int)} {p : List Int} (hn : 2 ≤ d.length) : (chosen d p).length ≤ d.length := by
  have h1 := krP_rts hn (edg d p 1) (iota d.length) (KInv.iota _) fun e he => by
    obtain ⟨x, y, h, rfl⟩ := ((edg_ok (d := d) (p := p) (f := 1) (by omega)).2 e).1 he
    simp only [mkE, Int.toNat_natCast]
    omega
  have h2 := rts_le (n := d.length) (iota d.length) (by omega)
  have h3 := two2_len (edg d p 0) 0
  unfold chosen treeL
  rw [List.length_append]
  omega
theorem degs_bd {n : Nat} (hn : n ≤ 11) : ∀ (l : List Ed) (t : List Int) (k : Nat), EIn n l → CtB t k → CtB (l.foldl dstep t) (k + l.length)
  | [], t, k, _, h => h
  | e :: l, t, k, he, h => by
    obtain ⟨⟨_, h1⟩, _, h2⟩ := he e (by simp)
    have := degs_bd hn l (dstep t e) (k + 1) (fun x hx => he x (by simp [hx])) (h.step (by omega) (by omega))
    rw [List.length_cons, show k + (l.length + 1) = k + 1 + l.length by omega]
    exact this
theorem degs_at {d : List (List Int)} {p : List Int} (hd : okD d) (hn : 2 ≤ d.length) : CtB (degs (chosen d p)) 11 := by
  have hdn := hd.1
  have h1 := degs_bd (n := d.length) hdn.2 (chosen d p) _ 0 (chosen_in hd) CtB.zero
  have h2 := chosen_n (p := p) hn
  refine ⟨h1.1, fun x hx => ?_⟩
  have := h1.2 x hx
  show 0 ≤ (degs (chosen d p)).getD x 0 ∧ (degs (chosen d p)).getD x 0 ≤ _
  unfold degs
  omega
def cstep (d : List (List Int)) (p : List Int) : List Int := (List.range d.length).map fun i => p.getD i 0 + ((degs (chosen d p)).getD i 0 - 2)
def clim (d : List (List Int)) : Nat → List Int → List Int → Int → List Int × Int
  | 0, _, b, v => (b, v)
  | k + 1, p, b, v => clim d k (cstep d p) (if v < boundS d (cstep d p) then cstep d p else b) (if v < boundS d (cstep d p) then boundS d (cstep d p) else v)
def zer (n : Nat) : List Int := List.replicate n 0
def climT (d : List (List Int)) (s : Nat) : List Int × Int := if d.length < 3 then (zer d.length, bndT d (zer d.length)) else clim d s (zer d.length) (zer d.length) (bndT d (zer d.length))
theorem cstep_len (d : List (List Int)) (p : List Int) : (cstep d p).length = d.length := by simp [cstep]
theorem cstep_at {d : List (List Int)} {p : List Int} {i : Nat} (hi : i < d.length) : (cstep d p).getD i 0 = p.getD i 0 + ((degs (chosen d p)).getD i 0 - 2) := by
  simp [cstep, List.getD, List.getElem?_map, List.getElem?_range hi]
def PB (n k : Nat) (p : List Int) : Prop := p.length = n ∧ ∀ i, i < n → -2 * (k : Int) ≤ p.getD i 0 ∧ p.getD i 0 ≤ 20 * (k : Int)
theorem PB.zero (n : Nat) : PB n 0 (zer n) := ⟨by simp [zer], fun i hi => by
  have : (zer n).getD i 0 = 0 := by rw [zer, List.getD, List.getElem?_replicate, if_pos hi]; rfl
  rw [this]; omega⟩
theorem PB.step {d : List (List Int)} {p : List Int} {k : Nat} (hd : okD d) (hn : 2 ≤ d.length) (h : PB d.length k p) : PB d.length (k + 1) (cstep d p) := by
  refine ⟨cstep_len d p, fun i hi => ?_⟩
  have hdn := hd.1
  rw [cstep_at hi]
  have h1 := h.2 i hi
  have h2 := (degs_at (p := p) hd hn).2 i (by omega)
  omega
theorem PB.ok {n k : Nat} {p : List Int} (h : PB n k p) (hk : k ≤ 200) : prOk p := fun v hv => by
  obtain ⟨i, hi, rfl⟩ := List.getElem_of_mem hv
  have h2 := h.2 i (by rw [← h.1]; exact hi)
  rw [show p.getD i 0 = p[i] by simp [List.getD, List.getElem?_eq_getElem hi]] at h2
  omega
theorem bndT_eq {d : List (List Int)} {p : List Int} (hn : ¬ d.length < 3) (hp : p.length = d.length) : bndT d p = boundS d p := by
  unfold bndT
  rw [if_neg hn]
  show sumP (pad p) (sumA (chosen d (pad p)) 0) = sumP p (sumA (chosen d p) 0)
  rw [sumP_pad, chosen_cong (p := pad p) (p' := p) (by omega) (fun a ha => pad_get p a (by omega))]
end Go.Proofs.Ytlendaofkmhgmaa
end
section
open Go Go.HL
namespace Go.Proofs.Ytlendaofkmhgmaa
theorem toRes_li2 {H : Heap} {b k : Nat} {cap : Option Nat} {o : List Int} (hb : H[b]? = some (bI o)) (hk : o.length = k) (x e : Int) : toRes H false (.tuple [.sl b 0 k cap k 1, .int .i64 x, .int .i64 e]) = some (.tuple [.own 1 (o.map encI), .int .i64 x, .int .i64 e]) := by
  have hr := resCell_sl (H := H) (no := [b]) (b := b) (k := 1) (m := k) (cap := cap) (els := o.map encI) hb (by simpa using hk) (mapO_self (fun r => frz_int 4 r) _)
  have ho : ownedAll H false (.tuple [.sl b 0 k cap k 1, .int .i64 x, .int .i64 e]) = [b] := by simp [ownedAll, cellsOf, owned, hb]
  simp only [toRes, ho, List.nodup_cons, List.not_mem_nil, not_false_eq_true, List.nodup_nil, and_self, if_true, mapO, resVal, hr]
  rfl
section
variable {d : List (List Int)}
abbrev tv4 (m : Nat) : HV := .sl 4 0 m none m 1
structure BI (d : List (List Int)) (v w : Nat) (o : List Int) (tv : HV) (H : Heap) : Prop where
  mem : Mem (rsT d) H
  box : H[1]? = some (boxK v w)
  st : (tv = .sl 2 0 1 (some 1) 1 1 ∧ o = [0] ∧ H.length = 3 ∧ H[2]? = some (bI o)) ∨ (tv = tv4 o.length ∧ H.length = 5 ∧ H[4]? = some (bI o))
theorem BI.len {d : List (List Int)} {v w : Nat} {o : List Int} {tv : HV} {H : Heap} (h : BI d v w o tv H) : 3 ≤ H.length ∧ H.length ≤ 5 ∧ bnd tv ≤ H.length := by
  rcases h.st with ⟨h1, _, h3, _⟩ | ⟨h1, h3, _⟩ <;> rw [h1, h3] <;> simp [bnd]
end
end Go.Proofs.Ytlendaofkmhgmaa
end
section
open Go Go.HL Go.HL.So
namespace Go.Proofs.Ytlendaofkmhgmaa
open Go.Proofs.Try renaming prog → Tp
open Go.HL.HV renaming undef → Ud
def riF (f : List (List Int) → Int → Option HV) : List HV → Option HV
  | [.imm .arg 1 rw, .int .i64 a] => (match mapO decR rw with | some R => f R a | none => none)
  | _ => none
theorem riF_inv {f : List (List Int) → Int → Option HV} {args : List HV} {res : HV} (h : riF f args = some res) : ∃ R a, args = [.imm .arg 1 (R.map encR), .int .i64 a] ∧ f R a = some res := by
  unfold riF at h
  split at h
  · rename_i rw a
    split at h
    · rename_i R hR
      exact ⟨R, a, by rw [mapO_inv decR_inv hR], h⟩
    · cases h
  · cases h
open Classical in
noncomputable def climb31 : List HV → Option HV := riF fun R s => if R.length ≤ 1000 ∧ (R.all fun r => decide (r.length ≤ 1000)) = true then some (if okD R ∧ 0 ≤ s ∧ s ≤ 100 then .tuple [.own 1 ((climT R s.toNat).1.map encI), .int .i64 (climT R s.toNat).2, .int .i64 0] else .tuple [.own 1 [], .int .i64 0, .int .i64 2]) else none
noncomputable def polCl : Pol := { pol with prim := fun g => if g == 46 then some miles46 else if g == 49 then some withinF else if g == 50 then some bound50 else if g == 52 then some clone52 else none }
theorem soundCl (n : Nat) : CallSound Tp (callN Tp polCl n) := sound_prim _ (fun g f h => by
  split at h
  · rename_i hg; cases h; rw [eq_of_beq hg]; exact miles_ok
  split at h
  · rename_i hg; cases h; rw [eq_of_beq hg]; exact within_ok
  split at h
  · rename_i hg; cases h; rw [eq_of_beq hg]; exact bound_ok
  split at h
  · rename_i hg; cases h; rw [eq_of_beq hg]; exact clone_ok
  · cases h) n
theorem li_ext {a b : List Int} (hl : a.length = b.length) (h : ∀ x, x < a.length → a.getD x 0 = b.getD x 0) : a = b := by
  apply List.ext_getElem?
  intro x
  by_cases hx : x < a.length
  · have h1 := h x hx
    rw [List.getElem?_eq_getElem hx, List.getElem?_eq_getElem (by omega)]
    simp only [List.getD, List.getElem?_eq_getElem hx, List.getElem?_eq_getElem (show x < b.length by omega), Option.getD_some] at h1
    rw [h1]
  · rw [List.getElem?_eq_none (by omega), List.getElem?_eq_none (by omega)]
theorem pad_hi {l : List Int} {x : Nat} (h1 : l.length ≤ x) (h2 : x < 11) : (pad l).getD x 0 = 0 := by
  rw [pad, List.getD, List.getElem?_append_right h1, List.getElem?_replicate, if_pos (by omega)]; rfl
theorem bnd_pad {d : List (List Int)} {p : List Int} (hn : 1 ≤ d.length) (hp : p.length = d.length) : boundS d (pad p) = boundS d p := by
  show sumP (pad p) (sumA (chosen d (pad p)) 0) = sumP p (sumA (chosen d p) 0)
  rw [sumP_pad, chosen_cong (p := pad p) (p' := p) hn (fun a ha => pad_get p a (by omega))]
theorem pad_zer {n : Nat} (h : n ≤ 11) : pad (zer n) = List.replicate 11 0 := by
  unfold pad zer
  rw [List.length_replicate, List.replicate_append_replicate]
  congr 1; omega
theorem clim_len {d : List (List Int)} : ∀ (k : Nat) (p b : List Int) (v : Int), b.length = d.length → (clim d k p b v).1.length = d.length
  | 0, _, b, _, h => h
  | k + 1, p, b, v, h => by
    rw [clim]
    exact clim_len k _ _ _ (by split; exact cstep_len d p; exact h)
end Go.Proofs.Ytlendaofkmhgmaa
end
section
open Go Go.HL Go.HL.So
namespace Go.Proofs.Ytlendaofkmhgmaa
def cstepN (d : List (List Int)) : Nat → List Int → List Int
  | 0, p => p
  | k + 1, p => cstepN d k (cstep d p)
theorem clim_last {d : List (List Int)} : ∀ (k : Nat) (p b : List Int) (v : Int),
    clim d (k + 1) p b v = (if (clim d k p b v).2 < boundS d (cstepN d (k + 1) p) then cstepN d (k + 1) p else (clim d k p b v).1, if (clim d k p b v).2 < boundS d (cstepN d (k + 1) p) then boundS d (cstepN d (k + 1) p) else (clim d k p b v).2)
  | 0, p, b, v => rfl
  | k + 1, p, b, v => by
    rw [clim, clim_last k]
    rfl
theorem clim_inv {d : List (List Int)} (hd : okD d) (hn : 2 ≤ d.length) : ∀ (k j : Nat) (p b : List Int) (v : Int), PB d.length j p → (∃ i, i ≤ j ∧ PB d.length i b) → v = boundS d b →
    (∃ i, i ≤ j + k ∧ PB d.length i (clim d k p b v).1) ∧ (clim d k p b v).2 = boundS d (clim d k p b v).1
  | 0, j, p, b, v, _, h2, h3 => ⟨h2, h3⟩
  | k + 1, j, p, b, v, h1, ⟨i, hi, h2⟩, h3 => by
    rw [clim]
    have h1' := h1.step hd hn
    by_cases c : v < boundS d (cstep d p)
    · rw [if_pos c, if_pos c]
      have := clim_inv hd hn k (j + 1) (cstep d p) (cstep d p) _ h1' ⟨j + 1, Nat.le_refl _, h1'⟩ rfl
      rw [show j + (k + 1) = j + 1 + k by omega]
      exact this
    · rw [if_neg c, if_neg c]
      have := clim_inv hd hn k (j + 1) (cstep d p) b v h1' ⟨i, by omega, h2⟩ h3
      rw [show j + (k + 1) = j + 1 + k by omega]
      exact this
theorem climT_ok {d : List (List Int)} (hd : okD d) {s : Nat} (hs : s ≤ 100) : (climT d s).1.length = d.length ∧ prOk (climT d s).1 ∧ bndT d (climT d s).1 = (climT d s).2 := by
  have hz := PB.zero d.length
  unfold climT
  split
  · exact ⟨hz.1, hz.ok (by omega), rfl⟩
  · rename_i h3
    have hzl : (zer d.length).length = d.length := hz.1
    obtain ⟨⟨i, hi, h1⟩, h2⟩ := clim_inv hd (by omega) s 0 (zer d.length) (zer d.length) (bndT d (zer d.length)) hz ⟨0, Nat.le_refl _, hz⟩ (bndT_eq h3 hzl)
    exact ⟨h1.1, h1.ok (by omega), by rw [bndT_eq h3 h1.1, h2]⟩
theorem climT_more (d : List (List Int)) (s : Nat) : (climT d s).2 ≤ (climT d (s + 1)).2 ∧ ((climT d s).2 < (climT d (s + 1)).2 ∨ (climT d s).1 = (climT d (s + 1)).1) := by
  unfold climT
  split
  · exact ⟨Int.le_refl _, .inr rfl⟩
  · rw [clim_last]
    generalize clim d s (zer d.length) (zer d.length) (bndT d (zer d.length)) = w
    by_cases c : w.2 < boundS d (cstepN d (s + 1) (zer d.length))
    · rw [if_pos c, if_pos c]
      exact ⟨Int.le_of_lt c, .inl c⟩
    · rw [if_neg c, if_neg c]
      exact ⟨Int.le_refl _, .inr rfl⟩
end Go.Proofs.Ytlendaofkmhgmaa
end
section
open Go Go.HL
namespace Go.Proofs.Ytlendaofkmhgmaa
set_option maxRecDepth 100000
open Go.Proofs.Try renaming prog → Tp
open Go.HL.HV renaming undef → Ud
noncomputable def B31 : Code := Try.f31.body.getD .skip
abbrev env31 (v0 v1 v4 v5 v6 v7 v8 v9 v10 v11 v12 v42 v43 v46 v47 : HV) : Env := [(0, v0), (1, v1), (4, v4), (5, v5), (6, v6), (7, v7), (8, v8), (9, v9), (10, v10), (11, v11), (12, v12), (42, v42), (43, v43), (46, v46), (47, v47)]
theorem cl_a_0 (rw : List HV) (st : Int)  : RT polCl 31 (sub [0] B31) [(0, .imm .arg 1 rw), (1, .i st)] [] .normal (env31 (.imm .arg 1 rw) (.i st) (.imm .lit 1 []) (.i 0) (.i 0) Ud Ud Ud Ud Ud Ud Ud Ud Ud Ud) [] :=
  RunsTo.hin 0 60 [] fun kf hk => ⟨_, by kernel_rfl, .nil⟩
theorem cl_b_0 (rw : List HV) (st : Int)  {y7 y8 y9 y10 y11 y12 y42 y43 y46 y47 : HV}(g0 : ∀ kf, callN Tp polCl (kf + 1) 46 [.imm .arg 1 rw] [] = some (.bool true, [])) (g1 : (0 : Int) ≤ st ∧ st ≤ (100 : Int)) : RT polCl 31 (sub [1, 0] B31) (env31 (.imm .arg 1 rw) (.i st) (.imm .lit 1 []) (.i 0) (.i 0) y7 y8 y9 y10 y11 y12 y42 y43 y46 y47) [] .normal (env31 (.imm .arg 1 rw) (.i st) (.imm .lit 1 []) (.i 0) (.i 0) y7 y8 y9 y10 y11 y12 y42 y43 y46 y47) [] :=
  RunsTo.hin 0 60 [⟨1, 1, .bool true, []⟩, ⟨1, 5, .bool true, []⟩] fun kf hk => ⟨_, by kernel_rfl, (oC (g0 kf) (oB [] (decide_eq_true g1) .nil))⟩
theorem cl_b_1 (rw : List HV) (st : Int)  {y7 y8 y9 y10 y11 y12 y42 y43 y46 y47 : HV}(g0 : ∀ kf, callN Tp polCl (kf + 1) 46 [.imm .arg 1 rw] [] = some (.bool true, [])) (g1 : ¬ ((0 : Int) ≤ st ∧ st ≤ (100 : Int))) : RT polCl 31 (sub [1, 0] B31) (env31 (.imm .arg 1 rw) (.i st) (.imm .lit 1 []) (.i 0) (.i 0) y7 y8 y9 y10 y11 y12 y42 y43 y46 y47) [] .ret (env31 (.imm .arg 1 rw) (.i st) (.imm .lit 1 []) (.i 0) (.i 2) y7 y8 y9 y10 y11 y12 y42 y43 y46 y47) [] :=
  RunsTo.hin 0 60 [⟨1, 1, .bool true, []⟩, ⟨1, 5, .bool false, []⟩] fun kf hk => ⟨_, by kernel_rfl, (oC (g0 kf) (oB [] (decide_eq_false g1) .nil))⟩
theorem cl_b_2 (rw : List HV) (st : Int)  {y7 y8 y9 y10 y11 y12 y42 y43 y46 y47 : HV}(g0 : ∀ kf, callN Tp polCl (kf + 1) 46 [.imm .arg 1 rw] [] = some (.bool false, [])) : RT polCl 31 (sub [1, 0] B31) (env31 (.imm .arg 1 rw) (.i st) (.imm .lit 1 []) (.i 0) (.i 0) y7 y8 y9 y10 y11 y12 y42 y43 y46 y47) [] .ret (env31 (.imm .arg 1 rw) (.i st) (.imm .lit 1 []) (.i 0) (.i 2) y7 y8 y9 y10 y11 y12 y42 y43 y46 y47) [] :=
  RunsTo.hin 0 60 [⟨1, 1, .bool false, []⟩] fun kf hk => ⟨_, by kernel_rfl, (oC (g0 kf) .nil)⟩
theorem cl_c_0 (rw : List HV) (st : Int)  {y7 y8 y9 y10 y11 y12 y42 y43 y46 y47 : HV} {l0 : List HV} {x0 : Int} (g0 : (rw.length : Int) < 3) (g1 : makeV Tp false 23 (.i (rw.length : Int)) (.i (rw.length : Int)) [] = some (.sl 0 0 rw.length (some rw.length) rw.length 1, [.arr 1 (List.replicate rw.length (.i 0)) true 0])) (g2 : idxV Tp 22 (.imm .arg 1 rw) (.i 0) = some (.vptr (.imm .arg 1 l0))) (g3 : idxV Tp 23 (.imm .arg 1 l0) (.i (IntKind.i64.wrap ((rw.length : Int) - 1))) = some (.vptr (.i x0))) (gS4 : ((same (.imm .arg 1 l0) (.imm .arg 1 l0) && sameH ([.arr 1 (List.replicate rw.length (.i 0)) true 0] : Heap) [.arr 1 (List.replicate rw.length (.i 0)) true 0] && sameH ([] : Heap) []) && ((same (.i (rw.length : Int)) (.i (rw.length : Int)) && sameH ([.arr 1 (List.replicate rw.length (.i 0)) true 0] : Heap) [.arr 1 (List.replicate rw.length (.i 0)) true 0] && sameH ([] : Heap) []) && ((same (.i x0) (.i x0) && sameH ([.arr 1 (List.replicate rw.length (.i 0)) true 0] : Heap) [.arr 1 (List.replicate rw.length (.i 0)) true 0] && sameH ([] : Heap) []) && true))) = true) : RT polCl 31 (sub [1, 1, 0] B31) (env31 (.imm .arg 1 rw) (.i st) (.imm .lit 1 []) (.i 0) (.i 0) y7 y8 y9 y10 y11 y12 y42 y43 y46 y47) [] .ret (env31 (.imm .arg 1 rw) (.i st) (.sl 0 0 rw.length (some rw.length) rw.length 1) (.i (IntKind.i64.wrap (2 * x0))) (.i 0) y7 y8 y9 y10 y11 y12 y42 y43 y46 y47) [.arr 1 (List.replicate rw.length (.i 0)) true 0] :=
  RunsTo.hin 0 60 [⟨3, 2, .bool true, []⟩, ⟨4, 2, .sl 0 0 rw.length (some rw.length) rw.length 1, [.arr 1 (List.replicate rw.length (.i 0)) true 0]⟩, ⟨4, 4, .vptr (.imm .arg 1 l0), [.arr 1 (List.replicate rw.length (.i 0)) true 0]⟩, ⟨4, 9, .vptr (.i x0), [.arr 1 (List.replicate rw.length (.i 0)) true 0]⟩] fun kf hk => ⟨_, by kernel_rfl, (oB [] (decide_eq_true g0) (oC (gS4) (oC (g1) (oP [.arr 1 (List.replicate rw.length (.i 0)) true 0] g2 (oP [.arr 1 (List.replicate rw.length (.i 0)) true 0] g3 .nil)))))⟩
theorem cl_c_1 (rw : List HV) (st : Int)  {y7 y8 y9 y10 y11 y12 y42 y43 y46 y47 : HV}(g0 : ¬ ((rw.length : Int) < 3)) : RT polCl 31 (sub [1, 1, 0] B31) (env31 (.imm .arg 1 rw) (.i st) (.imm .lit 1 []) (.i 0) (.i 0) y7 y8 y9 y10 y11 y12 y42 y43 y46 y47) [] .normal (env31 (.imm .arg 1 rw) (.i st) (.imm .lit 1 []) (.i 0) (.i 0) y7 y8 y9 y10 y11 y12 y42 y43 y46 y47) [] :=
  RunsTo.hin 0 60 [⟨3, 2, .bool false, []⟩] fun kf hk => ⟨_, by kernel_rfl, (oB [] (decide_eq_false g0) .nil)⟩
theorem cl_d_0 (rw : List HV) (st : Int)  {y7 y8 y9 y10 y11 y12 y42 y43 y46 y47 : HV} : RT polCl 31 (sub [1, 1, 1, 0] B31) (env31 (.imm .arg 1 rw) (.i st) (.imm .lit 1 []) (.i 0) (.i 0) y7 y8 y9 y10 y11 y12 y42 y43 y46 y47) [] .normal (env31 (.imm .arg 1 rw) (.i st) (.imm .lit 1 []) (.i 0) (.i 0) (.ptr 0 0 0 1) (.ptr 1 0 0 1) y9 y10 y11 y12 y42 y43 y46 y47) [.arr 11 [.agg [.i 0, .i 0, .i 0, .i 0, .i 0, .i 0, .i 0, .i 0, .i 0, .i 0, .i 0]] true 0, .arr 11 [.agg [.i 0, .i 0, .i 0, .i 0, .i 0, .i 0, .i 0, .i 0, .i 0, .i 0, .i 0]] true 0] :=
  RunsTo.hin 0 60 [] fun kf hk => ⟨_, by kernel_rfl, .nil⟩
theorem cl_e_0 (rw : List HV) (st : Int)  {y9 y10 y11 y12 y42 y43 y46 y47 : HV} {sm : Int} {ag : List HV} (g0 : ∀ kf, callN Tp polCl (kf + 1) 50 [.imm .arg 1 rw, .agg [.i 0, .i 0, .i 0, .i 0, .i 0, .i 0, .i 0, .i 0, .i 0, .i 0, .i 0]] [.arr 11 [.agg [.i 0, .i 0, .i 0, .i 0, .i 0, .i 0, .i 0, .i 0, .i 0, .i 0, .i 0]] true 0, .arr 11 [.agg [.i 0, .i 0, .i 0, .i 0, .i 0, .i 0, .i 0, .i 0, .i 0, .i 0, .i 0]] true 0] = some (.tuple [.i sm, .agg ag], [.arr 11 [.agg [.i 0, .i 0, .i 0, .i 0, .i 0, .i 0, .i 0, .i 0, .i 0, .i 0, .i 0]] true 0, .arr 11 [.agg [.i 0, .i 0, .i 0, .i 0, .i 0, .i 0, .i 0, .i 0, .i 0, .i 0, .i 0]] true 0])) (g1 : storeV Tp [.arr 11 [.agg [.i 0, .i 0, .i 0, .i 0, .i 0, .i 0, .i 0, .i 0, .i 0, .i 0, .i 0]] true 0, .arr 11 [.agg [.i 0, .i 0, .i 0, .i 0, .i 0, .i 0, .i 0, .i 0, .i 0, .i 0, .i 0]] true 0, .arr 11 [.agg [.i 0, .i 0, .i 0, .i 0, .i 0, .i 0, .i 0, .i 0, .i 0, .i 0, .i 0]] true 0] 66 (.ptr 2 0 0 1) (.agg ag) = some [.arr 11 [.agg [.i 0, .i 0, .i 0, .i 0, .i 0, .i 0, .i 0, .i 0, .i 0, .i 0, .i 0]] true 0, .arr 11 [.agg [.i 0, .i 0, .i 0, .i 0, .i 0, .i 0, .i 0, .i 0, .i 0, .i 0, .i 0]] true 0, .arr 11 [.agg ag] true 0]) : RT polCl 31 (sub [1, 1, 1, 1, 0] B31) (env31 (.imm .arg 1 rw) (.i st) (.imm .lit 1 []) (.i 0) (.i 0) (.ptr 0 0 0 1) (.ptr 1 0 0 1) y9 y10 y11 y12 y42 y43 y46 y47) [.arr 11 [.agg [.i 0, .i 0, .i 0, .i 0, .i 0, .i 0, .i 0, .i 0, .i 0, .i 0, .i 0]] true 0, .arr 11 [.agg [.i 0, .i 0, .i 0, .i 0, .i 0, .i 0, .i 0, .i 0, .i 0, .i 0, .i 0]] true 0] .normal (env31 (.imm .arg 1 rw) (.i st) (.imm .lit 1 []) (.i 0) (.i 0) (.ptr 0 0 0 1) (.ptr 1 0 0 1) (.i sm) (.ptr 2 0 0 1) y11 y12 y42 y43 y46 y47) [.arr 11 [.agg [.i 0, .i 0, .i 0, .i 0, .i 0, .i 0, .i 0, .i 0, .i 0, .i 0, .i 0]] true 0, .arr 11 [.agg [.i 0, .i 0, .i 0, .i 0, .i 0, .i 0, .i 0, .i 0, .i 0, .i 0, .i 0]] true 0, .arr 11 [.agg ag] true 0] :=
  RunsTo.hin 0 60 [⟨6, 2, .tuple [.i sm, .agg ag], [.arr 11 [.agg [.i 0, .i 0, .i 0, .i 0, .i 0, .i 0, .i 0, .i 0, .i 0, .i 0, .i 0]] true 0, .arr 11 [.agg [.i 0, .i 0, .i 0, .i 0, .i 0, .i 0, .i 0, .i 0, .i 0, .i 0, .i 0]] true 0]⟩, ⟨6, 8, .tuple [], [.arr 11 [.agg [.i 0, .i 0, .i 0, .i 0, .i 0, .i 0, .i 0, .i 0, .i 0, .i 0, .i 0]] true 0, .arr 11 [.agg [.i 0, .i 0, .i 0, .i 0, .i 0, .i 0, .i 0, .i 0, .i 0, .i 0, .i 0]] true 0, .arr 11 [.agg ag] true 0]⟩] fun kf hk => ⟨_, by kernel_rfl, (oC (g0 kf) (oS g1 .nil))⟩
theorem cl_f_0 (rw : List HV) (st : Int) (xs bs ds : List HV) (bv : Int) {y11 y12 y42 y43 y46 y47 : HV} : RT polCl 31 (sub [1, 1, 1, 1, 1, 0, 0] B31) (env31 (.imm .arg 1 rw) (.i st) (.imm .lit 1 []) (.i 0) (.i 0) (.ptr 0 0 0 1) (.ptr 1 0 0 1) (.i bv) (.ptr 2 0 0 1) y11 y12 y42 y43 y46 y47) [.arr 11 [.agg xs] true 0, .arr 11 [.agg bs] true 0, .arr 11 [.agg ds] true 0] .normal (env31 (.imm .arg 1 rw) (.i st) (.imm .lit 1 []) (.i 0) (.i 0) (.ptr 0 0 0 1) (.ptr 1 0 0 1) (.i bv) (.ptr 2 0 0 1) y11 y12 (.i st) (.i 0) y46 y47) [.arr 11 [.agg xs] true 0, .arr 11 [.agg bs] true 0, .arr 11 [.agg ds] true 0] :=
  RunsTo.hin 0 60 [] fun kf hk => ⟨_, by kernel_rfl, .nil⟩
theorem cl_g_0 (rw : List HV) (st : Int) (xs bs ds : List HV) (bv : Int) (k : Nat) {y11 y12 y46 y47 : HV}(g0 : (k : Int) < st) : RunsTo Tp polCl 31 (sub [1, 1, 1, 1, 1, 0, 1, 0, 0, 0] B31) (env31 (.imm .arg 1 rw) (.i st) (.imm .lit 1 []) (.i 0) (.i 0) (.ptr 0 0 0 1) (.ptr 1 0 0 1) (.i bv) (.ptr 2 0 0 1) y11 y12 (.i st) (.i (k : Int)) y46 y47) [.arr 11 [.agg xs] true 0, .arr 11 [.agg bs] true 0, .arr 11 [.agg ds] true 0] .normal [0, 1, 4, 5, 6, 7, 8, 9, 10, 11, 12, 42, 43, 46, 47, 44] [(0, .imm .arg 1 rw), (1, .i st), (4, .imm .lit 1 []), (5, .i 0), (6, .i 0), (7, .ptr 0 0 0 1), (8, .ptr 1 0 0 1), (9, .i bv), (10, .ptr 2 0 0 1), (11, y11), (12, y12), (42, .i st), (43, .i (k : Int)), (46, y46), (47, y47), (44, .bool true)] [.arr 11 [.agg xs] true 0, .arr 11 [.agg bs] true 0, .arr 11 [.agg ds] true 0] :=
  RunsTo.hin 0 60 [⟨8, 0, .bool true, [.arr 11 [.agg xs] true 0, .arr 11 [.agg bs] true 0, .arr 11 [.agg ds] true 0]⟩] fun kf hk => ⟨_, by kernel_rfl, (oB [.arr 11 [.agg xs] true 0, .arr 11 [.agg bs] true 0, .arr 11 [.agg ds] true 0] (decide_eq_true g0) .nil)⟩
theorem cl_g_1 (rw : List HV) (st : Int) (xs bs ds : List HV) (bv : Int) (k : Nat) {y11 y12 y46 y47 : HV}(g0 : ¬ ((k : Int) < st)) : RunsTo Tp polCl 31 (sub [1, 1, 1, 1, 1, 0, 1, 0, 0, 0] B31) (env31 (.imm .arg 1 rw) (.i st) (.imm .lit 1 []) (.i 0) (.i 0) (.ptr 0 0 0 1) (.ptr 1 0 0 1) (.i bv) (.ptr 2 0 0 1) y11 y12 (.i st) (.i (k : Int)) y46 y47) [.arr 11 [.agg xs] true 0, .arr 11 [.agg bs] true 0, .arr 11 [.agg ds] true 0] .normal [0, 1, 4, 5, 6, 7, 8, 9, 10, 11, 12, 42, 43, 46, 47, 44] [(0, .imm .arg 1 rw), (1, .i st), (4, .imm .lit 1 []), (5, .i 0), (6, .i 0), (7, .ptr 0 0 0 1), (8, .ptr 1 0 0 1), (9, .i bv), (10, .ptr 2 0 0 1), (11, y11), (12, y12), (42, .i st), (43, .i (k : Int)), (46, y46), (47, y47), (44, .bool false)] [.arr 11 [.agg xs] true 0, .arr 11 [.agg bs] true 0, .arr 11 [.agg ds] true 0] :=
  RunsTo.hin 0 60 [⟨8, 0, .bool false, [.arr 11 [.agg xs] true 0, .arr 11 [.agg bs] true 0, .arr 11 [.agg ds] true 0]⟩] fun kf hk => ⟨_, by kernel_rfl, (oB [.arr 11 [.agg xs] true 0, .arr 11 [.agg bs] true 0, .arr 11 [.agg ds] true 0] (decide_eq_false g0) .nil)⟩
theorem cl_ht_0 (rw : List HV) (st : Int) (xs bs ds : List HV) (bv : Int) (k : Nat) {y11 y12 y46 y47 : HV} : RT polCl 31 (sub [1, 1, 1, 1, 1, 0, 1, 0, 0, 1, 0] B31) [(0, .imm .arg 1 rw), (1, .i st), (4, .imm .lit 1 []), (5, .i 0), (6, .i 0), (7, .ptr 0 0 0 1), (8, .ptr 1 0 0 1), (9, .i bv), (10, .ptr 2 0 0 1), (11, y11), (12, y12), (42, .i st), (43, .i (k : Int)), (46, y46), (47, y47), (44, .bool true)] [.arr 11 [.agg xs] true 0, .arr 11 [.agg bs] true 0, .arr 11 [.agg ds] true 0] .normal (env31 (.imm .arg 1 rw) (.i st) (.imm .lit 1 []) (.i 0) (.i 0) (.ptr 0 0 0 1) (.ptr 1 0 0 1) (.i bv) (.ptr 2 0 0 1) y11 y12 (.i st) (.i (k : Int)) y46 y47) [.arr 11 [.agg xs] true 0, .arr 11 [.agg bs] true 0, .arr 11 [.agg ds] true 0] :=
  RunsTo.hin 0 60 [] fun kf hk => ⟨_, by kernel_rfl, .nil⟩
theorem cl_hf_0 (rw : List HV) (st : Int) (xs bs ds : List HV) (bv : Int) (k : Nat) {y11 y12 y46 y47 : HV} : RT polCl 31 (sub [1, 1, 1, 1, 1, 0, 1, 0, 0, 1, 0] B31) [(0, .imm .arg 1 rw), (1, .i st), (4, .imm .lit 1 []), (5, .i 0), (6, .i 0), (7, .ptr 0 0 0 1), (8, .ptr 1 0 0 1), (9, .i bv), (10, .ptr 2 0 0 1), (11, y11), (12, y12), (42, .i st), (43, .i (k : Int)), (46, y46), (47, y47), (44, .bool false)] [.arr 11 [.agg xs] true 0, .arr 11 [.agg bs] true 0, .arr 11 [.agg ds] true 0] (.exit 0) (env31 (.imm .arg 1 rw) (.i st) (.imm .lit 1 []) (.i 0) (.i 0) (.ptr 0 0 0 1) (.ptr 1 0 0 1) (.i bv) (.ptr 2 0 0 1) y11 y12 (.i st) (.i (k : Int)) y46 y47) [.arr 11 [.agg xs] true 0, .arr 11 [.agg bs] true 0, .arr 11 [.agg ds] true 0] :=
  RunsTo.hin 0 60 [] fun kf hk => ⟨_, by kernel_rfl, .nil⟩
theorem cl_i_0 (rw : List HV) (st : Int) (xs bs ds : List HV) (bv : Int) (k : Nat) {y11 y12 y46 y47 : HV} : RT polCl 31 (sub [1, 1, 1, 1, 1, 0, 1, 0, 0, 1, 1, 0, 0, 0, 0] B31) (env31 (.imm .arg 1 rw) (.i st) (.imm .lit 1 []) (.i 0) (.i 0) (.ptr 0 0 0 1) (.ptr 1 0 0 1) (.i bv) (.ptr 2 0 0 1) y11 y12 (.i st) (.i (k : Int)) y46 y47) [.arr 11 [.agg xs] true 0, .arr 11 [.agg bs] true 0, .arr 11 [.agg ds] true 0] .normal (env31 (.imm .arg 1 rw) (.i st) (.imm .lit 1 []) (.i 0) (.i 0) (.ptr 0 0 0 1) (.ptr 1 0 0 1) (.i bv) (.ptr 2 0 0 1) y11 y12 (.i st) (.i (k : Int)) (.i (rw.length : Int)) (.i 0)) [.arr 11 [.agg xs] true 0, .arr 11 [.agg bs] true 0, .arr 11 [.agg ds] true 0] :=
  RunsTo.hin 0 60 [] fun kf hk => ⟨_, by kernel_rfl, .nil⟩
theorem cl_j_0 (rw : List HV) (st : Int) (xs bs ds : List HV) (bv : Int) (k n i : Nat) {y11 y12 : HV} {x0 : Int} {x1 : Int} {cs0 : List HV} (g0 : (i : Int) < (n : Int)) (g1 : idxV Tp 66 (.ptr 0 0 0 1) (.i (i : Int)) = some (.ptr 0 0 i 1)) (g2 : loadV Tp [.arr 11 [.agg xs] true 0, .arr 11 [.agg bs] true 0, .arr 11 [.agg ds] true 0] 3 (.ptr 0 0 i 1) = some (.i x0)) (g3 : idxV Tp 66 (.ptr 2 0 0 1) (.i (i : Int)) = some (.ptr 2 0 i 1)) (g4 : loadV Tp [.arr 11 [.agg xs] true 0, .arr 11 [.agg bs] true 0, .arr 11 [.agg ds] true 0] 3 (.ptr 2 0 i 1) = some (.i x1)) (g5 : idxV Tp 66 (.ptr 0 0 0 1) (.i (i : Int)) = some (.ptr 0 0 i 1)) (g6 : storeV Tp [.arr 11 [.agg xs] true 0, .arr 11 [.agg bs] true 0, .arr 11 [.agg ds] true 0] 3 (.ptr 0 0 i 1) (.i (IntKind.i64.wrap (x0 + IntKind.i64.wrap (x1 - 2)))) = some [.arr 11 [.agg cs0] true 0, .arr 11 [.agg bs] true 0, .arr 11 [.agg ds] true 0]) : RT polCl 31 (sub [1, 1, 1, 1, 1, 0, 1, 0, 0, 1, 1, 0, 0, 0, 1, 0, 0] B31) (env31 (.imm .arg 1 rw) (.i st) (.imm .lit 1 []) (.i 0) (.i 0) (.ptr 0 0 0 1) (.ptr 1 0 0 1) (.i bv) (.ptr 2 0 0 1) y11 y12 (.i st) (.i (k : Int)) (.i (n : Int)) (.i (i : Int))) [.arr 11 [.agg xs] true 0, .arr 11 [.agg bs] true 0, .arr 11 [.agg ds] true 0] .normal (env31 (.imm .arg 1 rw) (.i st) (.imm .lit 1 []) (.i 0) (.i 0) (.ptr 0 0 0 1) (.ptr 1 0 0 1) (.i bv) (.ptr 2 0 0 1) (.i (i : Int)) y12 (.i st) (.i (k : Int)) (.i (n : Int)) (.i (IntKind.i64.wrap ((i : Int) + 1)))) [.arr 11 [.agg cs0] true 0, .arr 11 [.agg bs] true 0, .arr 11 [.agg ds] true 0] :=
  RunsTo.hin 0 60 [⟨10, 0, .bool true, [.arr 11 [.agg xs] true 0, .arr 11 [.agg bs] true 0, .arr 11 [.agg ds] true 0]⟩, ⟨12, 1, .ptr 0 0 i 1, [.arr 11 [.agg xs] true 0, .arr 11 [.agg bs] true 0, .arr 11 [.agg ds] true 0]⟩, ⟨12, 2, .i x0, [.arr 11 [.agg xs] true 0, .arr 11 [.agg bs] true 0, .arr 11 [.agg ds] true 0]⟩, ⟨12, 4, .ptr 2 0 i 1, [.arr 11 [.agg xs] true 0, .arr 11 [.agg bs] true 0, .arr 11 [.agg ds] true 0]⟩, ⟨12, 5, .i x1, [.arr 11 [.agg xs] true 0, .arr 11 [.agg bs] true 0, .arr 11 [.agg ds] true 0]⟩, ⟨12, 8, .ptr 0 0 i 1, [.arr 11 [.agg xs] true 0, .arr 11 [.agg bs] true 0, .arr 11 [.agg ds] true 0]⟩, ⟨12, 9, .tuple [], [.arr 11 [.agg cs0] true 0, .arr 11 [.agg bs] true 0, .arr 11 [.agg ds] true 0]⟩] fun kf hk => ⟨_, by kernel_rfl, (oB [.arr 11 [.agg xs] true 0, .arr 11 [.agg bs] true 0, .arr 11 [.agg ds] true 0] (decide_eq_true g0) (oP [.arr 11 [.agg xs] true 0, .arr 11 [.agg bs] true 0, .arr 11 [.agg ds] true 0] g1 (oP [.arr 11 [.agg xs] true 0, .arr 11 [.agg bs] true 0, .arr 11 [.agg ds] true 0] g2 (oP [.arr 11 [.agg xs] true 0, .arr 11 [.agg bs] true 0, .arr 11 [.agg ds] true 0] g3 (oP [.arr 11 [.agg xs] true 0, .arr 11 [.agg bs] true 0, .arr 11 [.agg ds] true 0] g4 (oP [.arr 11 [.agg xs] true 0, .arr 11 [.agg bs] true 0, .arr 11 [.agg ds] true 0] g5 (oS g6 .nil)))))))⟩
theorem cl_j_1 (rw : List HV) (st : Int) (xs bs ds : List HV) (bv : Int) (k n i : Nat) {y11 y12 : HV}(g0 : ¬ ((i : Int) < (n : Int))) : RT polCl 31 (sub [1, 1, 1, 1, 1, 0, 1, 0, 0, 1, 1, 0, 0, 0, 1, 0, 0] B31) (env31 (.imm .arg 1 rw) (.i st) (.imm .lit 1 []) (.i 0) (.i 0) (.ptr 0 0 0 1) (.ptr 1 0 0 1) (.i bv) (.ptr 2 0 0 1) y11 y12 (.i st) (.i (k : Int)) (.i (n : Int)) (.i (i : Int))) [.arr 11 [.agg xs] true 0, .arr 11 [.agg bs] true 0, .arr 11 [.agg ds] true 0] (.exit 2) (env31 (.imm .arg 1 rw) (.i st) (.imm .lit 1 []) (.i 0) (.i 0) (.ptr 0 0 0 1) (.ptr 1 0 0 1) (.i bv) (.ptr 2 0 0 1) y11 y12 (.i st) (.i (k : Int)) (.i (n : Int)) (.i (i : Int))) [.arr 11 [.agg xs] true 0, .arr 11 [.agg bs] true 0, .arr 11 [.agg ds] true 0] :=
  RunsTo.hin 0 60 [⟨10, 0, .bool false, [.arr 11 [.agg xs] true 0, .arr 11 [.agg bs] true 0, .arr 11 [.agg ds] true 0]⟩] fun kf hk => ⟨_, by kernel_rfl, (oB [.arr 11 [.agg xs] true 0, .arr 11 [.agg bs] true 0, .arr 11 [.agg ds] true 0] (decide_eq_false g0) .nil)⟩
theorem cl_k_0 (rw : List HV) (st : Int) (xs bs ds : List HV) (bv : Int) (k : Nat) {y11 y12 y46 y47 : HV} {sm : Int} {ag : List HV} (g0 : loadV Tp [.arr 11 [.agg xs] true 0, .arr 11 [.agg bs] true 0, .arr 11 [.agg ds] true 0] 66 (.ptr 0 0 0 1) = some (.agg xs)) (g1 : ∀ kf, callN Tp polCl (kf + 1) 50 [.imm .arg 1 rw, .agg xs] [.arr 11 [.agg xs] true 0, .arr 11 [.agg bs] true 0, .arr 11 [.agg ds] true 0] = some (.tuple [.i sm, .agg ag], [.arr 11 [.agg xs] true 0, .arr 11 [.agg bs] true 0, .arr 11 [.agg ds] true 0])) (g2 : storeV Tp [.arr 11 [.agg xs] true 0, .arr 11 [.agg bs] true 0, .arr 11 [.agg ds] true 0] 66 (.ptr 2 0 0 1) (.agg ag) = some [.arr 11 [.agg xs] true 0, .arr 11 [.agg bs] true 0, .arr 11 [.agg ag] true 0]) (g3 : bv < sm) (g4 : loadV Tp [.arr 11 [.agg xs] true 0, .arr 11 [.agg bs] true 0, .arr 11 [.agg ag] true 0] 66 (.ptr 0 0 0 1) = some (.agg xs)) (g5 : storeV Tp [.arr 11 [.agg xs] true 0, .arr 11 [.agg bs] true 0, .arr 11 [.agg ag] true 0] 66 (.ptr 1 0 0 1) (.agg xs) = some [.arr 11 [.agg xs] true 0, .arr 11 [.agg xs] true 0, .arr 11 [.agg ag] true 0]) : RT polCl 31 (sub [1, 1, 1, 1, 1, 0, 1, 0, 0, 1, 1, 0, 0, 1] B31) (env31 (.imm .arg 1 rw) (.i st) (.imm .lit 1 []) (.i 0) (.i 0) (.ptr 0 0 0 1) (.ptr 1 0 0 1) (.i bv) (.ptr 2 0 0 1) y11 y12 (.i st) (.i (k : Int)) y46 y47) [.arr 11 [.agg xs] true 0, .arr 11 [.agg bs] true 0, .arr 11 [.agg ds] true 0] .normal (env31 (.imm .arg 1 rw) (.i st) (.imm .lit 1 []) (.i 0) (.i 0) (.ptr 0 0 0 1) (.ptr 1 0 0 1) (.i sm) (.ptr 2 0 0 1) y11 (.i sm) (.i st) (.i (k : Int)) y46 y47) [.arr 11 [.agg xs] true 0, .arr 11 [.agg xs] true 0, .arr 11 [.agg ag] true 0] :=
  RunsTo.hin 0 60 [⟨15, 1, .agg xs, [.arr 11 [.agg xs] true 0, .arr 11 [.agg bs] true 0, .arr 11 [.agg ds] true 0]⟩, ⟨15, 2, .tuple [.i sm, .agg ag], [.arr 11 [.agg xs] true 0, .arr 11 [.agg bs] true 0, .arr 11 [.agg ds] true 0]⟩, ⟨15, 7, .tuple [], [.arr 11 [.agg xs] true 0, .arr 11 [.agg bs] true 0, .arr 11 [.agg ag] true 0]⟩, ⟨16, 2, .bool true, [.arr 11 [.agg xs] true 0, .arr 11 [.agg bs] true 0, .arr 11 [.agg ag] true 0]⟩, ⟨17, 1, .agg xs, [.arr 11 [.agg xs] true 0, .arr 11 [.agg bs] true 0, .arr 11 [.agg ag] true 0]⟩, ⟨17, 3, .tuple [], [.arr 11 [.agg xs] true 0, .arr 11 [.agg xs] true 0, .arr 11 [.agg ag] true 0]⟩] fun kf hk => ⟨_, by kernel_rfl, (oP [.arr 11 [.agg xs] true 0, .arr 11 [.agg bs] true 0, .arr 11 [.agg ds] true 0] g0 (oC (g1 kf) (oS g2 (oB [.arr 11 [.agg xs] true 0, .arr 11 [.agg bs] true 0, .arr 11 [.agg ag] true 0] (decide_eq_true g3) (oP [.arr 11 [.agg xs] true 0, .arr 11 [.agg bs] true 0, .arr 11 [.agg ag] true 0] g4 (oS g5 .nil))))))⟩
theorem cl_k_1 (rw : List HV) (st : Int) (xs bs ds : List HV) (bv : Int) (k : Nat) {y11 y12 y46 y47 : HV} {sm : Int} {ag : List HV} (g0 : loadV Tp [.arr 11 [.agg xs] true 0, .arr 11 [.agg bs] true 0, .arr 11 [.agg ds] true 0] 66 (.ptr 0 0 0 1) = some (.agg xs)) (g1 : ∀ kf, callN Tp polCl (kf + 1) 50 [.imm .arg 1 rw, .agg xs] [.arr 11 [.agg xs] true 0, .arr 11 [.agg bs] true 0, .arr 11 [.agg ds] true 0] = some (.tuple [.i sm, .agg ag], [.arr 11 [.agg xs] true 0, .arr 11 [.agg bs] true 0, .arr 11 [.agg ds] true 0])) (g2 : storeV Tp [.arr 11 [.agg xs] true 0, .arr 11 [.agg bs] true 0, .arr 11 [.agg ds] true 0] 66 (.ptr 2 0 0 1) (.agg ag) = some [.arr 11 [.agg xs] true 0, .arr 11 [.agg bs] true 0, .arr 11 [.agg ag] true 0]) (g3 : ¬ (bv < sm)) : RT polCl 31 (sub [1, 1, 1, 1, 1, 0, 1, 0, 0, 1, 1, 0, 0, 1] B31) (env31 (.imm .arg 1 rw) (.i st) (.imm .lit 1 []) (.i 0) (.i 0) (.ptr 0 0 0 1) (.ptr 1 0 0 1) (.i bv) (.ptr 2 0 0 1) y11 y12 (.i st) (.i (k : Int)) y46 y47) [.arr 11 [.agg xs] true 0, .arr 11 [.agg bs] true 0, .arr 11 [.agg ds] true 0] .normal (env31 (.imm .arg 1 rw) (.i st) (.imm .lit 1 []) (.i 0) (.i 0) (.ptr 0 0 0 1) (.ptr 1 0 0 1) (.i bv) (.ptr 2 0 0 1) y11 (.i sm) (.i st) (.i (k : Int)) y46 y47) [.arr 11 [.agg xs] true 0, .arr 11 [.agg bs] true 0, .arr 11 [.agg ag] true 0] :=
  RunsTo.hin 0 60 [⟨15, 1, .agg xs, [.arr 11 [.agg xs] true 0, .arr 11 [.agg bs] true 0, .arr 11 [.agg ds] true 0]⟩, ⟨15, 2, .tuple [.i sm, .agg ag], [.arr 11 [.agg xs] true 0, .arr 11 [.agg bs] true 0, .arr 11 [.agg ds] true 0]⟩, ⟨15, 7, .tuple [], [.arr 11 [.agg xs] true 0, .arr 11 [.agg bs] true 0, .arr 11 [.agg ag] true 0]⟩, ⟨16, 2, .bool false, [.arr 11 [.agg xs] true 0, .arr 11 [.agg bs] true 0, .arr 11 [.agg ag] true 0]⟩] fun kf hk => ⟨_, by kernel_rfl, (oP [.arr 11 [.agg xs] true 0, .arr 11 [.agg bs] true 0, .arr 11 [.agg ds] true 0] g0 (oC (g1 kf) (oS g2 (oB [.arr 11 [.agg xs] true 0, .arr 11 [.agg bs] true 0, .arr 11 [.agg ag] true 0] (decide_eq_false g3) .nil))))⟩
theorem cl_l_0 (rw : List HV) (st : Int) (xs bs ds : List HV) (bv : Int) (k : Nat) {y11 y12 y46 y47 : HV} : RT polCl 31 (sub [1, 1, 1, 1, 1, 0, 1, 0, 0, 1, 1, 1] B31) (env31 (.imm .arg 1 rw) (.i st) (.imm .lit 1 []) (.i 0) (.i 0) (.ptr 0 0 0 1) (.ptr 1 0 0 1) (.i bv) (.ptr 2 0 0 1) y11 y12 (.i st) (.i (k : Int)) y46 y47) [.arr 11 [.agg xs] true 0, .arr 11 [.agg bs] true 0, .arr 11 [.agg ds] true 0] .normal (env31 (.imm .arg 1 rw) (.i st) (.imm .lit 1 []) (.i 0) (.i 0) (.ptr 0 0 0 1) (.ptr 1 0 0 1) (.i bv) (.ptr 2 0 0 1) y11 y12 (.i st) (.i (IntKind.i64.wrap ((k : Int) + 1))) y46 y47) [.arr 11 [.agg xs] true 0, .arr 11 [.agg bs] true 0, .arr 11 [.agg ds] true 0] :=
  RunsTo.hin 0 60 [] fun kf hk => ⟨_, by kernel_rfl, .nil⟩
theorem cl_m_0 (rw : List HV) (st : Int) (xs bs ds : List HV) (bv : Int) {y11 y12 y42 y43 y46 y47 : HV} {m : Nat} {ts : List HV} (g0 : sliceV Tp 66 (.ptr 1 0 0 1) none (some (.i (rw.length : Int))) none = some (.aview 1 0 0 rw.length)) (g1 : ∀ kf, callN Tp polCl (kf + 1) 52 [.aview 1 0 0 rw.length] [.arr 11 [.agg xs] true 0, .arr 11 [.agg bs] true 0, .arr 11 [.agg ds] true 0] = some (.sl 3 0 m none m 1, [.arr 11 [.agg xs] true 0, .arr 11 [.agg bs] true 0, .arr 11 [.agg ds] true 0, .arr 1 ts true 0])) : RT polCl 31 (sub [1, 1, 1, 1, 1, 1] B31) (env31 (.imm .arg 1 rw) (.i st) (.imm .lit 1 []) (.i 0) (.i 0) (.ptr 0 0 0 1) (.ptr 1 0 0 1) (.i bv) (.ptr 2 0 0 1) y11 y12 y42 y43 y46 y47) [.arr 11 [.agg xs] true 0, .arr 11 [.agg bs] true 0, .arr 11 [.agg ds] true 0] .ret (env31 (.imm .arg 1 rw) (.i st) (.sl 3 0 m none m 1) (.i bv) (.i 0) (.ptr 0 0 0 1) (.ptr 1 0 0 1) (.i bv) (.ptr 2 0 0 1) y11 y12 y42 y43 y46 y47) [.arr 11 [.agg xs] true 0, .arr 11 [.agg bs] true 0, .arr 11 [.agg ds] true 0, .arr 1 ts true 0] :=
  RunsTo.hin 0 60 [⟨19, 2, .aview 1 0 0 rw.length, [.arr 11 [.agg xs] true 0, .arr 11 [.agg bs] true 0, .arr 11 [.agg ds] true 0]⟩, ⟨19, 3, .sl 3 0 m none m 1, [.arr 11 [.agg xs] true 0, .arr 11 [.agg bs] true 0, .arr 11 [.agg ds] true 0, .arr 1 ts true 0]⟩] fun kf hk => ⟨_, by kernel_rfl, (oP [.arr 11 [.agg xs] true 0, .arr 11 [.agg bs] true 0, .arr 11 [.agg ds] true 0] g0 (oC (g1 kf) .nil))⟩
end Go.Proofs.Ytlendaofkmhgmaa
end
section
open Go Go.HL Go.HL.So
namespace Go.Proofs.Ytlendaofkmhgmaa
open Go.Proofs.Try renaming prog → Tp
open Go.HL.HV renaming undef → Ud
theorem res31 : Try.f31.results.toList = [.tmp 4, .tmp 5, .tmp 6] := by kernel_rfl
section
variable {d : List (List Int)} {st : Int}
abbrev clE (d : List (List Int)) (st bv : Int) (v11 v12 v42 v43 v46 v47 : HV) : Env := (env31 (.imm .arg 1 (d.map encR)) (.int .i64 st) (.imm .lit 1 []) (.int .i64 0) (.int .i64 0) (.ptr 0 0 0 1) (.ptr 1 0 0 1) (.int .i64 bv) (.ptr 2 0 0 1) v11 v12 v42 v43 v46 v47)
abbrev clH (xs bs ds : List Int) : Heap := [pB xs, pB bs, pB ds]
theorem cl_in (hd : okD d) (h2 : 2 ≤ d.length) {p bs : List Int} {j : Nat} {bv : Int} (hp : PB d.length j p) (hj : j ≤ 200) {kN : Nat} : ∀ k i (u : List Int), i + k = d.length → u.length = 11 → (∀ x, x < 11 → u.getD x 0 = if x < i then (cstep d p).getD x 0 else (pad p).getD x 0) →
    ∃ y11, RT polCl 31 (sub [1, 1, 1, 1, 1, 0, 1, 0, 0, 1, 1, 0, 0, 0, 1, 0] B31) (clE d st bv Ud Ud (.int .i64 st) (.int .i64 (kN : Int)) (.int .i64 (d.length : Int)) (.int .i64 (i : Int))) (clH u bs (degs (chosen d p))) (.exit 2)
      (clE d st bv y11 Ud (.int .i64 st) (.int .i64 (kN : Int)) (.int .i64 (d.length : Int)) (.int .i64 (d.length : Int))) (clH (pad (cstep d p)) bs (degs (chosen d p))) := by
  have hdn := hd.1
  have hda := degs_at (p := p) hd h2
  intro k
  induction k with
  | zero =>
    intro i u hi hu hx
    have : i = d.length := by omega
    subst this
    have e : u = pad (cstep d p) := li_ext (by rw [hu, pad_len (by rw [cstep_len]; omega)]) fun x hxl => by
      rw [hu] at hxl
      rw [hx x hxl]
      split
      · rw [pad_get _ _ (by rw [cstep_len]; assumption)]
      · rw [pad_hi (l := p) (by rw [hp.1]; omega) hxl, pad_hi (l := cstep d p) (by rw [cstep_len]; omega) hxl]
    rw [e]
    exact ⟨_, lpo ((cl_j_1 (d.map encR) st ((pad (cstep d p)).map encI) (bs.map encI) ((degs (chosen d p)).map encI) bv kN d.length d.length (y11 := Ud) (y12 := Ud) (by omega)))⟩
  | succ k ih =>
    intro i u hi hu hx
    have hxi := hx i (by omega)
    rw [if_neg (by omega), pad_get _ _ (by rw [hp.1]; omega)] at hxi
    have b1 := hp.2 i (by omega)
    have b2 := hda.2 i (by omega)
    have w1 : IntKind.i64.wrap ((degs (chosen d p)).getD i 0 - 2) = (degs (chosen d p)).getD i 0 - 2 := wrap_id (by omega) (by omega)
    have w2 : IntKind.i64.wrap (u.getD i 0 + ((degs (chosen d p)).getD i 0 - 2)) = (cstep d p).getD i 0 := by
      rw [cstep_at (by omega), hxi]; exact wrap_id (by omega) (by omega)
    have s := cl_j_0 (d.map encR) st (u.map encI) (bs.map encI) ((degs (chosen d p)).map encI) bv kN d.length i (y11 := Ud) (y12 := Ud) (by omega) (px (H := []) (by omega)) (pl_at (H := clH u bs (degs (chosen d p))) (b := 0) rfl hu (by omega)) (px (H := []) (by omega)) (pl_at (H := clH u bs (degs (chosen d p))) (b := 2) rfl hda.1 (by omega)) (px (H := []) (by omega))
      (by rw [w1, w2]; exact pst (H := clH u bs (degs (chosen d p))) (b := 0) (i := i) rfl hu (by omega) _)
    rw [wrap_succ (by omega)] at s
    obtain ⟨y11, r⟩ := ih (i + 1) (u.set i ((cstep d p).getD i 0)) (by omega) (by simpa using hu) (fun x hxl => by
      rw [getDs _ _ _ _ (by omega)]
      by_cases e : i = x
      · subst e; rw [if_pos rfl, if_pos (by omega)]
      · rw [if_neg e, hx x hxl]
        by_cases c : x < i
        · rw [if_pos c, if_pos (by omega)]
        · rw [if_neg c, if_neg (by omega)])
    exact ⟨y11, lop (s) (gc_eq _ rfl) (r)⟩
theorem cl_out (hd : okD d) (h2 : 2 ≤ d.length) {s : Nat} (hs : s ≤ 100) : ∀ k i (p b : List Int) (v : Int), i + k = s → PB d.length i p → b.length = d.length →
    ∃ y11 y12 y42 y43 y46 y47 xs ds, RT polCl 31 (sub [1, 1, 1, 1, 1, 0, 1, 0] B31) (clE d (s : Int) v Ud Ud (.int .i64 (s : Int)) (.int .i64 (i : Int)) Ud Ud) (clH (pad p) (pad b) (degs (chosen d p))) (.exit 0)
      (clE d (s : Int) (clim d k p b v).2 y11 y12 y42 y43 y46 y47) (clH xs (pad (clim d k p b v).1) ds) := by
  have hdn := hd.1
  intro k
  induction k with
  | zero =>
    intro i p b v hi hp hb
    have : i = s := by omega
    subst this
    have s1 := cl_g_1 (d.map encR) (i : Int) ((pad p).map encI) ((pad b).map encI) ((degs (chosen d p)).map encI) v i (y11 := Ud) (y12 := Ud) (y46 := Ud) (y47 := Ud) (by omega)
    have s2 := cl_hf_0 (d.map encR) (i : Int) ((pad p).map encI) ((pad b).map encI) ((degs (chosen d p)).map encI) v i (y11 := Ud) (y12 := Ud) (y46 := Ud) (y47 := Ud)
    exact ⟨_, _, _, _, _, _, _, _, lpo (sq (s1) (sqo (s2) (c := sub [1, 1, 1, 1, 1, 0, 1, 0, 0, 1] B31) (b := sub [1, 1, 1, 1, 1, 0, 1, 0, 0, 1, 1] B31)) (c := sub [1, 1, 1, 1, 1, 0, 1, 0, 0] B31))⟩
  | succ k ih =>
    intro i p b v hi hp hb
    have hda := degs_at (p := p) hd h2
    have hp' := hp.step hd h2
    have s1 := cl_g_0 (d.map encR) (s : Int) ((pad p).map encI) ((pad b).map encI) ((degs (chosen d p)).map encI) v i (y11 := Ud) (y12 := Ud) (y46 := Ud) (y47 := Ud) (by omega)
    have s2 := cl_ht_0 (d.map encR) (s : Int) ((pad p).map encI) ((pad b).map encI) ((degs (chosen d p)).map encI) v i (y11 := Ud) (y12 := Ud) (y46 := Ud) (y47 := Ud)
    have s3 := cl_i_0 (d.map encR) (s : Int) ((pad p).map encI) ((pad b).map encI) ((degs (chosen d p)).map encI) v i (y11 := Ud) (y12 := Ud) (y46 := Ud) (y47 := Ud)
    rw [List.length_map] at s3
    obtain ⟨z11, r0⟩ := cl_in (st := (s : Int)) (bs := pad b) (bv := v) (kN := i) hd h2 hp (by omega) d.length 0 (pad p) (by omega) (pad_len (by rw [hp.1]; omega)) (fun x hx => by rw [if_neg (by omega)])
    have hq := q50 (pol' := polCl) (by kernel_rfl) hd (pad_small (l := cstep d p) (by rw [cstep_len]; omega) (hp'.ok (by omega))) (clH (pad (cstep d p)) (pad b) (degs (chosen d p))) (arg_rw _ d)
    rw [bnd_pad (by omega) (cstep_len d p), chosen_cong (p := pad (cstep d p)) (p' := cstep d p) (by omega) (fun a ha => pad_get _ a (by rw [cstep_len]; exact ha))] at hq
    have hl11 : (pad (cstep d p)).length = 11 := pad_len (by rw [cstep_len]; omega)
    have hl11' : (pad b).length = 11 := pad_len (by omega)
    have hda' := degs_at (p := cstep d p) hd h2
    rw [clim]
    by_cases c : v < boundS d (cstep d p)
    · have s4 := cl_k_0 (d.map encR) (s : Int) ((pad (cstep d p)).map encI) ((pad b).map encI) ((degs (chosen d p)).map encI) v i (y12 := Ud) (y11 := z11) (y46 := .int .i64 (d.length : Int)) (y47 := .int .i64 (d.length : Int)) (pl_all (b := 0) rfl hl11) hq (pst_all (H := clH (pad (cstep d p)) (pad b) (degs (chosen d p))) (b := 2) (t := degs (chosen d p)) rfl hda.1 hda'.1) c (pl_all (H := clH (pad (cstep d p)) (pad b) (degs (chosen d (cstep d p)))) (b := 0) rfl hl11) (pst_all (H := clH (pad (cstep d p)) (pad b) (degs (chosen d (cstep d p)))) (b := 1) (t := pad b) rfl hl11' hl11)
      have s5 := cl_l_0 (d.map encR) (s : Int) ((pad (cstep d p)).map encI) ((pad (cstep d p)).map encI) ((degs (chosen d (cstep d p))).map encI) (boundS d (cstep d p)) i (y11 := z11) (y12 := .int .i64 (boundS d (cstep d p))) (y46 := .int .i64 (d.length : Int)) (y47 := .int .i64 (d.length : Int))
      rw [wrap_succ (by omega)] at s5
      obtain ⟨y11, y12, y42, y43, y46, y47, xs, ds, r⟩ := ih (i + 1) (cstep d p) (cstep d p) (boundS d (cstep d p)) (by omega) hp' (cstep_len d p)
      rw [if_pos c, if_pos c]
      exact ⟨y11, y12, y42, y43, y46, y47, xs, ds, lop (sq (s1) (sq (s2) (sq (RunsTo.block_normal (i := 1) (c := sub [1, 1, 1, 1, 1, 0, 1, 0, 0, 1, 1, 0] B31) (sq (sq (s3) (bke (c := sub [1, 1, 1, 1, 1, 0, 1, 0, 0, 1, 1, 0, 0, 0, 1] B31) (lpi (e0 := (clE d (s : Int) v Ud Ud (.int .i64 (s : Int)) (.int .i64 (i : Int)) (.int .i64 (d.length : Int)) (.int .i64 ((0 : Nat) : Int)))) r0 (b := sub [1, 1, 1, 1, 1, 0, 1, 0, 0, 1, 1, 0, 0, 0, 1, 0, 0] B31))) (c := sub [1, 1, 1, 1, 1, 0, 1, 0, 0, 1, 1, 0, 0, 0] B31)) (s4) (c := sub [1, 1, 1, 1, 1, 0, 1, 0, 0, 1, 1, 0, 0] B31)) (by kernel_rfl)) (s5) (c := sub [1, 1, 1, 1, 1, 0, 1, 0, 0, 1, 1] B31)) (c := sub [1, 1, 1, 1, 1, 0, 1, 0, 0, 1] B31)) (c := sub [1, 1, 1, 1, 1, 0, 1, 0, 0] B31)) (gc_eq _ rfl) (r)⟩
    · have s4 := cl_k_1 (d.map encR) (s : Int) ((pad (cstep d p)).map encI) ((pad b).map encI) ((degs (chosen d p)).map encI) v i (y12 := Ud) (y11 := z11) (y46 := .int .i64 (d.length : Int)) (y47 := .int .i64 (d.length : Int)) (pl_all (b := 0) rfl hl11) hq (pst_all (H := clH (pad (cstep d p)) (pad b) (degs (chosen d p))) (b := 2) (t := degs (chosen d p)) rfl hda.1 hda'.1) c
      have s5 := cl_l_0 (d.map encR) (s : Int) ((pad (cstep d p)).map encI) ((pad b).map encI) ((degs (chosen d (cstep d p))).map encI) v i (y11 := z11) (y12 := .int .i64 (boundS d (cstep d p))) (y46 := .int .i64 (d.length : Int)) (y47 := .int .i64 (d.length : Int))
      rw [wrap_succ (by omega)] at s5
      obtain ⟨y11, y12, y42, y43, y46, y47, xs, ds, r⟩ := ih (i + 1) (cstep d p) b v (by omega) hp' hb
      rw [if_neg c, if_neg c]
      exact ⟨y11, y12, y42, y43, y46, y47, xs, ds, lop (sq (s1) (sq (s2) (sq (RunsTo.block_normal (i := 1) (c := sub [1, 1, 1, 1, 1, 0, 1, 0, 0, 1, 1, 0] B31) (sq (sq (s3) (bke (c := sub [1, 1, 1, 1, 1, 0, 1, 0, 0, 1, 1, 0, 0, 0, 1] B31) (lpi (e0 := (clE d (s : Int) v Ud Ud (.int .i64 (s : Int)) (.int .i64 (i : Int)) (.int .i64 (d.length : Int)) (.int .i64 ((0 : Nat) : Int)))) r0 (b := sub [1, 1, 1, 1, 1, 0, 1, 0, 0, 1, 1, 0, 0, 0, 1, 0, 0] B31))) (c := sub [1, 1, 1, 1, 1, 0, 1, 0, 0, 1, 1, 0, 0, 0] B31)) (s4) (c := sub [1, 1, 1, 1, 1, 0, 1, 0, 0, 1, 1, 0, 0] B31)) (by kernel_rfl)) (s5) (c := sub [1, 1, 1, 1, 1, 0, 1, 0, 0, 1, 1] B31)) (c := sub [1, 1, 1, 1, 1, 0, 1, 0, 0, 1] B31)) (c := sub [1, 1, 1, 1, 1, 0, 1, 0, 0] B31)) (gc_eq _ rfl) (r)⟩
end
theorem slArr {n : Nat} (h : n ≤ 11) {b : Nat} : sliceV Tp 66 (.ptr b 0 0 1) none (some (.int .i64 (n : Int))) none = some (.aview b 0 0 n) := by
  have e : boundV (some (.int .i64 (n : Int))) = some (some n) := by
    show (if (0 : Int) ≤ (n : Int) then some (some ((n : Int)).toNat) else none) = _
    rw [if_pos (by omega), Int.toNat_natCast]
  have ha : tyAgg Tp 3 = false := by kernel_rfl
  simp only [sliceV, e, boundV, u66, z3]
  simp [h, ha]
theorem arg_av {H : Heap} {b n : Nat} {u : List Int} (hb : H[b]? = some (pB u)) (hn : n ≤ u.length) : toArg H 6 (.aview b 0 0 n) = some (.imm .arg 1 ((u.take n).map encI)) := by
  have hm : mapO (toArg H 5) ((u.take n).map encI) = some ((u.take n).map encI) := mapO_self (f := toArg H 5) (g := encI) (fun _ => rfl) _
  have e : ∀ B, H[b]? = B → toArg H 6 (.aview b 0 0 n) = (match B with | some (.arr _ els _ _) => (match els[0]? with | some (HV.agg cs) => if els.length = 1 ∧ 0 + n ≤ cs.length then (match mapO (toArg H 5) ((cs.drop 0).take n) with | some l => some (HV.imm .arg 1 l) | none => none) else none | _ => none) | _ => none) := fun B hB => by subst hB; rfl
  rw [e _ hb]
  show (if [HV.agg (u.map encI)].length = 1 ∧ 0 + n ≤ (u.map encI).length then (match mapO (toArg H 5) (((u.map encI).drop 0).take n) with | some l => some (HV.imm .arg 1 l) | none => none) else none) = _
  rw [if_pos ⟨rfl, by rw [List.length_map]; omega⟩, List.drop_zero, ← List.map_take, hm]
theorem q52a {pol' : Pol} (hp : pol'.prim 52 = some clone52) {H : Heap} {b n : Nat} {u : List Int} (hb : H[b]? = some (pB u)) (hn : n ≤ u.length) (hu : u.length ≤ 1000) (h0 : 1 ≤ n) :
    ∀ kf, callN Tp pol' (kf + 1) 52 [.aview b 0 0 n] H = some (.sl H.length 0 n none n 1, H ++ [bI (u.take n)]) := fun kf => by
  have hl : (u.take n).length = n := by rw [List.length_take]; omega
  rw [prim_call (pol := pol') (g := 52) (F := clone52) hp (rs := [.imm .arg 1 ((u.take n).map encI)]) (by simp only [mapO, arg_av hb hn]) (res := .own 1 ((u.take n).map encI)) (by simp only [clone52, liF, mapO_map decI_enc]; rw [if_pos (by omega)]), recv_ints, hl]
theorem pad_take {n : Nat} {l : List Int} (h : l.length = n) : (pad l).take n = l := by rw [pad, ← h, List.take_left]
open Classical in
theorem climb_ok : PrimOk Tp 31 climb31 := by
  refine primOk_pure (pol := polCl) (fn := Try.f31) (cd := B31) follows_mixed soundCl (by kernel_rfl) (by kernel_rfl) (fnok polCl.prim _ _ (by kernel_rfl)) (by kernel_rfl) ?_
  intro args res h
  obtain ⟨d, s0, rfl, hq⟩ := riF_inv h
  clear h
  split at hq
  case isFalse => cases hq
  rename_i hc
  cases hq
  have a := cl_a_0 (d.map encR) s0
  have bad : ∀ (E : Env) (Hd : Heap), RT polCl 31 (sub [1, 0] B31) (env31 (.imm .arg 1 (d.map encR)) (.int .i64 s0) (.imm .lit 1 []) (.int .i64 0) (.int .i64 0) Ud Ud Ud Ud Ud Ud Ud Ud Ud Ud) [] .ret E Hd → E.get 4 = .imm .lit 1 [] → E.get 5 = .int .i64 0 → E.get 6 = .int .i64 2 → ¬ (okD d ∧ 0 ≤ s0 ∧ s0 ≤ 100) →
      ∃ x E H' v, RT polCl 31 B31 (args0 [.imm .arg 1 (d.map encR), .int .i64 s0]) [] x E H' ∧ (∀ i, x ≠ .exit i) ∧ resultsV Tp Try.f31 E H' = some v ∧ toRes H' (polCl.deep 31) v = some (if okD d ∧ 0 ≤ s0 ∧ s0 ≤ 100 then .tuple [.own 1 ((climT d s0.toNat).1.map encI), .int .i64 (climT d s0.toNat).2, .int .i64 0] else .tuple [.own 1 [], .int .i64 0, .int .i64 2]) := by
    intro E Hd t h4 h5 h6 hn
    rw [if_neg hn]
    exact ⟨_, _, _, .tuple [.imm .lit 1 [], .int .i64 0, .int .i64 2], sq (a) (sqo (t) (c := sub [1] B31) (b := sub [1, 1] B31)) (c := B31), by simp, by simp only [resultsV, res31, mapO, resultV, h4, h5, h6], rfl⟩
  by_cases c1 : okD d
  · have hdn := c1.1
    have m1 := prim_miles (pol' := polCl) (by kernel_rfl) hc.1 hc.2 [] true (okB_true c1)
    by_cases c2 : 0 ≤ s0 ∧ s0 ≤ 100
    · rw [if_pos ⟨c1, c2⟩]
      obtain ⟨s, rfl⟩ : ∃ x : Nat, s0 = (x : Int) := ⟨s0.toNat, by omega⟩
      rw [Int.toNat_natCast]
      have b := cl_b_0 (d.map encR) (s : Int) (y7 := Ud) (y8 := Ud) (y9 := Ud) (y10 := Ud) (y11 := Ud) (y12 := Ud) (y42 := Ud) (y43 := Ud) (y46 := Ud) (y47 := Ud) m1 c2
      by_cases c3 : d.length < 3
      · have mk := makeV_ok (P := Tp) (H := []) (t := 23) (e := 3) (k := 1) (bt := 8) (zv := .int .i64 0) (n := (d.length : Int)) u23 (by kernel_rfl) (by simp [cellsOf, cellV]) (by simp [cellsOf]) (by omega) (by omega) (by simp only [roomMax]; omega)
        rw [Int.toNat_natCast] at mk
        have hrep : List.replicate d.length (HV.int .i64 0) = (zer d.length).map encI := by simp [encI, zer]
        have e1 : IntKind.i64.wrap (((d.map encR).length : Int) - 1) = ((d.length - 1 : Nat) : Int) := by rw [List.length_map, wrap_pred (by omega) (by omega)]
        have b1 := c1.at (i := 0) (j := d.length - 1) (by omega) (by omega)
        have c := cl_c_0 (d.map encR) (s : Int) (y7 := Ud) (y8 := Ud) (y9 := Ud) (y10 := Ud) (y11 := Ud) (y12 := Ud) (y42 := Ud) (y43 := Ud) (y46 := Ud) (y47 := Ud) (by rw [List.length_map]; omega) (by rw [List.length_map]; exact mk) (g22' (d := d) (v := 0) (by omega)) (by rw [e1]; exact g23' c1 (by omega) (by omega)) (by
          rw [List.length_map, hrep]
          have := same_bI (zer d.length)
          simp only [bI] at this
          simp only [same, same_li, this, sameH, beq_self_eq_true, Bool.and_self])
        rw [wrap_id (by omega) (by omega), List.length_map, hrep] at c
        have t := sq (a) (sq (b) (sqo (c) (c := sub [1, 1] B31) (b := sub [1, 1, 1] B31)) (c := sub [1] B31)) (c := B31)
        have e : climT d s = (zer d.length, 2 * at2 d 0 (d.length - 1)) := by
          unfold climT
          rw [if_pos c3]
          unfold bndT
          rw [if_pos c3]
        rw [e]
        exact ⟨_, _, _, .tuple [.sl 0 0 d.length (some d.length) d.length 1, .int .i64 (2 * at2 d 0 (d.length - 1)), .int .i64 0], t, by simp, by simp only [resultsV, res31]; rfl, toRes_li2 (b := 0) (o := zer d.length) rfl (by simp [zer]) _ 0⟩
      · have c := cl_c_1 (d.map encR) (s : Int) (y7 := Ud) (y8 := Ud) (y9 := Ud) (y10 := Ud) (y11 := Ud) (y12 := Ud) (y42 := Ud) (y43 := Ud) (y46 := Ud) (y47 := Ud) (by rw [List.length_map]; omega)
        have dd := cl_d_0 (d.map encR) (s : Int) (y7 := Ud) (y8 := Ud) (y9 := Ud) (y10 := Ud) (y11 := Ud) (y12 := Ud) (y42 := Ud) (y43 := Ud) (y46 := Ud) (y47 := Ud)
        have hz := pad_zer (n := d.length) hdn.2
        have hzl : (zer d.length).length = d.length := by simp [zer]
        have hq := q50 (pol' := polCl) (by kernel_rfl) c1 (ps := List.replicate 11 0) ⟨rfl, fun x hx => by have := (List.mem_replicate.1 hx).2; omega⟩ [pB (List.replicate 11 0), pB (List.replicate 11 0)] (arg_rw _ d)
        have hb := bnd_pad (d := d) (p := zer d.length) (by omega) hzl
        have hch := chosen_cong (d := d) (p := pad (zer d.length)) (p' := zer d.length) (by omega) (fun a ha => pad_get _ a (by rw [hzl]; exact ha))
        rw [hz] at hb hch
        rw [hb, hch] at hq
        have hda := degs_at (p := zer d.length) c1 (by omega)
        have e := cl_e_0 (d.map encR) (s : Int) (y9 := Ud) (y10 := Ud) (y11 := Ud) (y12 := Ud) (y42 := Ud) (y43 := Ud) (y46 := Ud) (y47 := Ud) hq (pst_all (H := [pB (List.replicate 11 0), pB (List.replicate 11 0), pB (List.replicate 11 0)]) (b := 2) (t := List.replicate 11 0) rfl rfl hda.1)
        have f := cl_f_0 (d.map encR) (s : Int) ((List.replicate 11 (0 : Int)).map encI) ((List.replicate 11 (0 : Int)).map encI) ((degs (chosen d (zer d.length))).map encI) (boundS d (zer d.length)) (y11 := Ud) (y12 := Ud) (y42 := Ud) (y43 := Ud) (y46 := Ud) (y47 := Ud)
        obtain ⟨y11, y12, y42, y43, y46, y47, xs, ds, r⟩ := cl_out (s := s) c1 (by omega) (by omega) s 0 (zer d.length) (zer d.length) (boundS d (zer d.length)) (by omega) (PB.zero _) hzl
        rw [hz] at r
        have hcl := clim_len (d := d) s (zer d.length) (zer d.length) (boundS d (zer d.length)) hzl
        have ht : climT d s = clim d s (zer d.length) (zer d.length) (boundS d (zer d.length)) := by
          unfold climT
          rw [if_neg c3, bndT_eq c3 hzl]
        rw [ht]
        generalize clim d s (zer d.length) (zer d.length) (boundS d (zer d.length)) = w at r hcl ⊢
        have hpl : (pad w.1).length = 11 := pad_len (by omega)
        have k52 := q52a (pol' := polCl) (by kernel_rfl) (H := clH xs (pad w.1) ds) (b := 1) (n := d.length) (u := pad w.1) rfl (by omega) (by omega) (by omega)
        rw [pad_take hcl] at k52
        have m := cl_m_0 (d.map encR) (s : Int) (xs.map encI) ((pad w.1).map encI) (ds.map encI) w.2 (y11 := y11) (y12 := y12) (y42 := y42) (y43 := y43) (y46 := y46) (y47 := y47) (by rw [List.length_map]; exact slArr hdn.2) (by rw [List.length_map]; exact k52)
        have t := sq (a) (sq (b) (sq (c) (sq (dd) (sq (e) (sq (sq (f) (bke (c := sub [1, 1, 1, 1, 1, 0, 1] B31) (lpi (e0 := (clE d (s : Int) (boundS d (zer d.length)) Ud Ud (.int .i64 (s : Int)) (.int .i64 ((0 : Nat) : Int)) Ud Ud)) r (b := sub [1, 1, 1, 1, 1, 0, 1, 0, 0] B31))) (c := sub [1, 1, 1, 1, 1, 0] B31)) (m) (c := sub [1, 1, 1, 1, 1] B31)) (c := sub [1, 1, 1, 1] B31)) (c := sub [1, 1, 1] B31)) (c := sub [1, 1] B31)) (c := sub [1] B31)) (c := B31)
        exact ⟨_, _, _, .tuple [.sl 3 0 d.length none d.length 1, .int .i64 w.2, .int .i64 0], t, by simp, by simp only [resultsV, res31]; rfl, toRes_li2 (b := 3) (o := w.1) rfl hcl _ 0⟩
    · exact bad _ _ (cl_b_1 (d.map encR) s0 (y7 := Ud) (y8 := Ud) (y9 := Ud) (y10 := Ud) (y11 := Ud) (y12 := Ud) (y42 := Ud) (y43 := Ud) (y46 := Ud) (y47 := Ud) m1 c2) rfl rfl rfl (fun h => c2 h.2)
  · have m1 := prim_miles (pol' := polCl) (by kernel_rfl) hc.1 hc.2 [] false (okB_false c1)
    exact bad _ _ (cl_b_2 (d.map encR) s0 (y7 := Ud) (y8 := Ud) (y9 := Ud) (y10 := Ud) (y11 := Ud) (y12 := Ud) (y42 := Ud) (y43 := Ud) (y46 := Ud) (y47 := Ud) m1) rfl rfl rfl (fun h => c1 h.1)
end Go.Proofs.Ytlendaofkmhgmaa
end
section
open Go Go.HL
namespace Go.Proofs.Ytlendaofkmhgmaa
def clm (mo x : Int) : Int := if x < 0 ∨ mo < x then modW x (mo + 1) else x
def tmX (R : List (List Int)) (mo : Int) (i k : Nat) : Int := clm mo (if i < R.length ∧ k < (R.getD i []).length then at2 R i k else 1)
def mat (n : Nat) (f : Nat → Nat → Int) : List (List Int) := (List.range n).map fun a => (List.range n).map (f a)
def tameF (R : List (List Int)) (mo : Int) (a b : Nat) : Int := if a = b then 0 else if a < b then tmX R mo a b else tmX R mo b a
def tameL (R : List (List Int)) (n : Nat) (mo : Int) : List (List Int) := mat n (tameF R mo)
def nmF (f : List (List Int) → Int → Int → Option HV) : List HV → Option HV
  | [.imm .arg 1 rw, .int .i64 n, .int .i64 mo] => (match mapO decR rw with | some R => f R n mo | none => none)
  | _ => none
theorem nmF_inv {f : List (List Int) → Int → Int → Option HV} {args : List HV} {res : HV} (h : nmF f args = some res) : ∃ R n mo, args = [.imm .arg 1 (R.map encR), .int .i64 n, .int .i64 mo] ∧ f R n mo = some res := by
  unfold nmF at h
  split at h
  · rename_i rw n mo
    split at h
    · rename_i R hR
      exact ⟨R, n, mo, by rw [mapO_inv decR_inv hR], h⟩
    · cases h
  · cases h
def tame28 : List HV → Option HV := nmF fun R n mo => if (1 ≤ n ∧ n ≤ 12) ∧ 0 ≤ mo ∧ mo ≤ 1000000 then some (.own 1 ((tameL R n.toNat mo).map encO)) else none
theorem mat_len (n : Nat) (f : Nat → Nat → Int) : (mat n f).length = n := by simp [mat]
theorem mat_row {n : Nat} {f : Nat → Nat → Int} {a : Nat} (ha : a < n) : (mat n f).getD a [] = (List.range n).map (f a) := by
  simp [mat, List.getD, List.getElem?_map, List.getElem?_range ha]
theorem row_at {n : Nat} {g : Nat → Int} {b : Nat} (hb : b < n) : ((List.range n).map g).getD b 0 = g b := by
  simp [List.getD, List.getElem?_map, List.getElem?_range hb]
theorem mat_at {n : Nat} {f : Nat → Nat → Int} {a b : Nat} (ha : a < n) (hb : b < n) : at2 (mat n f) a b = f a b := by
  unfold at2
  rw [mat_row ha, row_at hb]
theorem row_set {n : Nat} {g : Nat → Int} {k : Nat} {x : Int} : ((List.range n).map g).set k x = (List.range n).map fun b => if b = k then x else g b := by
  apply List.ext_getElem?
  intro i
  rw [List.getElem?_set, List.length_map, List.length_range]
  by_cases e : k = i
  · subst e
    rw [if_pos rfl]
    by_cases h : k < n
    · rw [if_pos h, List.getElem?_map, List.getElem?_range h]; simp
    · rw [if_neg h, List.getElem?_eq_none (by simp; omega)]
  · rw [if_neg e, List.getElem?_map, List.getElem?_map]
    by_cases h : i < n
    · rw [List.getElem?_range h]; simp; intro h2; exact absurd h2.symm e
    · rw [List.getElem?_eq_none (by simp; omega)]; rfl
theorem row_congr {n : Nat} {g h : Nat → Int} (e : ∀ b, b < n → g b = h b) : (List.range n).map g = (List.range n).map h := List.map_congr_left fun b hb => e b (List.mem_range.1 hb)
theorem clm_bnd {mo : Int} (h : 0 ≤ mo ∧ mo ≤ 1000000) (x : Int) : 0 ≤ clm mo x ∧ clm mo x ≤ mo := by
  unfold clm
  split
  · have := modW_bounds x (mo + 1) (by omega) (by omega)
    omega
  · omega
theorem tmX_bnd {R : List (List Int)} {mo : Int} (h : 0 ≤ mo ∧ mo ≤ 1000000) (i k : Nat) : 0 ≤ tmX R mo i k ∧ tmX R mo i k ≤ mo := clm_bnd h _
theorem tame_okD {R : List (List Int)} {n : Nat} {mo : Int} (hn : 1 ≤ n ∧ n ≤ 11) (h : 0 ≤ mo ∧ mo ≤ 1000) : okD (tameL R n mo) := by
  have hl : (tameL R n mo).length = n := mat_len _ _
  refine ⟨by rw [hl]; exact hn, fun i hi => ?_, fun i hi j hj => ?_⟩
  · rw [hl] at hi ⊢
    rw [tameL, mat_row hi]; simp
  · rw [hl] at hi hj
    rw [tameL, mat_at hi hj, mat_at hj hi]
    refine ⟨?_, ?_, ?_⟩
    · unfold tameF
      split
      · omega
      · have h1 := tmX_bnd (R := R) (mo := mo) (by omega) i j
        have h2 := tmX_bnd (R := R) (mo := mo) (by omega) j i
        split <;> omega
    · unfold tameF
      by_cases e : i = j
      · subst e; rfl
      · rw [if_neg e, if_neg (fun h : j = i => e h.symm)]
        by_cases c : i < j
        · rw [if_pos c, if_neg (by omega)]
        · rw [if_neg c, if_pos (by omega)]
    · rintro rfl; simp [tameF]
def polA : Pol := { pol with prim := fun g => if g == 27 then some modF else none, freeze := fun g _ => !(g == 28) }
end Go.Proofs.Ytlendaofkmhgmaa
end
section
open Go Go.HL
namespace Go.Proofs.Ytlendaofkmhgmaa
set_option maxRecDepth 100000
open Go.Proofs.Try renaming prog → Tp
open Go.HL.HV renaming undef → Ud
noncomputable def B28 : Code := Try.f28.body.getD .skip
abbrev env28 (v0 v1 v2 v6 v7 v8 v9 v10 v11 v12 v13 : HV) : Env := [(0, v0), (1, v1), (2, v2), (6, v6), (7, v7), (8, v8), (9, v9), (10, v10), (11, v11), (12, v12), (13, v13)]
theorem tm_a_0 (rw : List HV) (n : Nat) (mo : Int) (H : Heap) : RT polA 28 (sub [0] B28) [(0, .imm .arg 1 rw), (1, .i (n : Int)), (2, .i mo)] H .normal (env28 (.imm .arg 1 rw) (.i (n : Int)) (.i mo) (.imm .lit 1 []) Ud Ud Ud Ud Ud Ud Ud) H :=
  RunsTo.hin 0 60 [] fun kf hk => ⟨_, by kernel_rfl, .nil⟩
theorem tm_b_0 (rw : List HV) (n : Nat) (mo : Int) (H : Heap) (H0 : Heap) (g0 : some (HV.sl H.length 0 0 none 0 1, H ++ [Blk.arr 1 [] true 0]) = some (.sl 0 0 0 none 0 1, H0)) : RT polA 28 (sub [1, 0] B28) (env28 (.imm .arg 1 rw) (.i (n : Int)) (.i mo) (.imm .lit 1 []) Ud Ud Ud Ud Ud Ud Ud) H .normal (env28 (.imm .arg 1 rw) (.i (n : Int)) (.i mo) (.imm .lit 1 []) (.sl 0 0 0 none 0 1) Ud Ud Ud Ud Ud Ud) H0 :=
  RunsTo.hin 0 60 [⟨1, 0, .sl 0 0 0 none 0 1, H0⟩] fun kf hk => ⟨_, by kernel_rfl, (oC (g0) .nil)⟩
theorem tm_c_0 (rw : List HV) (n : Nat) (mo : Int) (H : Heap) : RT polA 28 (sub [1, 1, 0, 0] B28) (env28 (.imm .arg 1 rw) (.i (n : Int)) (.i mo) (.imm .lit 1 []) (.sl 0 0 0 none 0 1) Ud Ud Ud Ud Ud Ud) H .normal (env28 (.imm .arg 1 rw) (.i (n : Int)) (.i mo) (.imm .lit 1 []) (.sl 0 0 0 none 0 1) (.i 0) Ud Ud Ud Ud Ud) H :=
  RunsTo.hin 0 60 [] fun kf hk => ⟨_, by kernel_rfl, .nil⟩
theorem tm_l_0 (rw : List HV) (n : Nat) (mo : Int) (i rb lb : Nat) (H : Heap) (H0 : Heap) (H1 : Heap) (H2 : Heap) (g0 : (i : Int) < (n : Int)) (g1 : makeV Tp false 23 (.i (n : Int)) (.i (n : Int)) H = some (.sl rb 0 n (some n) n 1, H0)) (g2 : litV Tp false false 22 1 [(0, .sl rb 0 n (some n) n 1)] H0 = some (.sl lb 0 1 (some 1) 1 1, H1)) (g3 : builtinV Tp .append [22, 22] [.sl 0 0 i none i 1, .sl lb 0 1 (some 1) 1 1] H1 = some (.sl 0 0 (i + 1) none (i + 1) 1, H2)) : RT polA 28 (sub [1, 1, 0, 1, 0, 0] B28) (env28 (.imm .arg 1 rw) (.i (n : Int)) (.i mo) (.imm .lit 1 []) (.sl 0 0 i none i 1) (.i (i : Int)) Ud Ud Ud Ud Ud) H .normal (env28 (.imm .arg 1 rw) (.i (n : Int)) (.i mo) (.imm .lit 1 []) (.sl 0 0 (i + 1) none (i + 1) 1) (.i (IntKind.i64.wrap ((i : Int) + 1))) Ud Ud Ud Ud Ud) H2 :=
  RunsTo.hin 0 60 [⟨3, 2, .bool true, H⟩, ⟨5, 2, .sl rb 0 n (some n) n 1, H0⟩, ⟨5, 3, .sl lb 0 1 (some 1) 1 1, H1⟩, ⟨5, 4, .sl 0 0 (i + 1) none (i + 1) 1, H2⟩] fun kf hk => ⟨_, by kernel_rfl, (oB H (decide_eq_true g0) (oC (g1) (oC (g2) (oC (g3) .nil))))⟩
theorem tm_l_1 (rw : List HV) (n : Nat) (mo : Int) (i rb lb : Nat) (H : Heap)(g0 : ¬ ((i : Int) < (n : Int))) : RT polA 28 (sub [1, 1, 0, 1, 0, 0] B28) (env28 (.imm .arg 1 rw) (.i (n : Int)) (.i mo) (.imm .lit 1 []) (.sl 0 0 i none i 1) (.i (i : Int)) Ud Ud Ud Ud Ud) H (.exit 0) (env28 (.imm .arg 1 rw) (.i (n : Int)) (.i mo) (.imm .lit 1 []) (.sl 0 0 i none i 1) (.i (i : Int)) Ud Ud Ud Ud Ud) H :=
  RunsTo.hin 0 60 [⟨3, 2, .bool false, H⟩] fun kf hk => ⟨_, by kernel_rfl, (oB H (decide_eq_false g0) .nil)⟩
theorem tm_d_0 (rw : List HV) (n : Nat) (mo : Int) (y8 : HV) (H : Heap) : RT polA 28 (sub [1, 1, 1, 0, 0] B28) (env28 (.imm .arg 1 rw) (.i (n : Int)) (.i mo) (.imm .lit 1 []) (.sl 0 0 n none n 1) y8 Ud Ud Ud Ud Ud) H .normal (env28 (.imm .arg 1 rw) (.i (n : Int)) (.i mo) (.imm .lit 1 []) (.sl 0 0 n none n 1) y8 (.i 0) Ud Ud Ud Ud) H :=
  RunsTo.hin 0 60 [] fun kf hk => ⟨_, by kernel_rfl, .nil⟩
theorem tm_e_0 (rw : List HV) (n : Nat) (mo : Int) (y8 : HV) (i : Nat) (H : Heap)(g0 : (i : Int) < (n : Int)) : RT polA 28 (sub [1, 1, 1, 0, 1, 0, 0, 0] B28) (env28 (.imm .arg 1 rw) (.i (n : Int)) (.i mo) (.imm .lit 1 []) (.sl 0 0 n none n 1) y8 (.i (i : Int)) Ud Ud Ud Ud) H .normal (env28 (.imm .arg 1 rw) (.i (n : Int)) (.i mo) (.imm .lit 1 []) (.sl 0 0 n none n 1) y8 (.i (i : Int)) Ud Ud Ud Ud) H :=
  RunsTo.hin 0 60 [⟨7, 2, .bool true, H⟩] fun kf hk => ⟨_, by kernel_rfl, (oB H (decide_eq_true g0) .nil)⟩
theorem tm_e_1 (rw : List HV) (n : Nat) (mo : Int) (y8 : HV) (i : Nat) (H : Heap)(g0 : ¬ ((i : Int) < (n : Int))) : RT polA 28 (sub [1, 1, 1, 0, 1, 0, 0, 0] B28) (env28 (.imm .arg 1 rw) (.i (n : Int)) (.i mo) (.imm .lit 1 []) (.sl 0 0 n none n 1) y8 (.i (i : Int)) Ud Ud Ud Ud) H (.exit 2) (env28 (.imm .arg 1 rw) (.i (n : Int)) (.i mo) (.imm .lit 1 []) (.sl 0 0 n none n 1) y8 (.i (i : Int)) Ud Ud Ud Ud) H :=
  RunsTo.hin 0 60 [⟨7, 2, .bool false, H⟩] fun kf hk => ⟨_, by kernel_rfl, (oB H (decide_eq_false g0) .nil)⟩
theorem tm_f_0 (rw : List HV) (n : Nat) (mo : Int) (y8 : HV) (i : Nat) (H : Heap) : RT polA 28 (sub [1, 1, 1, 0, 1, 0, 0, 1, 0, 0, 0] B28) (env28 (.imm .arg 1 rw) (.i (n : Int)) (.i mo) (.imm .lit 1 []) (.sl 0 0 n none n 1) y8 (.i (i : Int)) Ud Ud Ud Ud) H .normal (env28 (.imm .arg 1 rw) (.i (n : Int)) (.i mo) (.imm .lit 1 []) (.sl 0 0 n none n 1) y8 (.i (i : Int)) (.i (IntKind.i64.wrap ((i : Int) + 1))) Ud Ud Ud) H :=
  RunsTo.hin 0 60 [] fun kf hk => ⟨_, by kernel_rfl, .nil⟩
theorem tm_m_0 (rw : List HV) (n : Nat) (mo : Int) (y8 : HV) (i k : Nat) (H : Heap) (l0 : List HV) (l1 : List HV) (x0 : Int) (md : Int) (H0 : Heap) (H1 : Heap) (H2 : Heap) (g0 : (k : Int) < (n : Int)) (g1 : (i : Int) < (rw.length : Int)) (g2 : idxV Tp 22 (.imm .arg 1 rw) (.i (i : Int)) = some (.vptr (.imm .arg 1 l0))) (g3 : (k : Int) < (l0.length : Int)) (g4 : idxV Tp 22 (.imm .arg 1 rw) (.i (i : Int)) = some (.vptr (.imm .arg 1 l1))) (g5 : idxV Tp 23 (.imm .arg 1 l1) (.i (k : Int)) = some (.vptr (.i x0))) (g6 : x0 < 0) (g7 : ∀ kf, callN Tp polA (kf + 1) 27 [.i x0, .i (IntKind.i64.wrap (mo + 1))] H = some (.i md, H0)) (g8 : idxV Tp 22 (.sl 0 0 n none n 1) (.i (i : Int)) = some (.ptr 0 i 0 n)) (g9 : loadV Tp H0 23 (.ptr 0 i 0 n) = some (.sl (i + 1) 0 n (some n) n 1)) (g10 : idxV Tp 22 (.sl 0 0 n none n 1) (.i (k : Int)) = some (.ptr 0 k 0 n)) (g11 : loadV Tp H0 23 (.ptr 0 k 0 n) = some (.sl (k + 1) 0 n (some n) n 1)) (g12 : idxV Tp 23 (.sl (i + 1) 0 n (some n) n 1) (.i (k : Int)) = some (.ptr (i + 1) k 0 n)) (g13 : storeV Tp H0 3 (.ptr (i + 1) k 0 n) (.i md) = some H1) (g14 : idxV Tp 23 (.sl (k + 1) 0 n (some n) n 1) (.i (i : Int)) = some (.ptr (k + 1) i 0 n)) (g15 : storeV Tp H1 3 (.ptr (k + 1) i 0 n) (.i md) = some H2) : RT polA 28 (sub [1, 1, 1, 0, 1, 0, 0, 1, 0, 0, 1, 0, 0] B28) (env28 (.imm .arg 1 rw) (.i (n : Int)) (.i mo) (.imm .lit 1 []) (.sl 0 0 n none n 1) y8 (.i (i : Int)) (.i (k : Int)) Ud Ud Ud) H .normal (env28 (.imm .arg 1 rw) (.i (n : Int)) (.i mo) (.imm .lit 1 []) (.sl 0 0 n none n 1) y8 (.i (i : Int)) (.i (IntKind.i64.wrap ((k : Int) + 1))) (.i md) (.sl (i + 1) 0 n (some n) n 1) (.sl (k + 1) 0 n (some n) n 1)) H2 :=
  RunsTo.hin 0 60 [⟨10, 2, .bool true, H⟩, ⟨13, 3, .bool true, H⟩, ⟨13, 8, .vptr (.imm .arg 1 l0), H⟩, ⟨13, 11, .bool true, H⟩, ⟨14, 2, .vptr (.imm .arg 1 l1), H⟩, ⟨14, 5, .vptr (.i x0), H⟩, ⟨15, 1, .bool true, H⟩, ⟨16, 3, .i md, H0⟩, ⟨17, 2, .ptr 0 i 0 n, H0⟩, ⟨17, 3, .sl (i + 1) 0 n (some n) n 1, H0⟩, ⟨17, 6, .ptr 0 k 0 n, H0⟩, ⟨17, 7, .sl (k + 1) 0 n (some n) n 1, H0⟩, ⟨18, 3, .ptr (i + 1) k 0 n, H0⟩, ⟨18, 4, .tuple [], H1⟩, ⟨19, 3, .ptr (k + 1) i 0 n, H1⟩, ⟨19, 4, .tuple [], H2⟩] fun kf hk => ⟨_, by kernel_rfl, (oB H (decide_eq_true g0) (oB H (decide_eq_true g1) (oP H g2 (oB H (decide_eq_true g3) (oP H g4 (oP H g5 (oB H (decide_eq_true g6) (oC (g7 kf) (oP H0 g8 (oP H0 g9 (oP H0 g10 (oP H0 g11 (oP H0 g12 (oS g13 (oP H1 g14 (oS g15 .nil))))))))))))))))⟩
theorem tm_m_1 (rw : List HV) (n : Nat) (mo : Int) (y8 : HV) (i k : Nat) (H : Heap) (l0 : List HV) (l1 : List HV) (x0 : Int) (md : Int) (H0 : Heap) (H1 : Heap) (H2 : Heap) (g0 : (k : Int) < (n : Int)) (g1 : (i : Int) < (rw.length : Int)) (g2 : idxV Tp 22 (.imm .arg 1 rw) (.i (i : Int)) = some (.vptr (.imm .arg 1 l0))) (g3 : (k : Int) < (l0.length : Int)) (g4 : idxV Tp 22 (.imm .arg 1 rw) (.i (i : Int)) = some (.vptr (.imm .arg 1 l1))) (g5 : idxV Tp 23 (.imm .arg 1 l1) (.i (k : Int)) = some (.vptr (.i x0))) (g6 : ¬ (x0 < 0)) (g7 : mo < x0) (g8 : ∀ kf, callN Tp polA (kf + 1) 27 [.i x0, .i (IntKind.i64.wrap (mo + 1))] H = some (.i md, H0)) (g9 : idxV Tp 22 (.sl 0 0 n none n 1) (.i (i : Int)) = some (.ptr 0 i 0 n)) (g10 : loadV Tp H0 23 (.ptr 0 i 0 n) = some (.sl (i + 1) 0 n (some n) n 1)) (g11 : idxV Tp 22 (.sl 0 0 n none n 1) (.i (k : Int)) = some (.ptr 0 k 0 n)) (g12 : loadV Tp H0 23 (.ptr 0 k 0 n) = some (.sl (k + 1) 0 n (some n) n 1)) (g13 : idxV Tp 23 (.sl (i + 1) 0 n (some n) n 1) (.i (k : Int)) = some (.ptr (i + 1) k 0 n)) (g14 : storeV Tp H0 3 (.ptr (i + 1) k 0 n) (.i md) = some H1) (g15 : idxV Tp 23 (.sl (k + 1) 0 n (some n) n 1) (.i (i : Int)) = some (.ptr (k + 1) i 0 n)) (g16 : storeV Tp H1 3 (.ptr (k + 1) i 0 n) (.i md) = some H2) : RT polA 28 (sub [1, 1, 1, 0, 1, 0, 0, 1, 0, 0, 1, 0, 0] B28) (env28 (.imm .arg 1 rw) (.i (n : Int)) (.i mo) (.imm .lit 1 []) (.sl 0 0 n none n 1) y8 (.i (i : Int)) (.i (k : Int)) Ud Ud Ud) H .normal (env28 (.imm .arg 1 rw) (.i (n : Int)) (.i mo) (.imm .lit 1 []) (.sl 0 0 n none n 1) y8 (.i (i : Int)) (.i (IntKind.i64.wrap ((k : Int) + 1))) (.i md) (.sl (i + 1) 0 n (some n) n 1) (.sl (k + 1) 0 n (some n) n 1)) H2 :=
  RunsTo.hin 0 60 [⟨10, 2, .bool true, H⟩, ⟨13, 3, .bool true, H⟩, ⟨13, 8, .vptr (.imm .arg 1 l0), H⟩, ⟨13, 11, .bool true, H⟩, ⟨14, 2, .vptr (.imm .arg 1 l1), H⟩, ⟨14, 5, .vptr (.i x0), H⟩, ⟨15, 1, .bool false, H⟩, ⟨15, 5, .bool true, H⟩, ⟨16, 3, .i md, H0⟩, ⟨17, 2, .ptr 0 i 0 n, H0⟩, ⟨17, 3, .sl (i + 1) 0 n (some n) n 1, H0⟩, ⟨17, 6, .ptr 0 k 0 n, H0⟩, ⟨17, 7, .sl (k + 1) 0 n (some n) n 1, H0⟩, ⟨18, 3, .ptr (i + 1) k 0 n, H0⟩, ⟨18, 4, .tuple [], H1⟩, ⟨19, 3, .ptr (k + 1) i 0 n, H1⟩, ⟨19, 4, .tuple [], H2⟩] fun kf hk => ⟨_, by kernel_rfl, (oB H (decide_eq_true g0) (oB H (decide_eq_true g1) (oP H g2 (oB H (decide_eq_true g3) (oP H g4 (oP H g5 (oB H (decide_eq_false g6) (oB H (decide_eq_true g7) (oC (g8 kf) (oP H0 g9 (oP H0 g10 (oP H0 g11 (oP H0 g12 (oP H0 g13 (oS g14 (oP H1 g15 (oS g16 .nil)))))))))))))))))⟩
theorem tm_m_2 (rw : List HV) (n : Nat) (mo : Int) (y8 : HV) (i k : Nat) (H : Heap) (l0 : List HV) (l1 : List HV) (x0 : Int) (H0 : Heap) (H1 : Heap) (g0 : (k : Int) < (n : Int)) (g1 : (i : Int) < (rw.length : Int)) (g2 : idxV Tp 22 (.imm .arg 1 rw) (.i (i : Int)) = some (.vptr (.imm .arg 1 l0))) (g3 : (k : Int) < (l0.length : Int)) (g4 : idxV Tp 22 (.imm .arg 1 rw) (.i (i : Int)) = some (.vptr (.imm .arg 1 l1))) (g5 : idxV Tp 23 (.imm .arg 1 l1) (.i (k : Int)) = some (.vptr (.i x0))) (g6 : ¬ (x0 < 0)) (g7 : ¬ (mo < x0)) (g8 : idxV Tp 22 (.sl 0 0 n none n 1) (.i (i : Int)) = some (.ptr 0 i 0 n)) (g9 : loadV Tp H 23 (.ptr 0 i 0 n) = some (.sl (i + 1) 0 n (some n) n 1)) (g10 : idxV Tp 22 (.sl 0 0 n none n 1) (.i (k : Int)) = some (.ptr 0 k 0 n)) (g11 : loadV Tp H 23 (.ptr 0 k 0 n) = some (.sl (k + 1) 0 n (some n) n 1)) (g12 : idxV Tp 23 (.sl (i + 1) 0 n (some n) n 1) (.i (k : Int)) = some (.ptr (i + 1) k 0 n)) (g13 : storeV Tp H 3 (.ptr (i + 1) k 0 n) (.i x0) = some H0) (g14 : idxV Tp 23 (.sl (k + 1) 0 n (some n) n 1) (.i (i : Int)) = some (.ptr (k + 1) i 0 n)) (g15 : storeV Tp H0 3 (.ptr (k + 1) i 0 n) (.i x0) = some H1) : RT polA 28 (sub [1, 1, 1, 0, 1, 0, 0, 1, 0, 0, 1, 0, 0] B28) (env28 (.imm .arg 1 rw) (.i (n : Int)) (.i mo) (.imm .lit 1 []) (.sl 0 0 n none n 1) y8 (.i (i : Int)) (.i (k : Int)) Ud Ud Ud) H .normal (env28 (.imm .arg 1 rw) (.i (n : Int)) (.i mo) (.imm .lit 1 []) (.sl 0 0 n none n 1) y8 (.i (i : Int)) (.i (IntKind.i64.wrap ((k : Int) + 1))) (.i x0) (.sl (i + 1) 0 n (some n) n 1) (.sl (k + 1) 0 n (some n) n 1)) H1 :=
  RunsTo.hin 0 60 [⟨10, 2, .bool true, H⟩, ⟨13, 3, .bool true, H⟩, ⟨13, 8, .vptr (.imm .arg 1 l0), H⟩, ⟨13, 11, .bool true, H⟩, ⟨14, 2, .vptr (.imm .arg 1 l1), H⟩, ⟨14, 5, .vptr (.i x0), H⟩, ⟨15, 1, .bool false, H⟩, ⟨15, 5, .bool false, H⟩, ⟨17, 2, .ptr 0 i 0 n, H⟩, ⟨17, 3, .sl (i + 1) 0 n (some n) n 1, H⟩, ⟨17, 6, .ptr 0 k 0 n, H⟩, ⟨17, 7, .sl (k + 1) 0 n (some n) n 1, H⟩, ⟨18, 3, .ptr (i + 1) k 0 n, H⟩, ⟨18, 4, .tuple [], H0⟩, ⟨19, 3, .ptr (k + 1) i 0 n, H0⟩, ⟨19, 4, .tuple [], H1⟩] fun kf hk => ⟨_, by kernel_rfl, (oB H (decide_eq_true g0) (oB H (decide_eq_true g1) (oP H g2 (oB H (decide_eq_true g3) (oP H g4 (oP H g5 (oB H (decide_eq_false g6) (oB H (decide_eq_false g7) (oP H g8 (oP H g9 (oP H g10 (oP H g11 (oP H g12 (oS g13 (oP H0 g14 (oS g15 .nil))))))))))))))))⟩
theorem tm_m_3 (rw : List HV) (n : Nat) (mo : Int) (y8 : HV) (i k : Nat) (H : Heap) (l0 : List HV) (md : Int) (H0 : Heap) (H1 : Heap) (H2 : Heap) (g0 : (k : Int) < (n : Int)) (g1 : (i : Int) < (rw.length : Int)) (g2 : idxV Tp 22 (.imm .arg 1 rw) (.i (i : Int)) = some (.vptr (.imm .arg 1 l0))) (g3 : ¬ ((k : Int) < (l0.length : Int))) (g4 : mo < (1 : Int)) (g5 : ∀ kf, callN Tp polA (kf + 1) 27 [.i 1, .i (IntKind.i64.wrap (mo + 1))] H = some (.i md, H0)) (g6 : idxV Tp 22 (.sl 0 0 n none n 1) (.i (i : Int)) = some (.ptr 0 i 0 n)) (g7 : loadV Tp H0 23 (.ptr 0 i 0 n) = some (.sl (i + 1) 0 n (some n) n 1)) (g8 : idxV Tp 22 (.sl 0 0 n none n 1) (.i (k : Int)) = some (.ptr 0 k 0 n)) (g9 : loadV Tp H0 23 (.ptr 0 k 0 n) = some (.sl (k + 1) 0 n (some n) n 1)) (g10 : idxV Tp 23 (.sl (i + 1) 0 n (some n) n 1) (.i (k : Int)) = some (.ptr (i + 1) k 0 n)) (g11 : storeV Tp H0 3 (.ptr (i + 1) k 0 n) (.i md) = some H1) (g12 : idxV Tp 23 (.sl (k + 1) 0 n (some n) n 1) (.i (i : Int)) = some (.ptr (k + 1) i 0 n)) (g13 : storeV Tp H1 3 (.ptr (k + 1) i 0 n) (.i md) = some H2) : RT polA 28 (sub [1, 1, 1, 0, 1, 0, 0, 1, 0, 0, 1, 0, 0] B28) (env28 (.imm .arg 1 rw) (.i (n : Int)) (.i mo) (.imm .lit 1 []) (.sl 0 0 n none n 1) y8 (.i (i : Int)) (.i (k : Int)) Ud Ud Ud) H .normal (env28 (.imm .arg 1 rw) (.i (n : Int)) (.i mo) (.imm .lit 1 []) (.sl 0 0 n none n 1) y8 (.i (i : Int)) (.i (IntKind.i64.wrap ((k : Int) + 1))) (.i md) (.sl (i + 1) 0 n (some n) n 1) (.sl (k + 1) 0 n (some n) n 1)) H2 :=
  RunsTo.hin 0 60 [⟨10, 2, .bool true, H⟩, ⟨13, 3, .bool true, H⟩, ⟨13, 8, .vptr (.imm .arg 1 l0), H⟩, ⟨13, 11, .bool false, H⟩, ⟨15, 5, .bool true, H⟩, ⟨16, 3, .i md, H0⟩, ⟨17, 2, .ptr 0 i 0 n, H0⟩, ⟨17, 3, .sl (i + 1) 0 n (some n) n 1, H0⟩, ⟨17, 6, .ptr 0 k 0 n, H0⟩, ⟨17, 7, .sl (k + 1) 0 n (some n) n 1, H0⟩, ⟨18, 3, .ptr (i + 1) k 0 n, H0⟩, ⟨18, 4, .tuple [], H1⟩, ⟨19, 3, .ptr (k + 1) i 0 n, H1⟩, ⟨19, 4, .tuple [], H2⟩] fun kf hk => ⟨_, by kernel_rfl, (oB H (decide_eq_true g0) (oB H (decide_eq_true g1) (oP H g2 (oB H (decide_eq_false g3) (oB H (decide_eq_true g4) (oC (g5 kf) (oP H0 g6 (oP H0 g7 (oP H0 g8 (oP H0 g9 (oP H0 g10 (oS g11 (oP H1 g12 (oS g13 .nil))))))))))))))⟩
theorem tm_m_4 (rw : List HV) (n : Nat) (mo : Int) (y8 : HV) (i k : Nat) (H : Heap) (l0 : List HV) (H0 : Heap) (H1 : Heap) (g0 : (k : Int) < (n : Int)) (g1 : (i : Int) < (rw.length : Int)) (g2 : idxV Tp 22 (.imm .arg 1 rw) (.i (i : Int)) = some (.vptr (.imm .arg 1 l0))) (g3 : ¬ ((k : Int) < (l0.length : Int))) (g4 : ¬ (mo < (1 : Int))) (g5 : idxV Tp 22 (.sl 0 0 n none n 1) (.i (i : Int)) = some (.ptr 0 i 0 n)) (g6 : loadV Tp H 23 (.ptr 0 i 0 n) = some (.sl (i + 1) 0 n (some n) n 1)) (g7 : idxV Tp 22 (.sl 0 0 n none n 1) (.i (k : Int)) = some (.ptr 0 k 0 n)) (g8 : loadV Tp H 23 (.ptr 0 k 0 n) = some (.sl (k + 1) 0 n (some n) n 1)) (g9 : idxV Tp 23 (.sl (i + 1) 0 n (some n) n 1) (.i (k : Int)) = some (.ptr (i + 1) k 0 n)) (g10 : storeV Tp H 3 (.ptr (i + 1) k 0 n) (.i 1) = some H0) (g11 : idxV Tp 23 (.sl (k + 1) 0 n (some n) n 1) (.i (i : Int)) = some (.ptr (k + 1) i 0 n)) (g12 : storeV Tp H0 3 (.ptr (k + 1) i 0 n) (.i 1) = some H1) : RT polA 28 (sub [1, 1, 1, 0, 1, 0, 0, 1, 0, 0, 1, 0, 0] B28) (env28 (.imm .arg 1 rw) (.i (n : Int)) (.i mo) (.imm .lit 1 []) (.sl 0 0 n none n 1) y8 (.i (i : Int)) (.i (k : Int)) Ud Ud Ud) H .normal (env28 (.imm .arg 1 rw) (.i (n : Int)) (.i mo) (.imm .lit 1 []) (.sl 0 0 n none n 1) y8 (.i (i : Int)) (.i (IntKind.i64.wrap ((k : Int) + 1))) (.i 1) (.sl (i + 1) 0 n (some n) n 1) (.sl (k + 1) 0 n (some n) n 1)) H1 :=
  RunsTo.hin 0 60 [⟨10, 2, .bool true, H⟩, ⟨13, 3, .bool true, H⟩, ⟨13, 8, .vptr (.imm .arg 1 l0), H⟩, ⟨13, 11, .bool false, H⟩, ⟨15, 5, .bool false, H⟩, ⟨17, 2, .ptr 0 i 0 n, H⟩, ⟨17, 3, .sl (i + 1) 0 n (some n) n 1, H⟩, ⟨17, 6, .ptr 0 k 0 n, H⟩, ⟨17, 7, .sl (k + 1) 0 n (some n) n 1, H⟩, ⟨18, 3, .ptr (i + 1) k 0 n, H⟩, ⟨18, 4, .tuple [], H0⟩, ⟨19, 3, .ptr (k + 1) i 0 n, H0⟩, ⟨19, 4, .tuple [], H1⟩] fun kf hk => ⟨_, by kernel_rfl, (oB H (decide_eq_true g0) (oB H (decide_eq_true g1) (oP H g2 (oB H (decide_eq_false g3) (oB H (decide_eq_false g4) (oP H g5 (oP H g6 (oP H g7 (oP H g8 (oP H g9 (oS g10 (oP H0 g11 (oS g12 .nil)))))))))))))⟩
theorem tm_m_5 (rw : List HV) (n : Nat) (mo : Int) (y8 : HV) (i k : Nat) (H : Heap) (md : Int) (H0 : Heap) (H1 : Heap) (H2 : Heap) (g0 : (k : Int) < (n : Int)) (g1 : ¬ ((i : Int) < (rw.length : Int))) (g2 : mo < (1 : Int)) (g3 : ∀ kf, callN Tp polA (kf + 1) 27 [.i 1, .i (IntKind.i64.wrap (mo + 1))] H = some (.i md, H0)) (g4 : idxV Tp 22 (.sl 0 0 n none n 1) (.i (i : Int)) = some (.ptr 0 i 0 n)) (g5 : loadV Tp H0 23 (.ptr 0 i 0 n) = some (.sl (i + 1) 0 n (some n) n 1)) (g6 : idxV Tp 22 (.sl 0 0 n none n 1) (.i (k : Int)) = some (.ptr 0 k 0 n)) (g7 : loadV Tp H0 23 (.ptr 0 k 0 n) = some (.sl (k + 1) 0 n (some n) n 1)) (g8 : idxV Tp 23 (.sl (i + 1) 0 n (some n) n 1) (.i (k : Int)) = some (.ptr (i + 1) k 0 n)) (g9 : storeV Tp H0 3 (.ptr (i + 1) k 0 n) (.i md) = some H1) (g10 : idxV Tp 23 (.sl (k + 1) 0 n (some n) n 1) (.i (i : Int)) = some (.ptr (k + 1) i 0 n)) (g11 : storeV Tp H1 3 (.ptr (k + 1) i 0 n) (.i md) = some H2) : RT polA 28 (sub [1, 1, 1, 0, 1, 0, 0, 1, 0, 0, 1, 0, 0] B28) (env28 (.imm .arg 1 rw) (.i (n : Int)) (.i mo) (.imm .lit 1 []) (.sl 0 0 n none n 1) y8 (.i (i : Int)) (.i (k : Int)) Ud Ud Ud) H .normal (env28 (.imm .arg 1 rw) (.i (n : Int)) (.i mo) (.imm .lit 1 []) (.sl 0 0 n none n 1) y8 (.i (i : Int)) (.i (IntKind.i64.wrap ((k : Int) + 1))) (.i md) (.sl (i + 1) 0 n (some n) n 1) (.sl (k + 1) 0 n (some n) n 1)) H2 :=
  RunsTo.hin 0 60 [⟨10, 2, .bool true, H⟩, ⟨13, 3, .bool false, H⟩, ⟨15, 5, .bool true, H⟩, ⟨16, 3, .i md, H0⟩, ⟨17, 2, .ptr 0 i 0 n, H0⟩, ⟨17, 3, .sl (i + 1) 0 n (some n) n 1, H0⟩, ⟨17, 6, .ptr 0 k 0 n, H0⟩, ⟨17, 7, .sl (k + 1) 0 n (some n) n 1, H0⟩, ⟨18, 3, .ptr (i + 1) k 0 n, H0⟩, ⟨18, 4, .tuple [], H1⟩, ⟨19, 3, .ptr (k + 1) i 0 n, H1⟩, ⟨19, 4, .tuple [], H2⟩] fun kf hk => ⟨_, by kernel_rfl, (oB H (decide_eq_true g0) (oB H (decide_eq_false g1) (oB H (decide_eq_true g2) (oC (g3 kf) (oP H0 g4 (oP H0 g5 (oP H0 g6 (oP H0 g7 (oP H0 g8 (oS g9 (oP H1 g10 (oS g11 .nil))))))))))))⟩
theorem tm_m_6 (rw : List HV) (n : Nat) (mo : Int) (y8 : HV) (i k : Nat) (H : Heap) (H0 : Heap) (H1 : Heap) (g0 : (k : Int) < (n : Int)) (g1 : ¬ ((i : Int) < (rw.length : Int))) (g2 : ¬ (mo < (1 : Int))) (g3 : idxV Tp 22 (.sl 0 0 n none n 1) (.i (i : Int)) = some (.ptr 0 i 0 n)) (g4 : loadV Tp H 23 (.ptr 0 i 0 n) = some (.sl (i + 1) 0 n (some n) n 1)) (g5 : idxV Tp 22 (.sl 0 0 n none n 1) (.i (k : Int)) = some (.ptr 0 k 0 n)) (g6 : loadV Tp H 23 (.ptr 0 k 0 n) = some (.sl (k + 1) 0 n (some n) n 1)) (g7 : idxV Tp 23 (.sl (i + 1) 0 n (some n) n 1) (.i (k : Int)) = some (.ptr (i + 1) k 0 n)) (g8 : storeV Tp H 3 (.ptr (i + 1) k 0 n) (.i 1) = some H0) (g9 : idxV Tp 23 (.sl (k + 1) 0 n (some n) n 1) (.i (i : Int)) = some (.ptr (k + 1) i 0 n)) (g10 : storeV Tp H0 3 (.ptr (k + 1) i 0 n) (.i 1) = some H1) : RT polA 28 (sub [1, 1, 1, 0, 1, 0, 0, 1, 0, 0, 1, 0, 0] B28) (env28 (.imm .arg 1 rw) (.i (n : Int)) (.i mo) (.imm .lit 1 []) (.sl 0 0 n none n 1) y8 (.i (i : Int)) (.i (k : Int)) Ud Ud Ud) H .normal (env28 (.imm .arg 1 rw) (.i (n : Int)) (.i mo) (.imm .lit 1 []) (.sl 0 0 n none n 1) y8 (.i (i : Int)) (.i (IntKind.i64.wrap ((k : Int) + 1))) (.i 1) (.sl (i + 1) 0 n (some n) n 1) (.sl (k + 1) 0 n (some n) n 1)) H1 :=
  RunsTo.hin 0 60 [⟨10, 2, .bool true, H⟩, ⟨13, 3, .bool false, H⟩, ⟨15, 5, .bool false, H⟩, ⟨17, 2, .ptr 0 i 0 n, H⟩, ⟨17, 3, .sl (i + 1) 0 n (some n) n 1, H⟩, ⟨17, 6, .ptr 0 k 0 n, H⟩, ⟨17, 7, .sl (k + 1) 0 n (some n) n 1, H⟩, ⟨18, 3, .ptr (i + 1) k 0 n, H⟩, ⟨18, 4, .tuple [], H0⟩, ⟨19, 3, .ptr (k + 1) i 0 n, H0⟩, ⟨19, 4, .tuple [], H1⟩] fun kf hk => ⟨_, by kernel_rfl, (oB H (decide_eq_true g0) (oB H (decide_eq_false g1) (oB H (decide_eq_false g2) (oP H g3 (oP H g4 (oP H g5 (oP H g6 (oP H g7 (oS g8 (oP H0 g9 (oS g10 .nil)))))))))))⟩
theorem tm_m_7 (rw : List HV) (n : Nat) (mo : Int) (y8 : HV) (i k : Nat) (H : Heap)(g0 : ¬ ((k : Int) < (n : Int))) : RT polA 28 (sub [1, 1, 1, 0, 1, 0, 0, 1, 0, 0, 1, 0, 0] B28) (env28 (.imm .arg 1 rw) (.i (n : Int)) (.i mo) (.imm .lit 1 []) (.sl 0 0 n none n 1) y8 (.i (i : Int)) (.i (k : Int)) Ud Ud Ud) H (.exit 4) (env28 (.imm .arg 1 rw) (.i (n : Int)) (.i mo) (.imm .lit 1 []) (.sl 0 0 n none n 1) y8 (.i (i : Int)) (.i (k : Int)) Ud Ud Ud) H :=
  RunsTo.hin 0 60 [⟨10, 2, .bool false, H⟩] fun kf hk => ⟨_, by kernel_rfl, (oB H (decide_eq_false g0) .nil)⟩
theorem tm_g_0 (rw : List HV) (n : Nat) (mo : Int) (y8 : HV) (i k : Nat) (H : Heap) : RT polA 28 (sub [1, 1, 1, 0, 1, 0, 0, 1, 1] B28) (env28 (.imm .arg 1 rw) (.i (n : Int)) (.i mo) (.imm .lit 1 []) (.sl 0 0 n none n 1) y8 (.i (i : Int)) (.i (k : Int)) Ud Ud Ud) H .normal (env28 (.imm .arg 1 rw) (.i (n : Int)) (.i mo) (.imm .lit 1 []) (.sl 0 0 n none n 1) y8 (.i (IntKind.i64.wrap ((i : Int) + 1))) (.i (k : Int)) Ud Ud Ud) H :=
  RunsTo.hin 0 60 [] fun kf hk => ⟨_, by kernel_rfl, .nil⟩
theorem tm_z_0 (rw : List HV) (n : Nat) (mo : Int) (y8 y9 y10 y11 y12 y13 : HV) (H : Heap) : RT polA 28 (sub [1, 1, 1, 1] B28) (env28 (.imm .arg 1 rw) (.i (n : Int)) (.i mo) (.imm .lit 1 []) (.sl 0 0 n none n 1) y8 y9 y10 y11 y12 y13) H .ret (env28 (.imm .arg 1 rw) (.i (n : Int)) (.i mo) (.sl 0 0 n none n 1) (.sl 0 0 n none n 1) y8 y9 y10 y11 y12 y13) H :=
  RunsTo.hin 0 60 [] fun kf hk => ⟨_, by kernel_rfl, .nil⟩
end Go.Proofs.Ytlendaofkmhgmaa
end
