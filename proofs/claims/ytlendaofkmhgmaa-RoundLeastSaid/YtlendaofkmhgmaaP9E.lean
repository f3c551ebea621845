/- A part of the proof. -/
import Derived.Test.YtlendaofkmhgmaaP9D
set_option linter.unusedVariables false
set_option linter.unusedSimpArgs false
section
open Go Go.HL
namespace Go.Proofs.Ytlendaofkmhgmaa
set_option maxRecDepth 100000
open Go.Proofs.Try renaming prog → Tp
open Go.HL.HV renaming undef → Ud
noncomputable def B9 : Code := Try.f9.body.getD .skip
abbrev env9 (v0 v1 v2 v6 v7 v8 v9 v10 v11 v12 v13 v14 v15 v16 v17 v18 v19 v20 v21 v22 v23 v24 v25 v26 : HV) : Env := [(0, v0), (1, v1), (2, v2), (6, v6), (7, v7), (8, v8), (9, v9), (10, v10), (11, v11), (12, v12), (13, v13), (14, v14), (15, v15), (16, v16), (17, v17), (18, v18), (19, v19), (20, v20), (21, v21), (22, v22), (23, v23), (24, v24), (25, v25), (26, v26)]
theorem lle_a_0 (rw la ma : List HV)  : RT polLf9 9 (sub [0] B9) [(0, .imm .arg 1 rw), (1, .imm .arg 1 la), (2, .imm .arg 1 ma)] [] .normal (env9 (.imm .arg 1 rw) (.imm .arg 1 la) (.imm .arg 1 ma) (.bool false) Ud Ud Ud Ud Ud Ud Ud Ud Ud Ud Ud Ud Ud Ud Ud Ud Ud Ud Ud Ud) [] :=
  RunsTo.hin 0 60 [] fun kf hk => ⟨_, by kernel_rfl, .nil⟩
theorem lle_b_0 (rw la ma : List HV)  {y7 y8 y9 y10 y11 y12 y13 y14 y15 y16 y17 y18 y19 y20 y21 y22 y23 y24 y25 y26 : HV} {md0 : Int} (g0 : ∀ kf, callN Tp polLf9 (kf + 1) 27 [.i (IntKind.i64.wrap ((rw.length : Int) - 1)), .i 9] [] = some (.i md0, [])) : RT polLf9 9 (sub [1, 0] B9) (env9 (.imm .arg 1 rw) (.imm .arg 1 la) (.imm .arg 1 ma) (.bool false) y7 y8 y9 y10 y11 y12 y13 y14 y15 y16 y17 y18 y19 y20 y21 y22 y23 y24 y25 y26) [] .normal (env9 (.imm .arg 1 rw) (.imm .arg 1 la) (.imm .arg 1 ma) (.bool false) (.i (IntKind.i64.wrap (1 + md0))) y8 y9 y10 y11 y12 y13 y14 y15 y16 y17 y18 y19 y20 y21 y22 y23 y24 y25 y26) [] :=
  RunsTo.hin 0 60 [⟨1, 3, .i md0, []⟩] fun kf hk => ⟨_, by kernel_rfl, (oC (g0 kf) .nil)⟩
theorem lle_c_0 (rw la ma : List HV) (nn : Int) {y8 y9 y10 y11 y12 y13 y14 y15 y16 y17 y18 y19 y20 y21 y22 y23 y24 y25 y26 : HV} {q0 : Nat} {xs : List HV} (g0 : ∀ kf, callN Tp polLf9 (kf + 1) 28 [.imm .arg 1 rw, .i nn, .i 1000] [] = some (.sl 0 0 q0 none q0 1, [.arr 1 xs true 0])) : RT polLf9 9 (sub [1, 1, 0] B9) (env9 (.imm .arg 1 rw) (.imm .arg 1 la) (.imm .arg 1 ma) (.bool false) (.i nn) y8 y9 y10 y11 y12 y13 y14 y15 y16 y17 y18 y19 y20 y21 y22 y23 y24 y25 y26) [] .normal (env9 (.imm .arg 1 rw) (.imm .arg 1 la) (.imm .arg 1 ma) (.bool false) (.i nn) (.sl 0 0 q0 none q0 1) y9 y10 y11 y12 y13 y14 y15 y16 y17 y18 y19 y20 y21 y22 y23 y24 y25 y26) [.arr 1 xs true 0] :=
  RunsTo.hin 0 60 [⟨2, 2, .sl 0 0 q0 none q0 1, [.arr 1 xs true 0]⟩] fun kf hk => ⟨_, by kernel_rfl, (oC (g0 kf) .nil)⟩
theorem lle_d_0 (rw la ma : List HV) (nn : Int) (q0 : Nat) (xs : List HV) {y9 y10 y11 y12 y13 y14 y15 y16 y17 y18 y19 y20 y21 y22 y23 y24 y25 y26 : HV} {q1 : Nat} {ts : List HV} (g0 : ∀ kf, callN Tp polLf9 (kf + 1) 33 [.imm .arg 1 la, .i nn] [.arr 1 xs true 0] = some (.sl 1 0 q1 none q1 1, [.arr 1 xs true 0, .arr 1 ts true 0])) : RT polLf9 9 (sub [1, 1, 1, 0] B9) (env9 (.imm .arg 1 rw) (.imm .arg 1 la) (.imm .arg 1 ma) (.bool false) (.i nn) (.sl 0 0 q0 none q0 1) y9 y10 y11 y12 y13 y14 y15 y16 y17 y18 y19 y20 y21 y22 y23 y24 y25 y26) [.arr 1 xs true 0] .normal (env9 (.imm .arg 1 rw) (.imm .arg 1 la) (.imm .arg 1 ma) (.bool false) (.i nn) (.sl 0 0 q0 none q0 1) (.sl 1 0 q1 none q1 1) y10 y11 y12 y13 y14 y15 y16 y17 y18 y19 y20 y21 y22 y23 y24 y25 y26) [.arr 1 xs true 0, .arr 1 ts true 0] :=
  RunsTo.hin 0 60 [⟨3, 2, .sl 1 0 q1 none q1 1, [.arr 1 xs true 0, .arr 1 ts true 0]⟩] fun kf hk => ⟨_, by kernel_rfl, (oC (g0 kf) .nil)⟩
theorem lle_e_0 (rw la ma : List HV) (nn : Int) (q0 : Nat) (xs : List HV) (q1 : Nat) (ts : List HV) {y10 y11 y12 y13 y14 y15 y16 y17 y18 y19 y20 y21 y22 y23 y24 y25 y26 : HV} : RT polLf9 9 (sub [1, 1, 1, 1, 0] B9) (env9 (.imm .arg 1 rw) (.imm .arg 1 la) (.imm .arg 1 ma) (.bool false) (.i nn) (.sl 0 0 q0 none q0 1) (.sl 1 0 q1 none q1 1) y10 y11 y12 y13 y14 y15 y16 y17 y18 y19 y20 y21 y22 y23 y24 y25 y26) [.arr 1 xs true 0, .arr 1 ts true 0] .normal (env9 (.imm .arg 1 rw) (.imm .arg 1 la) (.imm .arg 1 ma) (.bool false) (.i nn) (.sl 0 0 q0 none q0 1) (.sl 1 0 q1 none q1 1) (.sl 2 0 0 none 0 1) y11 y12 y13 y14 y15 y16 y17 y18 y19 y20 y21 y22 y23 y24 y25 y26) [.arr 1 xs true 0, .arr 1 ts true 0, .arr 1 [] true 0] :=
  RunsTo.hin 0 60 [] fun kf hk => ⟨_, by kernel_rfl, .nil⟩
theorem lle_f_0 (rw la ma : List HV) (nn : Int) (q0 : Nat) (xs : List HV) (q1 : Nat) (ts : List HV) (m : Nat) (ps : List HV) {y11 y12 y13 y14 y15 y16 y17 y18 y19 y20 y21 y22 y23 y24 y25 y26 : HV} : RT polLf9 9 (sub [1, 1, 1, 1, 1, 0, 0] B9) (env9 (.imm .arg 1 rw) (.imm .arg 1 la) (.imm .arg 1 ma) (.bool false) (.i nn) (.sl 0 0 q0 none q0 1) (.sl 1 0 q1 none q1 1) (.sl 2 0 m none m 1) y11 y12 y13 y14 y15 y16 y17 y18 y19 y20 y21 y22 y23 y24 y25 y26) [.arr 1 xs true 0, .arr 1 ts true 0, .arr 1 ps true 0] .normal (env9 (.imm .arg 1 rw) (.imm .arg 1 la) (.imm .arg 1 ma) (.bool false) (.i nn) (.sl 0 0 q0 none q0 1) (.sl 1 0 q1 none q1 1) (.sl 2 0 m none m 1) (.i 0) y12 y13 y14 y15 y16 y17 y18 y19 y20 y21 y22 y23 y24 y25 y26) [.arr 1 xs true 0, .arr 1 ts true 0, .arr 1 ps true 0] :=
  RunsTo.hin 0 60 [] fun kf hk => ⟨_, by kernel_rfl, .nil⟩
theorem lle_g_0 (rw la ma : List HV) (nn : Int) (q0 : Nat) (xs : List HV) (q1 : Nat) (ts : List HV) (m : Nat) (ps : List HV) (i : Nat) {y12 y13 y14 y15 y16 y17 y18 y19 y20 y21 y22 y23 y24 y25 y26 : HV} {x0 : Int} {md0 : Int} (g0 : (i : Int) < nn) (g1 : (i : Int) < (ma.length : Int)) (g2 : idxV Tp 23 (.imm .arg 1 ma) (.i (i : Int)) = some (.vptr (.i x0))) (g3 : ∀ kf, callN Tp polLf9 (kf + 1) 27 [.i x0, .i 20001] [.arr 1 xs true 0, .arr 1 ts true 0, .arr 1 ps true 0] = some (.i md0, [.arr 1 xs true 0, .arr 1 ts true 0, .arr 1 ps true 0])) (g4 : appV [.arr 1 xs true 0, .arr 1 ts true 0, .arr 1 ps true 0] 1 8 (.sl 2 0 m none m 1) [.i (IntKind.i64.wrap (md0 - 10000))] = some (.sl 2 0 (m + 1) none (m + 1) 1, [.arr 1 xs true 0, .arr 1 ts true 0, .arr 1 (ps ++ [.i (IntKind.i64.wrap (md0 - 10000))]) true 0])) : RT polLf9 9 (sub [1, 1, 1, 1, 1, 0, 1, 0, 0] B9) (env9 (.imm .arg 1 rw) (.imm .arg 1 la) (.imm .arg 1 ma) (.bool false) (.i nn) (.sl 0 0 q0 none q0 1) (.sl 1 0 q1 none q1 1) (.sl 2 0 m none m 1) (.i (i : Int)) y12 y13 y14 y15 y16 y17 y18 y19 y20 y21 y22 y23 y24 y25 y26) [.arr 1 xs true 0, .arr 1 ts true 0, .arr 1 ps true 0] .normal (env9 (.imm .arg 1 rw) (.imm .arg 1 la) (.imm .arg 1 ma) (.bool false) (.i nn) (.sl 0 0 q0 none q0 1) (.sl 1 0 q1 none q1 1) (.sl 2 0 (m + 1) none (m + 1) 1) (.i (IntKind.i64.wrap ((i : Int) + 1))) (.i (IntKind.i64.wrap (md0 - 10000))) y13 y14 y15 y16 y17 y18 y19 y20 y21 y22 y23 y24 y25 y26) [.arr 1 xs true 0, .arr 1 ts true 0, .arr 1 (ps ++ [.i (IntKind.i64.wrap (md0 - 10000))]) true 0] :=
  RunsTo.hin 0 60 [⟨6, 2, .bool true, [.arr 1 xs true 0, .arr 1 ts true 0, .arr 1 ps true 0]⟩, ⟨9, 3, .bool true, [.arr 1 xs true 0, .arr 1 ts true 0, .arr 1 ps true 0]⟩, ⟨10, 2, .vptr (.i x0), [.arr 1 xs true 0, .arr 1 ts true 0, .arr 1 ps true 0]⟩, ⟨10, 4, .i md0, [.arr 1 xs true 0, .arr 1 ts true 0, .arr 1 ps true 0]⟩, ⟨11, 3, .sl 2 0 (m + 1) none (m + 1) 1, [.arr 1 xs true 0, .arr 1 ts true 0, .arr 1 (ps ++ [.i (IntKind.i64.wrap (md0 - 10000))]) true 0]⟩] fun kf hk => ⟨_, by kernel_rfl, (oB [.arr 1 xs true 0, .arr 1 ts true 0, .arr 1 ps true 0] (decide_eq_true g0) (oB [.arr 1 xs true 0, .arr 1 ts true 0, .arr 1 ps true 0] (decide_eq_true g1) (oP [.arr 1 xs true 0, .arr 1 ts true 0, .arr 1 ps true 0] g2 (oC (g3 kf) (oC (g4) .nil)))))⟩
theorem lle_g_1 (rw la ma : List HV) (nn : Int) (q0 : Nat) (xs : List HV) (q1 : Nat) (ts : List HV) (m : Nat) (ps : List HV) (i : Nat) {y12 y13 y14 y15 y16 y17 y18 y19 y20 y21 y22 y23 y24 y25 y26 : HV}(g0 : (i : Int) < nn) (g1 : ¬ ((i : Int) < (ma.length : Int))) (g2 : appV [.arr 1 xs true 0, .arr 1 ts true 0, .arr 1 ps true 0] 1 8 (.sl 2 0 m none m 1) [.i 0] = some (.sl 2 0 (m + 1) none (m + 1) 1, [.arr 1 xs true 0, .arr 1 ts true 0, .arr 1 (ps ++ [.i 0]) true 0])) : RT polLf9 9 (sub [1, 1, 1, 1, 1, 0, 1, 0, 0] B9) (env9 (.imm .arg 1 rw) (.imm .arg 1 la) (.imm .arg 1 ma) (.bool false) (.i nn) (.sl 0 0 q0 none q0 1) (.sl 1 0 q1 none q1 1) (.sl 2 0 m none m 1) (.i (i : Int)) y12 y13 y14 y15 y16 y17 y18 y19 y20 y21 y22 y23 y24 y25 y26) [.arr 1 xs true 0, .arr 1 ts true 0, .arr 1 ps true 0] .normal (env9 (.imm .arg 1 rw) (.imm .arg 1 la) (.imm .arg 1 ma) (.bool false) (.i nn) (.sl 0 0 q0 none q0 1) (.sl 1 0 q1 none q1 1) (.sl 2 0 (m + 1) none (m + 1) 1) (.i (IntKind.i64.wrap ((i : Int) + 1))) (.i 0) y13 y14 y15 y16 y17 y18 y19 y20 y21 y22 y23 y24 y25 y26) [.arr 1 xs true 0, .arr 1 ts true 0, .arr 1 (ps ++ [.i 0]) true 0] :=
  RunsTo.hin 0 60 [⟨6, 2, .bool true, [.arr 1 xs true 0, .arr 1 ts true 0, .arr 1 ps true 0]⟩, ⟨9, 3, .bool false, [.arr 1 xs true 0, .arr 1 ts true 0, .arr 1 ps true 0]⟩, ⟨11, 3, .sl 2 0 (m + 1) none (m + 1) 1, [.arr 1 xs true 0, .arr 1 ts true 0, .arr 1 (ps ++ [.i 0]) true 0]⟩] fun kf hk => ⟨_, by kernel_rfl, (oB [.arr 1 xs true 0, .arr 1 ts true 0, .arr 1 ps true 0] (decide_eq_true g0) (oB [.arr 1 xs true 0, .arr 1 ts true 0, .arr 1 ps true 0] (decide_eq_false g1) (oC (g2) .nil)))⟩
theorem lle_g_2 (rw la ma : List HV) (nn : Int) (q0 : Nat) (xs : List HV) (q1 : Nat) (ts : List HV) (m : Nat) (ps : List HV) (i : Nat) {y12 y13 y14 y15 y16 y17 y18 y19 y20 y21 y22 y23 y24 y25 y26 : HV}(g0 : ¬ ((i : Int) < nn)) : RT polLf9 9 (sub [1, 1, 1, 1, 1, 0, 1, 0, 0] B9) (env9 (.imm .arg 1 rw) (.imm .arg 1 la) (.imm .arg 1 ma) (.bool false) (.i nn) (.sl 0 0 q0 none q0 1) (.sl 1 0 q1 none q1 1) (.sl 2 0 m none m 1) (.i (i : Int)) y12 y13 y14 y15 y16 y17 y18 y19 y20 y21 y22 y23 y24 y25 y26) [.arr 1 xs true 0, .arr 1 ts true 0, .arr 1 ps true 0] (.exit 0) (env9 (.imm .arg 1 rw) (.imm .arg 1 la) (.imm .arg 1 ma) (.bool false) (.i nn) (.sl 0 0 q0 none q0 1) (.sl 1 0 q1 none q1 1) (.sl 2 0 m none m 1) (.i (i : Int)) y12 y13 y14 y15 y16 y17 y18 y19 y20 y21 y22 y23 y24 y25 y26) [.arr 1 xs true 0, .arr 1 ts true 0, .arr 1 ps true 0] :=
  RunsTo.hin 0 60 [⟨6, 2, .bool false, [.arr 1 xs true 0, .arr 1 ts true 0, .arr 1 ps true 0]⟩] fun kf hk => ⟨_, by kernel_rfl, (oB [.arr 1 xs true 0, .arr 1 ts true 0, .arr 1 ps true 0] (decide_eq_false g0) .nil)⟩
theorem lle_h_0 (rw la ma : List HV) (nn : Int) (q0 : Nat) (xs : List HV) (q1 : Nat) (ts : List HV) (m : Nat) (ps : List HV) {y11 y12 y13 y14 y15 y16 y17 y18 y19 y20 y21 y22 y23 y24 y25 y26 : HV} {q3 : Nat} {bs : List HV} {bl : Int} {w0 : Int} {w1 : Int} {w2 : Int} {q4 : Nat} {cs : List HV} {cv : Int} {w3 : Int} (g0 : ∀ kf, callN Tp polLf9 (kf + 1) 29 [.sl 0 0 q0 none q0 1] [.arr 1 xs true 0, .arr 1 ts true 0, .arr 1 ps true 0] = some (.tuple [.sl 3 0 q3 none q3 1, .i bl, .i 0], [.arr 1 xs true 0, .arr 1 ts true 0, .arr 1 ps true 0, .arr 1 bs true 0])) (g1 : ∀ kf, callN Tp polLf9 (kf + 1) 34 [.sl 0 0 q0 none q0 1, .sl 1 0 q1 none q1 1] [.arr 1 xs true 0, .arr 1 ts true 0, .arr 1 ps true 0, .arr 1 bs true 0] = some (.tuple [.i w0, .i 0], [.arr 1 xs true 0, .arr 1 ts true 0, .arr 1 ps true 0, .arr 1 bs true 0])) (g2 : ∀ kf, callN Tp polLf9 (kf + 1) 34 [.sl 0 0 q0 none q0 1, .sl 3 0 q3 none q3 1] [.arr 1 xs true 0, .arr 1 ts true 0, .arr 1 ps true 0, .arr 1 bs true 0] = some (.tuple [.i w1, .i 0], [.arr 1 xs true 0, .arr 1 ts true 0, .arr 1 ps true 0, .arr 1 bs true 0])) (g3 : ∀ kf, callN Tp polLf9 (kf + 1) 17 [.sl 0 0 q0 none q0 1, .sl 2 0 m none m 1] [.arr 1 xs true 0, .arr 1 ts true 0, .arr 1 ps true 0, .arr 1 bs true 0] = some (.tuple [.i w2, .i 0], [.arr 1 xs true 0, .arr 1 ts true 0, .arr 1 ps true 0, .arr 1 bs true 0])) (g4 : ∀ kf, callN Tp polLf9 (kf + 1) 31 [.sl 0 0 q0 none q0 1, .i 20] [.arr 1 xs true 0, .arr 1 ts true 0, .arr 1 ps true 0, .arr 1 bs true 0] = some (.tuple [.sl 4 0 q4 none q4 1, .i cv, .i 0], [.arr 1 xs true 0, .arr 1 ts true 0, .arr 1 ps true 0, .arr 1 bs true 0, .arr 1 cs true 0])) (g5 : ∀ kf, callN Tp polLf9 (kf + 1) 17 [.sl 0 0 q0 none q0 1, .sl 4 0 q4 none q4 1] [.arr 1 xs true 0, .arr 1 ts true 0, .arr 1 ps true 0, .arr 1 bs true 0, .arr 1 cs true 0] = some (.tuple [.i w3, .i 0], [.arr 1 xs true 0, .arr 1 ts true 0, .arr 1 ps true 0, .arr 1 bs true 0, .arr 1 cs true 0])) (g6 : bl = w1) (g7 : bl ≤ w0) (g8 : w2 ≤ bl) (g9 : cv ≤ bl) (g10 : w3 = cv) : RT polLf9 9 (sub [1, 1, 1, 1, 1, 1] B9) (env9 (.imm .arg 1 rw) (.imm .arg 1 la) (.imm .arg 1 ma) (.bool false) (.i nn) (.sl 0 0 q0 none q0 1) (.sl 1 0 q1 none q1 1) (.sl 2 0 m none m 1) y11 y12 y13 y14 y15 y16 y17 y18 y19 y20 y21 y22 y23 y24 y25 y26) [.arr 1 xs true 0, .arr 1 ts true 0, .arr 1 ps true 0] .ret (env9 (.imm .arg 1 rw) (.imm .arg 1 la) (.imm .arg 1 ma) (.bool true) (.i nn) (.sl 0 0 q0 none q0 1) (.sl 1 0 q1 none q1 1) (.sl 2 0 m none m 1) y11 y12 (.sl 3 0 q3 none q3 1) (.i bl) (.i 0) (.i w0) (.i 0) (.i w1) (.i 0) (.i w2) (.i 0) (.sl 4 0 q4 none q4 1) (.i cv) (.i 0) (.i w3) (.i 0)) [.arr 1 xs true 0, .arr 1 ts true 0, .arr 1 ps true 0, .arr 1 bs true 0, .arr 1 cs true 0] :=
  RunsTo.hin 0 60 [⟨12, 1, .tuple [.sl 3 0 q3 none q3 1, .i bl, .i 0], [.arr 1 xs true 0, .arr 1 ts true 0, .arr 1 ps true 0, .arr 1 bs true 0]⟩, ⟨13, 2, .tuple [.i w0, .i 0], [.arr 1 xs true 0, .arr 1 ts true 0, .arr 1 ps true 0, .arr 1 bs true 0]⟩, ⟨14, 2, .tuple [.i w1, .i 0], [.arr 1 xs true 0, .arr 1 ts true 0, .arr 1 ps true 0, .arr 1 bs true 0]⟩, ⟨15, 2, .tuple [.i w2, .i 0], [.arr 1 xs true 0, .arr 1 ts true 0, .arr 1 ps true 0, .arr 1 bs true 0]⟩, ⟨16, 1, .tuple [.sl 4 0 q4 none q4 1, .i cv, .i 0], [.arr 1 xs true 0, .arr 1 ts true 0, .arr 1 ps true 0, .arr 1 bs true 0, .arr 1 cs true 0]⟩, ⟨17, 2, .tuple [.i w3, .i 0], [.arr 1 xs true 0, .arr 1 ts true 0, .arr 1 ps true 0, .arr 1 bs true 0, .arr 1 cs true 0]⟩, ⟨18, 25, .bool true, [.arr 1 xs true 0, .arr 1 ts true 0, .arr 1 ps true 0, .arr 1 bs true 0, .arr 1 cs true 0]⟩, ⟨18, 30, .bool true, [.arr 1 xs true 0, .arr 1 ts true 0, .arr 1 ps true 0, .arr 1 bs true 0, .arr 1 cs true 0]⟩, ⟨18, 35, .bool true, [.arr 1 xs true 0, .arr 1 ts true 0, .arr 1 ps true 0, .arr 1 bs true 0, .arr 1 cs true 0]⟩, ⟨18, 40, .bool true, [.arr 1 xs true 0, .arr 1 ts true 0, .arr 1 ps true 0, .arr 1 bs true 0, .arr 1 cs true 0]⟩, ⟨18, 45, .bool true, [.arr 1 xs true 0, .arr 1 ts true 0, .arr 1 ps true 0, .arr 1 bs true 0, .arr 1 cs true 0]⟩] fun kf hk => ⟨_, by kernel_rfl, (oC (g0 kf) (oC (g1 kf) (oC (g2 kf) (oC (g3 kf) (oC (g4 kf) (oC (g5 kf) (oB [.arr 1 xs true 0, .arr 1 ts true 0, .arr 1 ps true 0, .arr 1 bs true 0, .arr 1 cs true 0] (decide_eq_true g6) (oB [.arr 1 xs true 0, .arr 1 ts true 0, .arr 1 ps true 0, .arr 1 bs true 0, .arr 1 cs true 0] (decide_eq_true g7) (oB [.arr 1 xs true 0, .arr 1 ts true 0, .arr 1 ps true 0, .arr 1 bs true 0, .arr 1 cs true 0] (decide_eq_true g8) (oB [.arr 1 xs true 0, .arr 1 ts true 0, .arr 1 ps true 0, .arr 1 bs true 0, .arr 1 cs true 0] (decide_eq_true g9) (oB [.arr 1 xs true 0, .arr 1 ts true 0, .arr 1 ps true 0, .arr 1 bs true 0, .arr 1 cs true 0] (decide_eq_true g10) .nil)))))))))))⟩
end Go.Proofs.Ytlendaofkmhgmaa
end
section
open Go Go.HL
namespace Go.Proofs.Ytlendaofkmhgmaa
open Go.Proofs.Try renaming prog → Tp
open Go.HL.HV renaming undef → Ud
theorem res9 : Try.f9.results.toList = [.tmp 6] := by kernel_rfl
def pv (m : List Int) (i : Nat) : Int := if i < m.length then modW (m.getD i 0) 20001 - 10000 else 0
def pvL (m : List Int) (k : Nat) : List Int := (List.range k).map (pv m)
theorem pvL_succ (m : List Int) (k : Nat) : pvL m (k + 1) = pvL m k ++ [pv m k] := by simp [pvL, List.range_succ]
theorem pvL_len (m : List Int) (k : Nat) : (pvL m k).length = k := by simp [pvL]
theorem pv_bd (m : List Int) (i : Nat) : -10000 ≤ pv m i ∧ pv m i ≤ 10000 := by
  unfold pv
  split
  · have := modW_bounds (m.getD i 0) 20001 (by omega) (by omega)
    omega
  · omega
theorem pvL_ok (m : List Int) (k : Nat) : prOk (pvL m k) := fun v hv => by
  obtain ⟨i, _, rfl⟩ := List.mem_map.1 hv
  exact pv_bd m i
section
variable {R0 : List (List Int)} {l0 m0 : List Int} {n : Nat} {d : List (List Int)} {l : List Int}
abbrev lleE (R0 : List (List Int)) (l0 m0 : List Int) (n q0 q1 m : Nat) (v11 : HV) : Env := (env9 (.imm .arg 1 (R0.map encR)) (.imm .arg 1 (l0.map encI)) (.imm .arg 1 (m0.map encI)) (.bool false) (.int .i64 (n : Int)) (.sl 0 0 q0 none q0 1) (.sl 1 0 q1 none q1 1) (.sl 2 0 m none m 1) v11 Ud Ud Ud Ud Ud Ud Ud Ud Ud Ud Ud Ud Ud Ud Ud)
theorem lle_loop (hn : n ≤ 20) : ∀ k i, i + k = n → RT polLf9 9 (sub [1, 1, 1, 1, 1, 0, 1, 0] B9) (lleE R0 l0 m0 n d.length l.length i (.int .i64 (i : Int))) [.arr 1 (d.map encO) true 0, bI l, bI (pvL m0 i)] (.exit 0)
      (lleE R0 l0 m0 n d.length l.length n (.int .i64 (n : Int))) [.arr 1 (d.map encO) true 0, bI l, bI (pvL m0 n)] := by
  intro k
  induction k with
  | zero =>
    intro i hi
    have : i = n := by omega
    subst this
    have s := lle_g_2 (R0.map encR) (l0.map encI) (m0.map encI) i d.length (d.map encO) l.length (l.map encI) i ((pvL m0 i).map encI) i (y12 := Ud) (y13 := Ud) (y14 := Ud) (y15 := Ud) (y16 := Ud) (y17 := Ud) (y18 := Ud) (y19 := Ud) (y20 := Ud) (y21 := Ud) (y22 := Ud) (y23 := Ud) (y24 := Ud) (y25 := Ud) (y26 := Ud) (by omega)
    exact lpo (s)
  | succ k ih =>
    intro i hi
    have b := pv_bd m0 i
    have r := ih (i + 1) (by omega)
    have ap := app_ints (H := [.arr 1 (d.map encO) true 0, bI l, bI (pvL m0 i)]) (b := 2) (o := pvL m0 i) (xs := [pv m0 i]) rfl (by rw [pvL_len, List.length_singleton]; omega) (by simp)
    rw [← pvL_succ, pvL_len, pvL_len] at ap
    have hap : ∀ v, v = pv m0 i → appV [.arr 1 (d.map encO) true 0, .arr 1 (l.map encI) true 0, .arr 1 ((pvL m0 i).map encI) true 0] 1 8 (.sl 2 0 i none i 1) [.int .i64 v] = some (.sl 2 0 (i + 1) none (i + 1) 1, [.arr 1 (d.map encO) true 0, .arr 1 (l.map encI) true 0, .arr 1 ((pvL m0 i).map encI ++ [.int .i64 v]) true 0]) := fun v hv => by
      subst hv
      have : (pvL m0 i).map encI ++ [.int .i64 (pv m0 i)] = (pvL m0 (i + 1)).map encI := by rw [pvL_succ]; simp [encI]
      rw [this]
      exact ap
    have hfin : ∀ v, v = pv m0 i → (pvL m0 i).map encI ++ [HV.int .i64 v] = (pvL m0 (i + 1)).map encI := fun v hv => by
      subst hv
      rw [pvL_succ]; simp [encI]
    by_cases c : i < m0.length
    · have e : pv m0 i = modW (m0.getD i 0) 20001 - 10000 := if_pos c
      have w : IntKind.i64.wrap (modW (m0.getD i 0) 20001 - 10000) = pv m0 i := by rw [← e]; exact wrap_id (by omega) (by omega)
      have s := lle_g_0 (R0.map encR) (l0.map encI) (m0.map encI) n d.length (d.map encO) l.length (l.map encI) i ((pvL m0 i).map encI) i (y12 := Ud) (y13 := Ud) (y14 := Ud) (y15 := Ud) (y16 := Ud) (y17 := Ud) (y18 := Ud) (y19 := Ud) (y20 := Ud) (y21 := Ud) (y22 := Ud) (y23 := Ud) (y24 := Ud) (y25 := Ud) (y26 := Ud) (by omega) (by rw [List.length_map]; omega) (gx c) (prim_mod (pol' := polLf9) (by kernel_rfl) (by omega) _) (hap _ w)
      rw [wrap_succ (by omega), hfin _ w] at s
      exact lop (s) (gc_eq _ rfl) (r)
    · have e : (0 : Int) = pv m0 i := (if_neg c).symm
      have s := lle_g_1 (R0.map encR) (l0.map encI) (m0.map encI) n d.length (d.map encO) l.length (l.map encI) i ((pvL m0 i).map encI) i (y12 := Ud) (y13 := Ud) (y14 := Ud) (y15 := Ud) (y16 := Ud) (y17 := Ud) (y18 := Ud) (y19 := Ud) (y20 := Ud) (y21 := Ud) (y22 := Ud) (y23 := Ud) (y24 := Ud) (y25 := Ud) (y26 := Ud) (by omega) (by rw [List.length_map]; omega) (hap _ e)
      rw [wrap_succ (by omega), hfin _ e] at s
      exact lop (s) (gc_eq _ rfl) (r)
end
theorem roundLeast_law (R0 : List (List Int)) (l0 m0 : List Int) : ∃ E H, RT polLf9 9 B9 (args0 [.imm .arg 1 (R0.map encR), .imm .arg 1 (l0.map encI), .imm .arg 1 (m0.map encI)]) [] .ret E H ∧ E.get 6 = .bool true := by
  obtain ⟨n, hn, hw⟩ := n_of R0 9 (by omega) 1 (by omega)
  have a := lle_a_0 (R0.map encR) (l0.map encI) (m0.map encI)
  have b := lle_b_0 (R0.map encR) (l0.map encI) (m0.map encI) (y7 := Ud) (y8 := Ud) (y9 := Ud) (y10 := Ud) (y11 := Ud) (y12 := Ud) (y13 := Ud) (y14 := Ud) (y15 := Ud) (y16 := Ud) (y17 := Ud) (y18 := Ud) (y19 := Ud) (y20 := Ud) (y21 := Ud) (y22 := Ud) (y23 := Ud) (y24 := Ud) (y25 := Ud) (y26 := Ud) (prim_mod (pol' := polLf9) (by kernel_rfl) (by omega) _)
  rw [hw] at b
  have c := lle_c_0 (R0.map encR) (l0.map encI) (m0.map encI) n (y8 := Ud) (y9 := Ud) (y10 := Ud) (y11 := Ud) (y12 := Ud) (y13 := Ud) (y14 := Ud) (y15 := Ud) (y16 := Ud) (y17 := Ud) (y18 := Ud) (y19 := Ud) (y20 := Ud) (y21 := Ud) (y22 := Ud) (y23 := Ud) (y24 := Ud) (y25 := Ud) (y26 := Ud) (c_tame (pol' := polLf9) (by kernel_rfl) (R := R0) (n := n) (mo := 1000) (by omega) (by omega) _)
  have hd : okD (tameL R0 n 1000) := tame_okD (by omega) (by omega)
  have hdl : (tameL R0 n 1000).length = n := mat_len _ _
  have ht := tour_trOk l0 (n := n) (by omega)
  rw [← hdl] at ht
  have dl := lle_d_0 (R0.map encR) (l0.map encI) (m0.map encI) n (tameL R0 n 1000).length ((tameL R0 n 1000).map encO) (y9 := Ud) (y10 := Ud) (y11 := Ud) (y12 := Ud) (y13 := Ud) (y14 := Ud) (y15 := Ud) (y16 := Ud) (y17 := Ud) (y18 := Ud) (y19 := Ud) (y20 := Ud) (y21 := Ud) (y22 := Ud) (y23 := Ud) (y24 := Ud) (y25 := Ud) (y26 := Ud) (c_tour (pol' := polLf9) (by kernel_rfl) (l := l0) (n := n) (by omega) _)
  generalize tameL R0 n 1000 = d at c dl hd hdl ht
  subst hdl
  generalize tourL l0 d.length = l at dl ht
  have e := lle_e_0 (R0.map encR) (l0.map encI) (m0.map encI) d.length d.length (d.map encO) l.length (l.map encI) (y10 := Ud) (y11 := Ud) (y12 := Ud) (y13 := Ud) (y14 := Ud) (y15 := Ud) (y16 := Ud) (y17 := Ud) (y18 := Ud) (y19 := Ud) (y20 := Ud) (y21 := Ud) (y22 := Ud) (y23 := Ud) (y24 := Ud) (y25 := Ud) (y26 := Ud)
  have f := lle_f_0 (R0.map encR) (l0.map encI) (m0.map encI) d.length d.length (d.map encO) l.length (l.map encI) 0 [] (y11 := Ud) (y12 := Ud) (y13 := Ud) (y14 := Ud) (y15 := Ud) (y16 := Ud) (y17 := Ud) (y18 := Ud) (y19 := Ud) (y20 := Ud) (y21 := Ud) (y22 := Ud) (y23 := Ud) (y24 := Ud) (y25 := Ud) (y26 := Ud)
  have r := lle_loop (R0 := R0) (l0 := l0) (m0 := m0) (n := d.length) (d := d) (l := l) (by omega) d.length 0 (by omega)
  have bt := best_tour hd
  have hbl := best_low hd ht
  have hpl : (pvL m0 d.length).length = d.length := pvL_len _ _
  have hpo := pvL_ok m0 d.length
  have hb1 := bndT_low hd hpl bt
  have k17 := q17b (pol' := polLf9) (by kernel_rfl) (d := d) (l := pvL m0 d.length) (H := [.arr 1 (d.map encO) true 0, bI l, bI (pvL m0 d.length), bI (bestT d)]) (lb := 2) rfl rfl hd hpl hpo
  obtain ⟨h1, h2, h3⟩ := climT_ok hd (s := 20) (by omega)
  have hb2 := bndT_low hd h1 bt
  rw [h3] at hb2
  have hr := rows_len hd
  have k31 := q31 (pol' := polLf9) (by kernel_rfl) (d := d) (H := [.arr 1 (d.map encO) true 0, bI l, bI (pvL m0 d.length), bI (bestT d)]) rfl hr.1 hr.2 (s := 20) (if_pos ⟨hd, by omega, by omega⟩)
  rw [show (20 : Int).toNat = 20 from rfl] at k31
  generalize climT d 20 = w at *
  have kb := c_best (pol' := polLf9) (by kernel_rfl) hd (xb := 0) (H := [.arr 1 (d.map encO) true 0, bI l, bI (pvL m0 d.length)]) rfl
  have kl := c_len (pol' := polLf9) (by kernel_rfl) hd ht (xb := 0) (lb := 1) (H := [.arr 1 (d.map encO) true 0, bI l, bI (pvL m0 d.length), bI (bestT d)]) rfl rfl
  have km := c_len (pol' := polLf9) (by kernel_rfl) hd bt (xb := 0) (lb := 3) (H := [.arr 1 (d.map encO) true 0, bI l, bI (pvL m0 d.length), bI (bestT d)]) rfl rfl
  have kz := q17b (pol' := polLf9) (by kernel_rfl) (d := d) (l := w.1) (H := [.arr 1 (d.map encO) true 0, bI l, bI (pvL m0 d.length), bI (bestT d), bI w.1]) (lb := 4) rfl rfl hd h1 h2
  rw [hpl] at k17
  have h := lle_h_0 (R0.map encR) (l0.map encI) (m0.map encI) d.length d.length (d.map encO) l.length (l.map encI) d.length ((pvL m0 d.length).map encI) (y11 := .int .i64 (d.length : Int)) (y12 := Ud) (y13 := Ud) (y14 := Ud) (y15 := Ud) (y16 := Ud) (y17 := Ud) (y18 := Ud) (y19 := Ud) (y20 := Ud) (y21 := Ud) (y22 := Ud) (y23 := Ud) (y24 := Ud) (y25 := Ud) (y26 := Ud) kb kl km k17 k31 kz rfl hbl hb1 hb2 h3
  exact ⟨_, _, sq (a) (sq (b) (sq (c) (sq (dl) (sq (e) (sq (sq (f) (bke (c := sub [1, 1, 1, 1, 1, 0, 1] B9) (lpi (e0 := (lleE R0 l0 m0 d.length d.length l.length 0 (.int .i64 ((0 : Nat) : Int)))) r (b := sub [1, 1, 1, 1, 1, 0, 1, 0, 0] B9))) (c := sub [1, 1, 1, 1, 1, 0] B9)) (h) (c := sub [1, 1, 1, 1, 1] B9)) (c := sub [1, 1, 1, 1] B9)) (c := sub [1, 1, 1] B9)) (c := sub [1, 1] B9)) (c := sub [1] B9)) (c := B9), rfl⟩
end Go.Proofs.Ytlendaofkmhgmaa
end
section
namespace Go.HL
open Go.ChangeShapes Go.WideShapes Go.ChangeAt Go.RowKit Go.Deep
theorem okNil (w : World) (r : Nat) : okOf Ctx.nil w.heap.size false r := by
  refine ⟨fun hM => ?_, by simp⟩
  obtain ⟨b, y, h1, _, _⟩ := M_iff.1 hM
  simp [Ctx.nil] at h1
theorem cell_lt {w : World} {a : Addr} {v : Value} (h : w.cell? a = some v) : a.block < w.heap.size := by
  rcases Nat.lt_or_ge a.block w.heap.size with hl | hl
  · exact hl
  · have : w.heap[a.block]? = none := by simp [hl]
    simp [World.cell?, this] at h
end Go.HL
end
section
namespace Go.HL
open Go.ChangeShapes Go.WideShapes Go.ChangeAt Go.RowKit Go.Deep
theorem arg_ints_ok {H : Type} {enc : TypeId × Value → H} {P : Program} {W : World} {base : Nat} {t q : TypeId} {v : Value} {d : DataW H} {ps : List MemPlace} (ht : P.underlying t = some (.slice q)) (hq : P.underlying q = some (.int .i64)) (cq : P.cellsOf q = 1)
    (hval : Value.okWide P W .any base t v) (hd : DataW.Trod enc P W 0 (fun _ => true) true t v d ps) : ∃ l : List Int, V W (okOf Ctx.nil W.heap.size) Ctx.nil (.imm .arg 1 (l.map encI)) v := by
  obtain ⟨a, len, cap, rfl⟩ := okWide_slice ht hval
  obtain ⟨fuel, hf⟩ := hd
  rcases open_slice ht hf with ⟨h0, _⟩ | ⟨a', len', cap', m, n, D, Pl, h0, hb, hl, hm, hmm, hx, hel⟩
  · simp [Value.cells] at h0
    obtain ⟨rfl, rfl, rfl⟩ := h0
    exact ⟨[], .imm .arg 1 [] none 0 (fun _ => .bool false) (by simp) (by simp) (by simp) (by simp) (by simp) (by simp)⟩
  · simp [Value.cells] at h0
    obtain ⟨rfl, rfl, rfl⟩ := h0
    have hlm : len ≤ m := by rw [hmm]; split <;> omega
    have each : ∀ i, i < len → ∃ z : Int, W.cell? (a'.add i) = some (.int .i64 z) := by
      intro i hi
      obtain ⟨cs', h1, h2⟩ := hel i (by omega)
      rw [cq] at h1
      obtain ⟨_, hlen, hcell⟩ := World.cells?_some h1
      match cs', hlen with
      | [v0], _ =>
        obtain ⟨z0, e0, _, _⟩ := DataW.trod_int hq h2
        simp at e0
        subst e0
        have c0 := hcell 0 (by omega)
        rw [add_add] at c0
        exact ⟨z0, by simpa using c0⟩
    obtain ⟨f, hf⟩ := choose_lt each
    refine ⟨(List.range len).map f, ?_⟩
    have hlen : (((List.range len).map f).map encI).length = len := by simp
    have key := V.imm (w := W) (ok := okOf Ctx.nil W.heap.size) (c := Ctx.nil) .arg 1 (((List.range len).map f).map encI) (some a') cap (fun j => .int .i64 (f j))
      (by rw [hlen]; exact hl) (by simp) ?_ ?_ ?_ ?_
    · rw [hlen] at key; exact key
    · intro hne
      have h0 : 0 < len := by
        rcases Nat.eq_zero_or_pos len with h | h
        · subst h; simp at hne
        · exact h
      obtain ⟨b, off, spot⟩ := a'
      have hspot : spot = none := by simpa [Addr.add] using World.cell?_spot (hf 0 h0)
      subst hspot
      refine ⟨b, off, rfl, by simpa [Addr.add] using cell_lt (hf 0 h0), okNil W b, fun j hj => ?_⟩
      rw [hlen] at hj
      have c0 := hf j (by omega)
      rw [add_plain] at c0
      exact c0
    · intro v hv
      obtain ⟨p, _, rfl⟩ := List.mem_map.1 hv
      rfl
    · intro v hv
      obtain ⟨p, _, rfl⟩ := List.mem_map.1 hv
      rfl
    · intro i v j x hi hj
      have hil : i < len := by have := lt_of_get hi; rw [hlen] at this; exact this
      have : v = encI (f i) := by
        rw [List.getElem?_map, List.getElem?_map, List.getElem?_range hil] at hi
        simpa using hi.symm
      subst this
      have hjx : j < 1 := lt_of_get hj
      match j, hjx, hj with
      | 0, _, hj =>
        simp [encI, cellsOf] at hj
        subst hj
        have e1 : i * 1 + 0 = i := by omega
        rw [e1]
        exact V.int _ _
end Go.HL
end
section
namespace Go.HL
open Go.ChangeShapes Go.WideShapes Go.ChangeAt Go.RowKit Go.Deep
theorem ints_cells {H : Type} {enc : TypeId × Value → H} {P : Program} {W : World} {base fuel : Nat} {sp : Nat → Bool} {held : Bool} {t q : TypeId} {cs : List Value} {x : DataW H × List MemPlace} (ht : P.underlying t = some (.slice q)) (hq : P.underlying q = some (.int .i64)) (cq : P.cellsOf q = 1)
    (hf : DataW.trod enc P W base sp held fuel t cs = some x) : ∃ (l : List Int) (v : Value), cs = [v] ∧ V W (okOf Ctx.nil W.heap.size) Ctx.nil (.imm .arg 1 (l.map encI)) v := by
  rcases open_slice ht hf with ⟨h0, _⟩ | ⟨a', len, cap, m, n, D, Pl, h0, hb, hl, hm, hmm, hx, hel⟩
  · exact ⟨[], _, h0, .imm .arg 1 [] none 0 (fun _ => .bool false) (by simp) (by simp) (by simp) (by simp) (by simp) (by simp)⟩
  · subst h0
    have hlm : len ≤ m := by rw [hmm]; split <;> omega
    have each : ∀ i, i < len → ∃ z : Int, W.cell? (a'.add i) = some (.int .i64 z) := by
      intro i hi
      obtain ⟨cs', h1, h2⟩ := hel i (by omega)
      rw [cq] at h1
      obtain ⟨_, hlen, hcell⟩ := World.cells?_some h1
      match cs', hlen with
      | [v0], _ =>
        obtain ⟨z0, e0, _, _⟩ := DataW.trod_int hq h2
        simp at e0
        subst e0
        have c0 := hcell 0 (by omega)
        rw [add_add] at c0
        exact ⟨z0, by simpa using c0⟩
    obtain ⟨f, hf⟩ := choose_lt each
    refine ⟨(List.range len).map f, _, rfl, ?_⟩
    have hlen : (((List.range len).map f).map encI).length = len := by simp
    have key := V.imm (w := W) (ok := okOf Ctx.nil W.heap.size) (c := Ctx.nil) .arg 1 (((List.range len).map f).map encI) (some a') cap (fun j => .int .i64 (f j))
      (by rw [hlen]; exact hl) (by simp) ?_ ?_ ?_ ?_
    · rw [hlen] at key; exact key
    · intro hne
      have h0 : 0 < len := by
        rcases Nat.eq_zero_or_pos len with h | h
        · subst h; simp at hne
        · exact h
      obtain ⟨b, off, spot⟩ := a'
      have hspot : spot = none := by simpa [Addr.add] using World.cell?_spot (hf 0 h0)
      subst hspot
      refine ⟨b, off, rfl, by simpa [Addr.add] using cell_lt (hf 0 h0), okNil W b, fun j hj => ?_⟩
      rw [hlen] at hj
      have c0 := hf j (by omega)
      rw [add_plain] at c0
      exact c0
    · intro v hv
      obtain ⟨p, _, rfl⟩ := List.mem_map.1 hv
      rfl
    · intro v hv
      obtain ⟨p, _, rfl⟩ := List.mem_map.1 hv
      rfl
    · intro i v j x hi hj
      have hil : i < len := by have := lt_of_get hi; rw [hlen] at this; exact this
      have : v = encI (f i) := by
        rw [List.getElem?_map, List.getElem?_map, List.getElem?_range hil] at hi
        simpa using hi.symm
      subst this
      have hjx : j < 1 := lt_of_get hj
      match j, hjx, hj with
      | 0, _, hj =>
        simp [encI, cellsOf] at hj
        subst hj
        have e1 : i * 1 + 0 = i := by omega
        rw [e1]
        exact V.int _ _
def encRH (r : List Int) : HV := .imm .arg 1 (r.map encI)
theorem rows_cells {H : Type} {enc : TypeId × Value → H} {P : Program} {W : World} {base fuel : Nat} {sp : Nat → Bool} {held : Bool} {s t q : TypeId} {cs : List Value} {x : DataW H × List MemPlace} (hs : P.underlying s = some (.slice t)) (ct : P.cellsOf t = 1) (ht : P.underlying t = some (.slice q)) (hq : P.underlying q = some (.int .i64)) (cq : P.cellsOf q = 1)
    (hf : DataW.trod enc P W base sp held fuel s cs = some x) : ∃ (R : List (List Int)) (v : Value), cs = [v] ∧ V W (okOf Ctx.nil W.heap.size) Ctx.nil (.imm .arg 1 (R.map encRH)) v := by
  rcases open_slice hs hf with ⟨h0, _⟩ | ⟨a', len, cap, m, n, D, Pl, h0, hb, hl, hm, hmm, hx, hel⟩
  · exact ⟨[], _, h0, .imm .arg 1 [] none 0 (fun _ => .bool false) (by simp) (by simp) (by simp) (by simp) (by simp) (by simp)⟩
  · subst h0
    have hlm : len ≤ m := by rw [hmm]; split <;> omega
    have each : ∀ i, i < len → ∃ p : List Int × Value, W.cell? (a'.add i) = some p.2 ∧ V W (okOf Ctx.nil W.heap.size) Ctx.nil (encRH p.1) p.2 := by
      intro i hi
      obtain ⟨cs', h1, h2⟩ := hel i (by omega)
      rw [ct, Nat.mul_one] at h1
      obtain ⟨_, hlen, hcell⟩ := World.cells?_some h1
      obtain ⟨l, v, rfl, hV⟩ := ints_cells ht hq cq h2
      have c0 := hcell 0 (by omega)
      rw [add_add] at c0
      exact ⟨(l, v), by simpa using c0, hV⟩
    obtain ⟨f, hf⟩ := choose_lt each
    refine ⟨(List.range len).map fun i => (f i).1, _, rfl, ?_⟩
    have hlen : (((List.range len).map fun i => (f i).1).map encRH).length = len := by simp
    have key := V.imm (w := W) (ok := okOf Ctx.nil W.heap.size) (c := Ctx.nil) .arg 1 (((List.range len).map fun i => (f i).1).map encRH) (some a') cap (fun j => (f j).2)
      (by rw [hlen]; exact hl) (by simp) ?_ ?_ ?_ ?_
    · rw [hlen] at key; exact key
    · intro hne
      have h0 : 0 < len := by
        rcases Nat.eq_zero_or_pos len with h | h
        · subst h; simp at hne
        · exact h
      obtain ⟨b, off, spot⟩ := a'
      have hspot : spot = none := by simpa [Addr.add] using World.cell?_spot (hf 0 h0).1
      subst hspot
      refine ⟨b, off, rfl, by simpa [Addr.add] using cell_lt (hf 0 h0).1, okNil W b, fun j hj => ?_⟩
      rw [hlen, Nat.mul_one] at hj
      have c0 := (hf j hj).1
      rw [add_plain] at c0
      exact c0
    · intro v hv
      obtain ⟨p, _, rfl⟩ := List.mem_map.1 hv
      rfl
    · intro v hv
      obtain ⟨p, _, rfl⟩ := List.mem_map.1 hv
      rfl
    · intro i v j x hi hj
      have hil : i < len := by have := lt_of_get hi; rw [hlen] at this; exact this
      have : v = encRH (f i).1 := by
        rw [List.getElem?_map, List.getElem?_map, List.getElem?_range hil] at hi
        simpa using hi.symm
      subst this
      have hjx : j < 1 := lt_of_get hj
      obtain rfl : j = 0 := by omega
      simp [encRH, cellsOf] at hj
      subst hj
      have e1 : i * 1 + 0 = i := by omega
      rw [e1]
      exact (hf i hil).2
theorem arg_rows_ok {H : Type} {enc : TypeId × Value → H} {P : Program} {W : World} {base : Nat} {s t q : TypeId} {v : Value} {d : DataW H} {ps : List MemPlace} (hs : P.underlying s = some (.slice t)) (ct : P.cellsOf t = 1) (ht : P.underlying t = some (.slice q)) (hq : P.underlying q = some (.int .i64)) (cq : P.cellsOf q = 1)
    (hval : Value.okWide P W .any base s v) (hd : DataW.Trod enc P W 0 (fun _ => true) true s v d ps) : ∃ R : List (List Int), V W (okOf Ctx.nil W.heap.size) Ctx.nil (.imm .arg 1 (R.map encRH)) v := by
  obtain ⟨a, len, cap, rfl⟩ := okWide_slice hs hval
  obtain ⟨fuel, hf⟩ := hd
  obtain ⟨R, v, hv, h⟩ := rows_cells hs ct ht hq cq hf
  simp [Value.cells] at hv
  subst hv
  exact ⟨R, h⟩
end Go.HL
end
