/- A part of the proof. -/
import Derived.Test.YtlendaofkmhgmaaP4A
set_option linter.unusedVariables false
set_option linter.unusedSimpArgs false
section
open Go Go.HL
namespace Go.Proofs.Ytlendaofkmhgmaa
set_option maxRecDepth 100000
noncomputable def B23 : Code := Try.f23.body.getD .skip
abbrev env23 (v0 v1 v2 v3 v5 v6 v7 v8 v9 v10 v11 v12 v13 v14 v15 v16 v17 v43 v44 v47 v48 v52 v53 v97 v98 : HV) : Env := [(0, v0), (1, v1), (2, v2), (3, v3), (5, v5), (6, v6), (7, v7), (8, v8), (9, v9), (10, v10), (11, v11), (12, v12), (13, v13), (14, v14), (15, v15), (16, v16), (17, v17), (43, v43), (44, v44), (47, v47), (48, v48), (52, v52), (53, v53), (97, v97), (98, v98)]
theorem wa_a_0 (N : Nat) (rw : List HV) (fr to : Int) (H : Heap) (H0 : Heap) (H1 : Heap) (g0 : some (newV (.imm .arg 1 rw) H) = some (.ptr 0 0 0 1, H0)) (g1 : some (newV (.i to) H0) = some (.ptr 1 0 0 1, H1)) : RunsTo Try.prog polK 23 (sub [0] B23) [(0, .imm .arg 1 rw), (1, .i fr), (2, .i to)] H .normal (polK.keys 23) (env23 (.imm .arg 1 rw) (.i fr) (.i to) (.ptr 0 0 0 1) (.ptr 1 0 0 1) (.imm .lit 1 []) (.i 0) (.i 0) .undef .undef .undef .undef .undef .undef .undef .undef .undef .undef .undef .undef .undef .undef .undef .undef .undef) H1 :=
  RunsTo.hin N 60 [⟨0, 0, .ptr 0 0 0 1, H0⟩, ⟨0, 1, .ptr 1 0 0 1, H1⟩] fun kf hk => ⟨_, by kernel_rfl, (oC (g0) (oC (g1) .nil))⟩
theorem wa_b_0 (N : Nat) (rw : List HV) (fr to : Int) (H : Heap) (H0 : Heap) (g0 : loadV Try.prog H 22 (.ptr 0 0 0 1) = some (.imm .arg 1 rw)) (g1 : ∀ kf, N ≤ kf → callN Try.prog polK (kf + 1) 46 [.imm .arg 1 rw] H = some (.bool true, H0)) (g2 : loadV Try.prog H0 22 (.ptr 0 0 0 1) = some (.imm .arg 1 rw)) (g3 : (0 : Int) ≤ fr ∧ fr ≤ IntKind.i64.wrap ((rw.length : Int) - 1)) (g4 : loadV Try.prog H0 3 (.ptr 1 0 0 1) = some (.i to)) (g5 : loadV Try.prog H0 22 (.ptr 0 0 0 1) = some (.imm .arg 1 rw)) (g6 : (0 : Int) ≤ to ∧ to ≤ IntKind.i64.wrap ((rw.length : Int) - 1)) : RunsTo Try.prog polK 23 (sub [1, 0] B23) (env23 (.imm .arg 1 rw) (.i fr) (.i to) (.ptr 0 0 0 1) (.ptr 1 0 0 1) (.imm .lit 1 []) (.i 0) (.i 0) .undef .undef .undef .undef .undef .undef .undef .undef .undef .undef .undef .undef .undef .undef .undef .undef .undef) H .normal (polK.keys 23) (env23 (.imm .arg 1 rw) (.i fr) (.i to) (.ptr 0 0 0 1) (.ptr 1 0 0 1) (.imm .lit 1 []) (.i 0) (.i 0) .undef .undef .undef .undef .undef .undef .undef .undef .undef .undef .undef .undef .undef .undef .undef .undef .undef) H0 :=
  RunsTo.hin N 60 [⟨1, 0, .imm .arg 1 rw, H⟩, ⟨1, 1, .bool true, H0⟩, ⟨1, 5, .imm .arg 1 rw, H0⟩, ⟨1, 8, .bool true, H0⟩, ⟨1, 12, .i to, H0⟩, ⟨1, 13, .imm .arg 1 rw, H0⟩, ⟨1, 16, .bool true, H0⟩] fun kf hk => ⟨_, by kernel_rfl, (oP H g0 (oC (g1 kf (by omega)) (oP H0 g2 (oB H0 (decide_eq_true g3) (oP H0 g4 (oP H0 g5 (oB H0 (decide_eq_true g6) .nil)))))))⟩
theorem wa_b_1 (N : Nat) (rw : List HV) (fr to : Int) (H : Heap) (H0 : Heap) (g0 : loadV Try.prog H 22 (.ptr 0 0 0 1) = some (.imm .arg 1 rw)) (g1 : ∀ kf, N ≤ kf → callN Try.prog polK (kf + 1) 46 [.imm .arg 1 rw] H = some (.bool true, H0)) (g2 : loadV Try.prog H0 22 (.ptr 0 0 0 1) = some (.imm .arg 1 rw)) (g3 : (0 : Int) ≤ fr ∧ fr ≤ IntKind.i64.wrap ((rw.length : Int) - 1)) (g4 : loadV Try.prog H0 3 (.ptr 1 0 0 1) = some (.i to)) (g5 : loadV Try.prog H0 22 (.ptr 0 0 0 1) = some (.imm .arg 1 rw)) (g6 : ¬ ((0 : Int) ≤ to ∧ to ≤ IntKind.i64.wrap ((rw.length : Int) - 1))) : RunsTo Try.prog polK 23 (sub [1, 0] B23) (env23 (.imm .arg 1 rw) (.i fr) (.i to) (.ptr 0 0 0 1) (.ptr 1 0 0 1) (.imm .lit 1 []) (.i 0) (.i 0) .undef .undef .undef .undef .undef .undef .undef .undef .undef .undef .undef .undef .undef .undef .undef .undef .undef) H .ret (polK.keys 23) (env23 (.imm .arg 1 rw) (.i fr) (.i to) (.ptr 0 0 0 1) (.ptr 1 0 0 1) (.imm .lit 1 []) (.i 0) (.i 2) .undef .undef .undef .undef .undef .undef .undef .undef .undef .undef .undef .undef .undef .undef .undef .undef .undef) H0 :=
  RunsTo.hin N 60 [⟨1, 0, .imm .arg 1 rw, H⟩, ⟨1, 1, .bool true, H0⟩, ⟨1, 5, .imm .arg 1 rw, H0⟩, ⟨1, 8, .bool true, H0⟩, ⟨1, 12, .i to, H0⟩, ⟨1, 13, .imm .arg 1 rw, H0⟩, ⟨1, 16, .bool false, H0⟩] fun kf hk => ⟨_, by kernel_rfl, (oP H g0 (oC (g1 kf (by omega)) (oP H0 g2 (oB H0 (decide_eq_true g3) (oP H0 g4 (oP H0 g5 (oB H0 (decide_eq_false g6) .nil)))))))⟩
theorem wa_b_2 (N : Nat) (rw : List HV) (fr to : Int) (H : Heap) (H0 : Heap) (g0 : loadV Try.prog H 22 (.ptr 0 0 0 1) = some (.imm .arg 1 rw)) (g1 : ∀ kf, N ≤ kf → callN Try.prog polK (kf + 1) 46 [.imm .arg 1 rw] H = some (.bool true, H0)) (g2 : loadV Try.prog H0 22 (.ptr 0 0 0 1) = some (.imm .arg 1 rw)) (g3 : ¬ ((0 : Int) ≤ fr ∧ fr ≤ IntKind.i64.wrap ((rw.length : Int) - 1))) : RunsTo Try.prog polK 23 (sub [1, 0] B23) (env23 (.imm .arg 1 rw) (.i fr) (.i to) (.ptr 0 0 0 1) (.ptr 1 0 0 1) (.imm .lit 1 []) (.i 0) (.i 0) .undef .undef .undef .undef .undef .undef .undef .undef .undef .undef .undef .undef .undef .undef .undef .undef .undef) H .ret (polK.keys 23) (env23 (.imm .arg 1 rw) (.i fr) (.i to) (.ptr 0 0 0 1) (.ptr 1 0 0 1) (.imm .lit 1 []) (.i 0) (.i 2) .undef .undef .undef .undef .undef .undef .undef .undef .undef .undef .undef .undef .undef .undef .undef .undef .undef) H0 :=
  RunsTo.hin N 60 [⟨1, 0, .imm .arg 1 rw, H⟩, ⟨1, 1, .bool true, H0⟩, ⟨1, 5, .imm .arg 1 rw, H0⟩, ⟨1, 8, .bool false, H0⟩] fun kf hk => ⟨_, by kernel_rfl, (oP H g0 (oC (g1 kf (by omega)) (oP H0 g2 (oB H0 (decide_eq_false g3) .nil))))⟩
theorem wa_b_3 (N : Nat) (rw : List HV) (fr to : Int) (H : Heap) (H0 : Heap) (g0 : loadV Try.prog H 22 (.ptr 0 0 0 1) = some (.imm .arg 1 rw)) (g1 : ∀ kf, N ≤ kf → callN Try.prog polK (kf + 1) 46 [.imm .arg 1 rw] H = some (.bool false, H0)) : RunsTo Try.prog polK 23 (sub [1, 0] B23) (env23 (.imm .arg 1 rw) (.i fr) (.i to) (.ptr 0 0 0 1) (.ptr 1 0 0 1) (.imm .lit 1 []) (.i 0) (.i 0) .undef .undef .undef .undef .undef .undef .undef .undef .undef .undef .undef .undef .undef .undef .undef .undef .undef) H .ret (polK.keys 23) (env23 (.imm .arg 1 rw) (.i fr) (.i to) (.ptr 0 0 0 1) (.ptr 1 0 0 1) (.imm .lit 1 []) (.i 0) (.i 2) .undef .undef .undef .undef .undef .undef .undef .undef .undef .undef .undef .undef .undef .undef .undef .undef .undef) H0 :=
  RunsTo.hin N 60 [⟨1, 0, .imm .arg 1 rw, H⟩, ⟨1, 1, .bool false, H0⟩] fun kf hk => ⟨_, by kernel_rfl, (oP H g0 (oC (g1 kf (by omega)) .nil))⟩
theorem wa_c_0 (N : Nat) (rw la : List HV) (n : Nat) (fr to : Int) (H : Heap) (l0 : List HV) (H0 : Heap) (H1 : Heap) (H2 : Heap) (g0 : loadV Try.prog H 22 (.ptr 0 0 0 1) = some (.imm .arg 1 rw)) (g1 : loadV Try.prog H 3 (.ptr 1 0 0 1) = some (.i to)) (g2 : idxV Try.prog 22 (.imm .arg 1 rw) (.i to) = some (.vptr (.imm .arg 1 l0))) (g3 : ∀ kf, N ≤ kf → callN Try.prog polK (kf + 1) 52 [.imm .arg 1 l0] H = some (.sl 2 0 n none n 1, H0)) (g4 : some (HV.ptr H0.length 0 0 1, H0 ++ [Blk.arr 1 [HV.sl (H0.length + 1) 0 0 none 0 1] true (H0.length + 2), Blk.arr 1 [] true 0]) = some (.ptr 3 0 0 1, H1)) (g5 : storeV Try.prog H1 23 (.ptr 3 0 0 1) (.sl 2 0 n none n 1) = some H2) : RunsTo Try.prog polK 23 (sub [1, 1, 0] B23) (env23 (.imm .arg 1 rw) (.i fr) (.i to) (.ptr 0 0 0 1) (.ptr 1 0 0 1) (.imm .lit 1 []) (.i 0) (.i 0) .undef .undef .undef .undef .undef .undef .undef .undef .undef .undef .undef .undef .undef .undef .undef .undef .undef) H .normal (polK.keys 23) (env23 (.imm .arg 1 rw) (.i fr) (.i to) (.ptr 0 0 0 1) (.ptr 1 0 0 1) (.imm .lit 1 []) (.i 0) (.i 0) (.ptr 3 0 0 1) .undef .undef .undef .undef .undef .undef .undef .undef .undef .undef .undef .undef .undef .undef .undef .undef) H2 :=
  RunsTo.hin N 60 [⟨3, 0, .imm .arg 1 rw, H⟩, ⟨3, 1, .i to, H⟩, ⟨3, 2, .vptr (.imm .arg 1 l0), H⟩, ⟨3, 4, .sl 2 0 n none n 1, H0⟩, ⟨3, 5, .ptr 3 0 0 1, H1⟩, ⟨3, 6, .tuple [], H2⟩] fun kf hk => ⟨_, by kernel_rfl, (oP H g0 (oP H g1 (oP H g2 (oC (g3 kf (by omega)) (oC (g4) (oS g5 .nil))))))⟩
theorem wa_d_0 (N : Nat) (rw la : List HV) (n : Nat) (fr to : Int) (H : Heap)(g0 : loadV Try.prog H 22 (.ptr 0 0 0 1) = some (.imm .arg 1 rw)) : RunsTo Try.prog polK 23 (sub [1, 1, 1, 0, 0] B23) (env23 (.imm .arg 1 rw) (.i fr) (.i to) (.ptr 0 0 0 1) (.ptr 1 0 0 1) (.imm .lit 1 []) (.i 0) (.i 0) (.ptr 3 0 0 1) .undef .undef .undef .undef .undef .undef .undef .undef .undef .undef .undef .undef .undef .undef .undef .undef) H .normal (polK.keys 23) (env23 (.imm .arg 1 rw) (.i fr) (.i to) (.ptr 0 0 0 1) (.ptr 1 0 0 1) (.imm .lit 1 []) (.i 0) (.i 0) (.ptr 3 0 0 1) .undef .undef .undef .undef .undef .undef .undef .undef (.i (rw.length : Int)) (.i 0) .undef .undef .undef .undef .undef .undef) H :=
  RunsTo.hin N 60 [⟨4, 0, .imm .arg 1 rw, H⟩] fun kf hk => ⟨_, by kernel_rfl, (oP H g0 .nil)⟩
theorem wa_e_0 (N : Nat) (rw la : List HV) (n : Nat) (fr to : Int) (H : Heap) (i : Nat)(g0 : (i : Int) < (n : Int)) : RunsTo Try.prog polK 23 (sub [1, 1, 1, 0, 1, 0, 0, 0] B23) (env23 (.imm .arg 1 rw) (.i fr) (.i to) (.ptr 0 0 0 1) (.ptr 1 0 0 1) (.imm .lit 1 []) (.i 0) (.i 0) (.ptr 3 0 0 1) .undef .undef .undef .undef .undef .undef .undef .undef (.i (n : Int)) (.i (i : Int)) .undef .undef .undef .undef .undef .undef) H .normal [0, 1, 2, 3, 5, 6, 7, 8, 9, 10, 11, 12, 13, 14, 15, 16, 17, 43, 44, 47, 48, 52, 53, 97, 98, 45] [(0, .imm .arg 1 rw), (1, .i fr), (2, .i to), (3, .ptr 0 0 0 1), (5, .ptr 1 0 0 1), (6, .imm .lit 1 []), (7, .i 0), (8, .i 0), (9, .ptr 3 0 0 1), (10, .undef), (11, .undef), (12, .undef), (13, .undef), (14, .undef), (15, .undef), (16, .undef), (17, .undef), (43, .i (n : Int)), (44, .i (i : Int)), (47, .undef), (48, .undef), (52, .undef), (53, .undef), (97, .undef), (98, .undef), (45, .bool true)] H :=
  RunsTo.hin N 60 [⟨5, 0, .bool true, H⟩] fun kf hk => ⟨_, by kernel_rfl, (oB H (decide_eq_true g0) .nil)⟩
theorem wa_e_1 (N : Nat) (rw la : List HV) (n : Nat) (fr to : Int) (H : Heap) (i : Nat)(g0 : ¬ ((i : Int) < (n : Int))) : RunsTo Try.prog polK 23 (sub [1, 1, 1, 0, 1, 0, 0, 0] B23) (env23 (.imm .arg 1 rw) (.i fr) (.i to) (.ptr 0 0 0 1) (.ptr 1 0 0 1) (.imm .lit 1 []) (.i 0) (.i 0) (.ptr 3 0 0 1) .undef .undef .undef .undef .undef .undef .undef .undef (.i (n : Int)) (.i (i : Int)) .undef .undef .undef .undef .undef .undef) H .normal [0, 1, 2, 3, 5, 6, 7, 8, 9, 10, 11, 12, 13, 14, 15, 16, 17, 43, 44, 47, 48, 52, 53, 97, 98, 45] [(0, .imm .arg 1 rw), (1, .i fr), (2, .i to), (3, .ptr 0 0 0 1), (5, .ptr 1 0 0 1), (6, .imm .lit 1 []), (7, .i 0), (8, .i 0), (9, .ptr 3 0 0 1), (10, .undef), (11, .undef), (12, .undef), (13, .undef), (14, .undef), (15, .undef), (16, .undef), (17, .undef), (43, .i (n : Int)), (44, .i (i : Int)), (47, .undef), (48, .undef), (52, .undef), (53, .undef), (97, .undef), (98, .undef), (45, .bool false)] H :=
  RunsTo.hin N 60 [⟨5, 0, .bool false, H⟩] fun kf hk => ⟨_, by kernel_rfl, (oB H (decide_eq_false g0) .nil)⟩
theorem wa_ft_0 (N : Nat) (rw la : List HV) (n : Nat) (fr to : Int) (H : Heap) (i : Nat) : RunsTo Try.prog polK 23 (sub [1, 1, 1, 0, 1, 0, 0, 1, 0] B23) [(0, .imm .arg 1 rw), (1, .i fr), (2, .i to), (3, .ptr 0 0 0 1), (5, .ptr 1 0 0 1), (6, .imm .lit 1 []), (7, .i 0), (8, .i 0), (9, .ptr 3 0 0 1), (10, .undef), (11, .undef), (12, .undef), (13, .undef), (14, .undef), (15, .undef), (16, .undef), (17, .undef), (43, .i (n : Int)), (44, .i (i : Int)), (47, .undef), (48, .undef), (52, .undef), (53, .undef), (97, .undef), (98, .undef), (45, .bool true)] H .normal (polK.keys 23) (env23 (.imm .arg 1 rw) (.i fr) (.i to) (.ptr 0 0 0 1) (.ptr 1 0 0 1) (.imm .lit 1 []) (.i 0) (.i 0) (.ptr 3 0 0 1) .undef .undef .undef .undef .undef .undef .undef .undef (.i (n : Int)) (.i (i : Int)) .undef .undef .undef .undef .undef .undef) H :=
  RunsTo.hin N 60 [] fun kf hk => ⟨_, by kernel_rfl, .nil⟩
theorem wa_ff_0 (N : Nat) (rw la : List HV) (n : Nat) (fr to : Int) (H : Heap) (i : Nat) : RunsTo Try.prog polK 23 (sub [1, 1, 1, 0, 1, 0, 0, 1, 0] B23) [(0, .imm .arg 1 rw), (1, .i fr), (2, .i to), (3, .ptr 0 0 0 1), (5, .ptr 1 0 0 1), (6, .imm .lit 1 []), (7, .i 0), (8, .i 0), (9, .ptr 3 0 0 1), (10, .undef), (11, .undef), (12, .undef), (13, .undef), (14, .undef), (15, .undef), (16, .undef), (17, .undef), (43, .i (n : Int)), (44, .i (i : Int)), (47, .undef), (48, .undef), (52, .undef), (53, .undef), (97, .undef), (98, .undef), (45, .bool false)] H (.exit 0) (polK.keys 23) (env23 (.imm .arg 1 rw) (.i fr) (.i to) (.ptr 0 0 0 1) (.ptr 1 0 0 1) (.imm .lit 1 []) (.i 0) (.i 0) (.ptr 3 0 0 1) .undef .undef .undef .undef .undef .undef .undef .undef (.i (n : Int)) (.i (i : Int)) .undef .undef .undef .undef .undef .undef) H :=
  RunsTo.hin N 60 [] fun kf hk => ⟨_, by kernel_rfl, .nil⟩
theorem wa_g_0 (N : Nat) (rw la : List HV) (n : Nat) (fr to : Int) (H : Heap) (i : Nat)(g0 : loadV Try.prog H 22 (.ptr 0 0 0 1) = some (.imm .arg 1 rw)) : RunsTo Try.prog polK 23 (sub [1, 1, 1, 0, 1, 0, 0, 1, 1, 0, 0, 0] B23) (env23 (.imm .arg 1 rw) (.i fr) (.i to) (.ptr 0 0 0 1) (.ptr 1 0 0 1) (.imm .lit 1 []) (.i 0) (.i 0) (.ptr 3 0 0 1) .undef .undef .undef .undef .undef .undef .undef .undef (.i (n : Int)) (.i (i : Int)) .undef .undef .undef .undef .undef .undef) H .normal (polK.keys 23) (env23 (.imm .arg 1 rw) (.i fr) (.i to) (.ptr 0 0 0 1) (.ptr 1 0 0 1) (.imm .lit 1 []) (.i 0) (.i 0) (.ptr 3 0 0 1) .undef .undef .undef .undef .undef .undef .undef .undef (.i (n : Int)) (.i (i : Int)) (.i (rw.length : Int)) (.i 0) .undef .undef .undef .undef) H :=
  RunsTo.hin N 60 [⟨6, 0, .imm .arg 1 rw, H⟩] fun kf hk => ⟨_, by kernel_rfl, (oP H g0 .nil)⟩
theorem wa_h_0 (N : Nat) (rw la : List HV) (n : Nat) (fr to : Int) (H : Heap) (i : Nat) (j : Nat)(g0 : (j : Int) < (n : Int)) : RunsTo Try.prog polK 23 (sub [1, 1, 1, 0, 1, 0, 0, 1, 1, 0, 0, 1, 0, 0, 0] B23) (env23 (.imm .arg 1 rw) (.i fr) (.i to) (.ptr 0 0 0 1) (.ptr 1 0 0 1) (.imm .lit 1 []) (.i 0) (.i 0) (.ptr 3 0 0 1) .undef .undef .undef .undef .undef .undef .undef .undef (.i (n : Int)) (.i (i : Int)) (.i (n : Int)) (.i (j : Int)) .undef .undef .undef .undef) H .normal [0, 1, 2, 3, 5, 6, 7, 8, 9, 10, 11, 12, 13, 14, 15, 16, 17, 43, 44, 47, 48, 52, 53, 97, 98, 49] [(0, .imm .arg 1 rw), (1, .i fr), (2, .i to), (3, .ptr 0 0 0 1), (5, .ptr 1 0 0 1), (6, .imm .lit 1 []), (7, .i 0), (8, .i 0), (9, .ptr 3 0 0 1), (10, .undef), (11, .undef), (12, .undef), (13, .undef), (14, .undef), (15, .undef), (16, .undef), (17, .undef), (43, .i (n : Int)), (44, .i (i : Int)), (47, .i (n : Int)), (48, .i (j : Int)), (52, .undef), (53, .undef), (97, .undef), (98, .undef), (49, .bool true)] H :=
  RunsTo.hin N 60 [⟨7, 0, .bool true, H⟩] fun kf hk => ⟨_, by kernel_rfl, (oB H (decide_eq_true g0) .nil)⟩
theorem wa_h_1 (N : Nat) (rw la : List HV) (n : Nat) (fr to : Int) (H : Heap) (i : Nat) (j : Nat)(g0 : ¬ ((j : Int) < (n : Int))) : RunsTo Try.prog polK 23 (sub [1, 1, 1, 0, 1, 0, 0, 1, 1, 0, 0, 1, 0, 0, 0] B23) (env23 (.imm .arg 1 rw) (.i fr) (.i to) (.ptr 0 0 0 1) (.ptr 1 0 0 1) (.imm .lit 1 []) (.i 0) (.i 0) (.ptr 3 0 0 1) .undef .undef .undef .undef .undef .undef .undef .undef (.i (n : Int)) (.i (i : Int)) (.i (n : Int)) (.i (j : Int)) .undef .undef .undef .undef) H .normal [0, 1, 2, 3, 5, 6, 7, 8, 9, 10, 11, 12, 13, 14, 15, 16, 17, 43, 44, 47, 48, 52, 53, 97, 98, 49] [(0, .imm .arg 1 rw), (1, .i fr), (2, .i to), (3, .ptr 0 0 0 1), (5, .ptr 1 0 0 1), (6, .imm .lit 1 []), (7, .i 0), (8, .i 0), (9, .ptr 3 0 0 1), (10, .undef), (11, .undef), (12, .undef), (13, .undef), (14, .undef), (15, .undef), (16, .undef), (17, .undef), (43, .i (n : Int)), (44, .i (i : Int)), (47, .i (n : Int)), (48, .i (j : Int)), (52, .undef), (53, .undef), (97, .undef), (98, .undef), (49, .bool false)] H :=
  RunsTo.hin N 60 [⟨7, 0, .bool false, H⟩] fun kf hk => ⟨_, by kernel_rfl, (oB H (decide_eq_false g0) .nil)⟩
theorem wa_it_0 (N : Nat) (rw la : List HV) (n : Nat) (fr to : Int) (H : Heap) (i : Nat) (j : Nat) : RunsTo Try.prog polK 23 (sub [1, 1, 1, 0, 1, 0, 0, 1, 1, 0, 0, 1, 0, 0, 1, 0] B23) [(0, .imm .arg 1 rw), (1, .i fr), (2, .i to), (3, .ptr 0 0 0 1), (5, .ptr 1 0 0 1), (6, .imm .lit 1 []), (7, .i 0), (8, .i 0), (9, .ptr 3 0 0 1), (10, .undef), (11, .undef), (12, .undef), (13, .undef), (14, .undef), (15, .undef), (16, .undef), (17, .undef), (43, .i (n : Int)), (44, .i (i : Int)), (47, .i (n : Int)), (48, .i (j : Int)), (52, .undef), (53, .undef), (97, .undef), (98, .undef), (49, .bool true)] H .normal (polK.keys 23) (env23 (.imm .arg 1 rw) (.i fr) (.i to) (.ptr 0 0 0 1) (.ptr 1 0 0 1) (.imm .lit 1 []) (.i 0) (.i 0) (.ptr 3 0 0 1) .undef .undef .undef .undef .undef .undef .undef .undef (.i (n : Int)) (.i (i : Int)) (.i (n : Int)) (.i (j : Int)) .undef .undef .undef .undef) H :=
  RunsTo.hin N 60 [] fun kf hk => ⟨_, by kernel_rfl, .nil⟩
theorem wa_if_0 (N : Nat) (rw la : List HV) (n : Nat) (fr to : Int) (H : Heap) (i : Nat) (j : Nat) : RunsTo Try.prog polK 23 (sub [1, 1, 1, 0, 1, 0, 0, 1, 1, 0, 0, 1, 0, 0, 1, 0] B23) [(0, .imm .arg 1 rw), (1, .i fr), (2, .i to), (3, .ptr 0 0 0 1), (5, .ptr 1 0 0 1), (6, .imm .lit 1 []), (7, .i 0), (8, .i 0), (9, .ptr 3 0 0 1), (10, .undef), (11, .undef), (12, .undef), (13, .undef), (14, .undef), (15, .undef), (16, .undef), (17, .undef), (43, .i (n : Int)), (44, .i (i : Int)), (47, .i (n : Int)), (48, .i (j : Int)), (52, .undef), (53, .undef), (97, .undef), (98, .undef), (49, .bool false)] H (.exit 2) (polK.keys 23) (env23 (.imm .arg 1 rw) (.i fr) (.i to) (.ptr 0 0 0 1) (.ptr 1 0 0 1) (.imm .lit 1 []) (.i 0) (.i 0) (.ptr 3 0 0 1) .undef .undef .undef .undef .undef .undef .undef .undef (.i (n : Int)) (.i (i : Int)) (.i (n : Int)) (.i (j : Int)) .undef .undef .undef .undef) H :=
  RunsTo.hin N 60 [] fun kf hk => ⟨_, by kernel_rfl, .nil⟩
theorem wa_j_0 (N : Nat) (rw la : List HV) (n : Nat) (fr to : Int) (H : Heap) (i : Nat) (j : Nat) : RunsTo Try.prog polK 23 (sub [1, 1, 1, 0, 1, 0, 0, 1, 1, 0, 0, 1, 0, 0, 1, 1, 0, 0, 0] B23) (env23 (.imm .arg 1 rw) (.i fr) (.i to) (.ptr 0 0 0 1) (.ptr 1 0 0 1) (.imm .lit 1 []) (.i 0) (.i 0) (.ptr 3 0 0 1) .undef .undef .undef .undef .undef .undef .undef .undef (.i (n : Int)) (.i (i : Int)) (.i (n : Int)) (.i (j : Int)) .undef .undef .undef .undef) H .normal (polK.keys 23) (env23 (.imm .arg 1 rw) (.i fr) (.i to) (.ptr 0 0 0 1) (.ptr 1 0 0 1) (.imm .lit 1 []) (.i 0) (.i 0) (.ptr 3 0 0 1) (.i (j : Int)) .undef .undef .undef .undef .undef .undef .undef (.i (n : Int)) (.i (i : Int)) (.i (n : Int)) (.i (j : Int)) .undef .undef .undef .undef) H :=
  RunsTo.hin N 60 [] fun kf hk => ⟨_, by kernel_rfl, .nil⟩
theorem wa_k_0 (N : Nat) (rw la : List HV) (n : Nat) (fr to : Int) (H : Heap) (i : Nat) (j : Nat)(g0 : loadV Try.prog H 22 (.ptr 0 0 0 1) = some (.imm .arg 1 rw)) : RunsTo Try.prog polK 23 (sub [1, 1, 1, 0, 1, 0, 0, 1, 1, 0, 0, 1, 0, 0, 1, 1, 0, 0, 1, 0] B23) (env23 (.imm .arg 1 rw) (.i fr) (.i to) (.ptr 0 0 0 1) (.ptr 1 0 0 1) (.imm .lit 1 []) (.i 0) (.i 0) (.ptr 3 0 0 1) (.i (j : Int)) .undef .undef .undef .undef .undef .undef .undef (.i (n : Int)) (.i (i : Int)) (.i (n : Int)) (.i (j : Int)) .undef .undef .undef .undef) H .normal (polK.keys 23) (env23 (.imm .arg 1 rw) (.i fr) (.i to) (.ptr 0 0 0 1) (.ptr 1 0 0 1) (.imm .lit 1 []) (.i 0) (.i 0) (.ptr 3 0 0 1) (.i (j : Int)) .undef .undef .undef .undef .undef .undef .undef (.i (n : Int)) (.i (i : Int)) (.i (n : Int)) (.i (j : Int)) (.i (rw.length : Int)) (.i 0) .undef .undef) H :=
  RunsTo.hin N 60 [⟨9, 0, .imm .arg 1 rw, H⟩] fun kf hk => ⟨_, by kernel_rfl, (oP H g0 .nil)⟩
theorem wa_l_0 (N : Nat) (rw la : List HV) (n : Nat) (fr to : Int) (H : Heap) (i : Nat) (j : Nat) (k : Nat) (x0 : Int) (l0 : List HV) (x1 : Int) (x2 : Int) (H0 : Heap) (g0 : (k : Int) < (n : Int)) (g1 : loadV Try.prog H 23 (.ptr 3 0 0 1) = some (.sl 2 0 n none n 1)) (g2 : loadV Try.prog H 23 (.ptr 3 0 0 1) = some (.sl 2 0 n none n 1)) (g3 : idxV Try.prog 23 (.sl 2 0 n none n 1) (.i (j : Int)) = some (.ptr 2 j 0 n)) (g4 : loadV Try.prog H 3 (.ptr 2 j 0 n) = some (.i x0)) (g5 : loadV Try.prog H 22 (.ptr 0 0 0 1) = some (.imm .arg 1 rw)) (g6 : idxV Try.prog 22 (.imm .arg 1 rw) (.i (j : Int)) = some (.vptr (.imm .arg 1 l0))) (g7 : idxV Try.prog 23 (.imm .arg 1 l0) (.i (k : Int)) = some (.vptr (.i x1))) (g8 : loadV Try.prog H 23 (.ptr 3 0 0 1) = some (.sl 2 0 n none n 1)) (g9 : idxV Try.prog 23 (.sl 2 0 n none n 1) (.i (k : Int)) = some (.ptr 2 k 0 n)) (g10 : loadV Try.prog H 3 (.ptr 2 k 0 n) = some (.i x2)) (g11 : idxV Try.prog 23 (.sl 2 0 n none n 1) (.i (j : Int)) = some (.ptr 2 j 0 n)) (g12 : storeV Try.prog H 3 (.ptr 2 j 0 n) (.i (min x0 (IntKind.i64.wrap (x1 + x2)))) = some H0) : RunsTo Try.prog polK 23 (sub [1, 1, 1, 0, 1, 0, 0, 1, 1, 0, 0, 1, 0, 0, 1, 1, 0, 0, 1, 1, 0, 0] B23) (env23 (.imm .arg 1 rw) (.i fr) (.i to) (.ptr 0 0 0 1) (.ptr 1 0 0 1) (.imm .lit 1 []) (.i 0) (.i 0) (.ptr 3 0 0 1) (.i (j : Int)) .undef .undef .undef .undef .undef .undef .undef (.i (n : Int)) (.i (i : Int)) (.i (n : Int)) (.i (j : Int)) (.i (n : Int)) (.i (k : Int)) .undef .undef) H .normal (polK.keys 23) (env23 (.imm .arg 1 rw) (.i fr) (.i to) (.ptr 0 0 0 1) (.ptr 1 0 0 1) (.imm .lit 1 []) (.i 0) (.i 0) (.ptr 3 0 0 1) (.i (j : Int)) (.i (k : Int)) .undef .undef .undef .undef .undef .undef (.i (n : Int)) (.i (i : Int)) (.i (n : Int)) (.i (j : Int)) (.i (n : Int)) (.i (IntKind.i64.wrap ((k : Int) + 1))) .undef .undef) H0 :=
  RunsTo.hin N 60 [⟨10, 0, .bool true, H⟩, ⟨12, 0, .sl 2 0 n none n 1, H⟩, ⟨12, 2, .sl 2 0 n none n 1, H⟩, ⟨12, 4, .ptr 2 j 0 n, H⟩, ⟨12, 5, .i x0, H⟩, ⟨12, 6, .imm .arg 1 rw, H⟩, ⟨12, 8, .vptr (.imm .arg 1 l0), H⟩, ⟨12, 11, .vptr (.i x1), H⟩, ⟨12, 13, .sl 2 0 n none n 1, H⟩, ⟨12, 15, .ptr 2 k 0 n, H⟩, ⟨12, 16, .i x2, H⟩, ⟨12, 19, .ptr 2 j 0 n, H⟩, ⟨12, 20, .tuple [], H0⟩] fun kf hk => ⟨_, by kernel_rfl, (oB H (decide_eq_true g0) (oP H g1 (oP H g2 (oP H g3 (oP H g4 (oP H g5 (oP H g6 (oP H g7 (oP H g8 (oP H g9 (oP H g10 (oP H g11 (oS g12 .nil)))))))))))))⟩
theorem wa_l_1 (N : Nat) (rw la : List HV) (n : Nat) (fr to : Int) (H : Heap) (i : Nat) (j : Nat) (k : Nat)(g0 : ¬ ((k : Int) < (n : Int))) : RunsTo Try.prog polK 23 (sub [1, 1, 1, 0, 1, 0, 0, 1, 1, 0, 0, 1, 0, 0, 1, 1, 0, 0, 1, 1, 0, 0] B23) (env23 (.imm .arg 1 rw) (.i fr) (.i to) (.ptr 0 0 0 1) (.ptr 1 0 0 1) (.imm .lit 1 []) (.i 0) (.i 0) (.ptr 3 0 0 1) (.i (j : Int)) .undef .undef .undef .undef .undef .undef .undef (.i (n : Int)) (.i (i : Int)) (.i (n : Int)) (.i (j : Int)) (.i (n : Int)) (.i (k : Int)) .undef .undef) H (.exit 4) (polK.keys 23) (env23 (.imm .arg 1 rw) (.i fr) (.i to) (.ptr 0 0 0 1) (.ptr 1 0 0 1) (.imm .lit 1 []) (.i 0) (.i 0) (.ptr 3 0 0 1) (.i (j : Int)) .undef .undef .undef .undef .undef .undef .undef (.i (n : Int)) (.i (i : Int)) (.i (n : Int)) (.i (j : Int)) (.i (n : Int)) (.i (k : Int)) .undef .undef) H :=
  RunsTo.hin N 60 [⟨10, 0, .bool false, H⟩] fun kf hk => ⟨_, by kernel_rfl, (oB H (decide_eq_false g0) .nil)⟩
theorem wa_m_0 (N : Nat) (rw la : List HV) (n : Nat) (fr to : Int) (H : Heap) (i : Nat) (j : Nat) (k : Nat) : RunsTo Try.prog polK 23 (sub [1, 1, 1, 0, 1, 0, 0, 1, 1, 0, 0, 1, 0, 0, 1, 1, 1] B23) (env23 (.imm .arg 1 rw) (.i fr) (.i to) (.ptr 0 0 0 1) (.ptr 1 0 0 1) (.imm .lit 1 []) (.i 0) (.i 0) (.ptr 3 0 0 1) (.i (j : Int)) .undef .undef .undef .undef .undef .undef .undef (.i (n : Int)) (.i (i : Int)) (.i (n : Int)) (.i (j : Int)) (.i (n : Int)) (.i (k : Int)) .undef .undef) H .normal (polK.keys 23) (env23 (.imm .arg 1 rw) (.i fr) (.i to) (.ptr 0 0 0 1) (.ptr 1 0 0 1) (.imm .lit 1 []) (.i 0) (.i 0) (.ptr 3 0 0 1) (.i (j : Int)) .undef .undef .undef .undef .undef .undef .undef (.i (n : Int)) (.i (i : Int)) (.i (n : Int)) (.i (IntKind.i64.wrap ((j : Int) + 1))) (.i (n : Int)) (.i (k : Int)) .undef .undef) H :=
  RunsTo.hin N 60 [] fun kf hk => ⟨_, by kernel_rfl, .nil⟩
theorem wa_n_0 (N : Nat) (rw la : List HV) (n : Nat) (fr to : Int) (H : Heap) (i : Nat) (j : Nat) : RunsTo Try.prog polK 23 (sub [1, 1, 1, 0, 1, 0, 0, 1, 1, 1] B23) (env23 (.imm .arg 1 rw) (.i fr) (.i to) (.ptr 0 0 0 1) (.ptr 1 0 0 1) (.imm .lit 1 []) (.i 0) (.i 0) (.ptr 3 0 0 1) .undef .undef .undef .undef .undef .undef .undef .undef (.i (n : Int)) (.i (i : Int)) (.i (n : Int)) (.i (j : Int)) .undef .undef .undef .undef) H .normal (polK.keys 23) (env23 (.imm .arg 1 rw) (.i fr) (.i to) (.ptr 0 0 0 1) (.ptr 1 0 0 1) (.imm .lit 1 []) (.i 0) (.i 0) (.ptr 3 0 0 1) .undef .undef .undef .undef .undef .undef .undef .undef (.i (n : Int)) (.i (IntKind.i64.wrap ((i : Int) + 1))) (.i (n : Int)) (.i (j : Int)) .undef .undef .undef .undef) H :=
  RunsTo.hin N 60 [] fun kf hk => ⟨_, by kernel_rfl, .nil⟩
theorem wa_o_0 (N : Nat) (rw la : List HV) (n : Nat) (fr to : Int) (H : Heap) (i : Nat) (H0 : Heap) (H1 : Heap) (H2 : Heap) (g0 : some (HV.map H.length, H ++ [Blk.map [] [] 0]) = some (.map 5, H0)) (g1 : some (newV (.nilmap) H0) = some (.ptr 6 0 0 1, H1)) (g2 : storeV Try.prog H1 74 (.ptr 6 0 0 1) (.map 5) = some H2) : RunsTo Try.prog polK 23 (sub [1, 1, 1, 1, 0] B23) (env23 (.imm .arg 1 rw) (.i fr) (.i to) (.ptr 0 0 0 1) (.ptr 1 0 0 1) (.imm .lit 1 []) (.i 0) (.i 0) (.ptr 3 0 0 1) .undef .undef .undef .undef .undef .undef .undef .undef (.i (n : Int)) (.i (i : Int)) .undef .undef .undef .undef .undef .undef) H .normal (polK.keys 23) (env23 (.imm .arg 1 rw) (.i fr) (.i to) (.ptr 0 0 0 1) (.ptr 1 0 0 1) (.imm .lit 1 []) (.i 0) (.i 0) (.ptr 3 0 0 1) .undef .undef (.ptr 6 0 0 1) .undef .undef .undef .undef .undef (.i (n : Int)) (.i (i : Int)) .undef .undef .undef .undef .undef .undef) H2 :=
  RunsTo.hin N 60 [⟨16, 0, .map 5, H0⟩, ⟨16, 1, .ptr 6 0 0 1, H1⟩, ⟨16, 2, .tuple [], H2⟩] fun kf hk => ⟨_, by kernel_rfl, (oC (g0) (oC (g1) (oS g2 .nil)))⟩
theorem wa_p_0 (N : Nat) (rw la : List HV) (n : Nat) (fr to : Int) (H : Heap) (i : Nat) (H0 : Heap) (g0 : some (newV (.nilFunc) H) = some (.ptr 7 0 0 1, H0)) : RunsTo Try.prog polK 23 (sub [1, 1, 1, 1, 1, 0] B23) (env23 (.imm .arg 1 rw) (.i fr) (.i to) (.ptr 0 0 0 1) (.ptr 1 0 0 1) (.imm .lit 1 []) (.i 0) (.i 0) (.ptr 3 0 0 1) .undef .undef (.ptr 6 0 0 1) .undef .undef .undef .undef .undef (.i (n : Int)) (.i (i : Int)) .undef .undef .undef .undef .undef .undef) H .normal (polK.keys 23) (env23 (.imm .arg 1 rw) (.i fr) (.i to) (.ptr 0 0 0 1) (.ptr 1 0 0 1) (.imm .lit 1 []) (.i 0) (.i 0) (.ptr 3 0 0 1) .undef .undef (.ptr 6 0 0 1) (.ptr 7 0 0 1) .undef .undef .undef .undef (.i (n : Int)) (.i (i : Int)) .undef .undef .undef .undef .undef .undef) H0 :=
  RunsTo.hin N 60 [⟨17, 0, .ptr 7 0 0 1, H0⟩] fun kf hk => ⟨_, by kernel_rfl, (oC (g0) .nil)⟩
theorem wa_q_0 (N : Nat) (rw la : List HV) (n : Nat) (fr to : Int) (H : Heap) (i : Nat) (H0 : Heap) (g0 : storeV Try.prog H 75 (.ptr 7 0 0 1) (.func 53 [] [.ptr 1 0 0 1, .ptr 6 0 0 1, .ptr 0 0 0 1, .ptr 3 0 0 1, .ptr 7 0 0 1]) = some H0) : RunsTo Try.prog polK 23 (sub [1, 1, 1, 1, 1, 1, 0] B23) (env23 (.imm .arg 1 rw) (.i fr) (.i to) (.ptr 0 0 0 1) (.ptr 1 0 0 1) (.imm .lit 1 []) (.i 0) (.i 0) (.ptr 3 0 0 1) .undef .undef (.ptr 6 0 0 1) (.ptr 7 0 0 1) .undef .undef .undef .undef (.i (n : Int)) (.i (i : Int)) .undef .undef .undef .undef .undef .undef) H .normal (polK.keys 23) (env23 (.imm .arg 1 rw) (.i fr) (.i to) (.ptr 0 0 0 1) (.ptr 1 0 0 1) (.imm .lit 1 []) (.i 0) (.i 0) (.ptr 3 0 0 1) .undef .undef (.ptr 6 0 0 1) (.ptr 7 0 0 1) .undef .undef .undef .undef (.i (n : Int)) (.i (i : Int)) .undef .undef .undef .undef .undef .undef) H0 :=
  RunsTo.hin N 60 [⟨18, 1, .tuple [], H0⟩] fun kf hk => ⟨_, by kernel_rfl, (oS g0 .nil)⟩
theorem wa_r_0 (N : Nat) (rw la : List HV) (n : Nat) (fr to : Int) (H : Heap) (i : Nat) (h0 : Int) (h1 : Int) (h2 : Int) (H0 : Heap) (H1 : Heap) (g0 : loadV Try.prog H 22 (.ptr 0 0 0 1) = some (.imm .arg 1 rw)) (g1 : binV Try.prog .shl 3 (.i 1) (.i (rw.length : Int)) = some (.i h0)) (g2 : binV Try.prog .shl 3 (.i 1) (.i fr) = some (.i h1)) (g3 : binV Try.prog .andNot 3 (.i (IntKind.i64.wrap (h0 - 1))) (.i h1) = some (.i h2)) (g4 : some (newV (.agg [.i 0, .i 0]) H) = some (.ptr 8 0 0 1, H0)) (g5 : storeV Try.prog H0 77 (.ptr 8 0 0 1) (.agg [.i fr, .i h2]) = some H1) (gS19 : (recL ((loadV Try.prog H 22 (.ptr 0 0 0 1)).map (fun v => (v, (H : Heap)))) ((loadV Try.prog H0 22 (.ptr 0 0 0 1)).map (fun v => (v, (H0 : Heap)))) H H0 && ((same (.i (rw.length : Int)) (.i (rw.length : Int)) && sameH (H : Heap) H && sameH (H0 : Heap) H0) && true)) = true) : RunsTo Try.prog polK 23 (sub [1, 1, 1, 1, 1, 1, 1, 0] B23) (env23 (.imm .arg 1 rw) (.i fr) (.i to) (.ptr 0 0 0 1) (.ptr 1 0 0 1) (.imm .lit 1 []) (.i 0) (.i 0) (.ptr 3 0 0 1) .undef .undef (.ptr 6 0 0 1) (.ptr 7 0 0 1) .undef .undef .undef .undef (.i (n : Int)) (.i (i : Int)) .undef .undef .undef .undef .undef .undef) H .normal (polK.keys 23) (env23 (.imm .arg 1 rw) (.i fr) (.i to) (.ptr 0 0 0 1) (.ptr 1 0 0 1) (.imm .lit 1 []) (.i 0) (.i 0) (.ptr 3 0 0 1) .undef .undef (.ptr 6 0 0 1) (.ptr 7 0 0 1) (.ptr 8 0 0 1) .undef .undef .undef (.i (n : Int)) (.i (i : Int)) .undef .undef .undef .undef .undef .undef) H1 :=
  RunsTo.hin N 60 [⟨19, 1, .imm .arg 1 rw, H⟩, ⟨19, 3, .i h0, H⟩, ⟨19, 6, .i h1, H⟩, ⟨19, 7, .i h2, H⟩, ⟨19, 9, .ptr 8 0 0 1, H0⟩, ⟨19, 10, .tuple [], H1⟩] fun kf hk => ⟨_, by kernel_rfl, (oC (gS19) (oP H g0 (oP H g1 (oP H g2 (oP H g3 (oC (g4) (oS g5 .nil)))))))⟩
theorem wa_s_0 (N : Nat) (rw la : List HV) (n : Nat) (fr to : Int) (H : Heap) (i : Nat) (tv : HV) (H0 : Heap) (g0 : litV Try.prog true true 23 1 [(0, .i fr)] H = some (tv, H0)) : RunsTo Try.prog polK 23 (sub [1, 1, 1, 1, 1, 1, 1, 1, 0] B23) (env23 (.imm .arg 1 rw) (.i fr) (.i to) (.ptr 0 0 0 1) (.ptr 1 0 0 1) (.imm .lit 1 []) (.i 0) (.i 0) (.ptr 3 0 0 1) .undef .undef (.ptr 6 0 0 1) (.ptr 7 0 0 1) (.ptr 8 0 0 1) .undef .undef .undef (.i (n : Int)) (.i (i : Int)) .undef .undef .undef .undef .undef .undef) H .normal (polK.keys 23) (env23 (.imm .arg 1 rw) (.i fr) (.i to) (.ptr 0 0 0 1) (.ptr 1 0 0 1) (.imm .lit 1 []) (.i 0) (.i 0) (.ptr 3 0 0 1) .undef .undef (.ptr 6 0 0 1) (.ptr 7 0 0 1) (.ptr 8 0 0 1) tv .undef .undef (.i (n : Int)) (.i (i : Int)) .undef .undef .undef .undef .undef .undef) H0 :=
  RunsTo.hin N 60 [⟨20, 1, tv, H0⟩] fun kf hk => ⟨_, by kernel_rfl, (oC (g0) .nil)⟩
theorem wa_t_0 (N : Nat) (rw la : List HV) (n : Nat) (fr to : Int) (H : Heap) (tv : HV) (v w : Nat)(g0 : loadV Try.prog H 3 (.ptr 8 0 0 1) = some (.i (v : Int))) (g1 : loadV Try.prog H 3 (.ptr 1 0 0 1) = some (.i to)) (g2 : (v : Int) = to) : RunsTo Try.prog polK 23 (sub [1, 1, 1, 1, 1, 1, 1, 1, 1, 0, 0, 0, 0] B23) (env23 (.imm .arg 1 rw) (.i fr) (.i to) (.ptr 0 0 0 1) (.ptr 1 0 0 1) (.imm .lit 1 []) (.i 0) (.i 0) (.ptr 3 0 0 1) .undef .undef .undef (.ptr 7 0 0 1) (.ptr 8 0 0 1) tv .undef .undef .undef .undef .undef .undef .undef .undef .undef .undef) H (.exit 6) (polK.keys 23) (env23 (.imm .arg 1 rw) (.i fr) (.i to) (.ptr 0 0 0 1) (.ptr 1 0 0 1) (.imm .lit 1 []) (.i 0) (.i 0) (.ptr 3 0 0 1) .undef .undef .undef (.ptr 7 0 0 1) (.ptr 8 0 0 1) tv .undef .undef .undef .undef .undef .undef .undef .undef .undef .undef) H :=
  RunsTo.hin N 60 [⟨21, 1, .i (v : Int), H⟩, ⟨21, 2, .i to, H⟩, ⟨21, 3, .bool false, H⟩] fun kf hk => ⟨_, by kernel_rfl, (oP H g0 (oP H g1 (oB H (congrArg not (decide_eq_true g2)) .nil)))⟩
theorem wa_t_1 (N : Nat) (rw la : List HV) (n : Nat) (fr to : Int) (H : Heap) (tv : HV) (v w : Nat)(g0 : loadV Try.prog H 3 (.ptr 8 0 0 1) = some (.i (v : Int))) (g1 : loadV Try.prog H 3 (.ptr 1 0 0 1) = some (.i to)) (g2 : ¬ ((v : Int) = to)) : RunsTo Try.prog polK 23 (sub [1, 1, 1, 1, 1, 1, 1, 1, 1, 0, 0, 0, 0] B23) (env23 (.imm .arg 1 rw) (.i fr) (.i to) (.ptr 0 0 0 1) (.ptr 1 0 0 1) (.imm .lit 1 []) (.i 0) (.i 0) (.ptr 3 0 0 1) .undef .undef .undef (.ptr 7 0 0 1) (.ptr 8 0 0 1) tv .undef .undef .undef .undef .undef .undef .undef .undef .undef .undef) H .normal (polK.keys 23) (env23 (.imm .arg 1 rw) (.i fr) (.i to) (.ptr 0 0 0 1) (.ptr 1 0 0 1) (.imm .lit 1 []) (.i 0) (.i 0) (.ptr 3 0 0 1) .undef .undef .undef (.ptr 7 0 0 1) (.ptr 8 0 0 1) tv .undef .undef .undef .undef .undef .undef .undef .undef .undef .undef) H :=
  RunsTo.hin N 60 [⟨21, 1, .i (v : Int), H⟩, ⟨21, 2, .i to, H⟩, ⟨21, 3, .bool true, H⟩] fun kf hk => ⟨_, by kernel_rfl, (oP H g0 (oP H g1 (oB H (congrArg not (decide_eq_false g2)) .nil)))⟩
theorem wa_u_0 (N : Nat) (rw la : List HV) (n : Nat) (fr to : Int) (H : Heap) (tv : HV) (v w : Nat)(g0 : loadV Try.prog H 22 (.ptr 0 0 0 1) = some (.imm .arg 1 rw)) : RunsTo Try.prog polK 23 (sub [1, 1, 1, 1, 1, 1, 1, 1, 1, 0, 0, 0, 1, 0, 0] B23) (env23 (.imm .arg 1 rw) (.i fr) (.i to) (.ptr 0 0 0 1) (.ptr 1 0 0 1) (.imm .lit 1 []) (.i 0) (.i 0) (.ptr 3 0 0 1) .undef .undef .undef (.ptr 7 0 0 1) (.ptr 8 0 0 1) tv .undef .undef .undef .undef .undef .undef .undef .undef .undef .undef) H .normal (polK.keys 23) (env23 (.imm .arg 1 rw) (.i fr) (.i to) (.ptr 0 0 0 1) (.ptr 1 0 0 1) (.imm .lit 1 []) (.i 0) (.i 0) (.ptr 3 0 0 1) .undef .undef .undef (.ptr 7 0 0 1) (.ptr 8 0 0 1) tv .undef .undef .undef .undef .undef .undef .undef .undef (.i (rw.length : Int)) (.i 0)) H :=
  RunsTo.hin N 60 [⟨22, 0, .imm .arg 1 rw, H⟩] fun kf hk => ⟨_, by kernel_rfl, (oP H g0 .nil)⟩
theorem wa_v_0 (N : Nat) (rw la : List HV) (n : Nat) (fr to : Int) (H : Heap) (tv : HV) (v w : Nat) (i nb : Nat) (w2 : Int) (h0 : Int) (h1 : Int) (H0 : Heap) (H1 : Heap) (g0 : (i : Int) < (n : Int)) (g1 : loadV Try.prog H 3 (.ptr 8 0 1 1) = some (.i (w : Int))) (g2 : binV Try.prog .shl 3 (.i 1) (.i (i : Int)) = some (.i h0)) (g3 : binV Try.prog .andNot 3 (.i (w : Int)) (.i h0) = some (.i h1)) (g4 : some (newV (.agg [.i 0, .i 0]) H) = some (.ptr nb 0 0 1, H0)) (g5 : storeV Try.prog H0 77 (.ptr nb 0 0 1) (.agg [.i (i : Int), .i h1]) = some H1) (gS25 : (recL ((loadV Try.prog H 3 (.ptr 8 0 1 1)).map (fun v => (v, (H : Heap)))) ((loadV Try.prog H0 3 (.ptr 8 0 1 1)).map (fun v => (v, (H0 : Heap)))) H H0 && true) = true) (g7 : loadV Try.prog H1 3 (.ptr 8 0 1 1) = some (.i (w : Int))) (g8 : loadV Try.prog H1 3 (.ptr nb 0 1 1) = some (.i w2)) (g9 : (w : Int) = w2) : RunsTo Try.prog polK 23 (sub [1, 1, 1, 1, 1, 1, 1, 1, 1, 0, 0, 0, 1, 0, 1, 0, 0] B23) (env23 (.imm .arg 1 rw) (.i fr) (.i to) (.ptr 0 0 0 1) (.ptr 1 0 0 1) (.imm .lit 1 []) (.i 0) (.i 0) (.ptr 3 0 0 1) .undef .undef .undef (.ptr 7 0 0 1) (.ptr 8 0 0 1) tv .undef .undef .undef .undef .undef .undef .undef .undef (.i (n : Int)) (.i (i : Int))) H .normal (polK.keys 23) (env23 (.imm .arg 1 rw) (.i fr) (.i to) (.ptr 0 0 0 1) (.ptr 1 0 0 1) (.imm .lit 1 []) (.i 0) (.i 0) (.ptr 3 0 0 1) .undef .undef .undef (.ptr 7 0 0 1) (.ptr 8 0 0 1) tv (.i (i : Int)) (.ptr nb 0 0 1) .undef .undef .undef .undef .undef .undef (.i (n : Int)) (.i (IntKind.i64.wrap ((i : Int) + 1)))) H1 :=
  RunsTo.hin N 60 [⟨23, 0, .bool true, H⟩, ⟨25, 2, .i (w : Int), H⟩, ⟨25, 4, .i h0, H⟩, ⟨25, 5, .i h1, H⟩, ⟨25, 7, .ptr nb 0 0 1, H0⟩, ⟨25, 8, .tuple [], H1⟩, ⟨26, 1, .i (w : Int), H1⟩, ⟨26, 3, .i w2, H1⟩, ⟨26, 4, .bool false, H1⟩] fun kf hk => ⟨_, by kernel_rfl, (oB H (decide_eq_true g0) (oC (gS25) (oP H g1 (oP H g2 (oP H g3 (oC (g4) (oS g5 (oP H1 g7 (oP H1 g8 (oB H1 (congrArg not (decide_eq_true g9)) .nil))))))))))⟩
theorem wa_v_1 (N : Nat) (rw la : List HV) (n : Nat) (fr to : Int) (H : Heap) (tv : HV) (v w : Nat) (i nb : Nat) (w2 : Int) (h0 : Int) (h1 : Int) (H0 : Heap) (H1 : Heap) (l0 : List HV) (x0 : Int) (x1 : Int) (x2 : Int) (H2 : Heap) (H3 : Heap) (H4 : Heap) (v0 : HV) (g0 : (i : Int) < (n : Int)) (g1 : loadV Try.prog H 3 (.ptr 8 0 1 1) = some (.i (w : Int))) (g2 : binV Try.prog .shl 3 (.i 1) (.i (i : Int)) = some (.i h0)) (g3 : binV Try.prog .andNot 3 (.i (w : Int)) (.i h0) = some (.i h1)) (g4 : some (newV (.agg [.i 0, .i 0]) H) = some (.ptr nb 0 0 1, H0)) (g5 : storeV Try.prog H0 77 (.ptr nb 0 0 1) (.agg [.i (i : Int), .i h1]) = some H1) (gS25 : (recL ((loadV Try.prog H 3 (.ptr 8 0 1 1)).map (fun v => (v, (H : Heap)))) ((loadV Try.prog H0 3 (.ptr 8 0 1 1)).map (fun v => (v, (H0 : Heap)))) H H0 && true) = true) (g7 : loadV Try.prog H1 3 (.ptr 8 0 1 1) = some (.i (w : Int))) (g8 : loadV Try.prog H1 3 (.ptr nb 0 1 1) = some (.i w2)) (g9 : ¬ ((w : Int) = w2)) (g10 : loadV Try.prog H1 22 (.ptr 0 0 0 1) = some (.imm .arg 1 rw)) (g11 : loadV Try.prog H1 3 (.ptr 8 0 0 1) = some (.i (v : Int))) (g12 : idxV Try.prog 22 (.imm .arg 1 rw) (.i (v : Int)) = some (.vptr (.imm .arg 1 l0))) (g13 : idxV Try.prog 23 (.imm .arg 1 l0) (.i (i : Int)) = some (.vptr (.i x0))) (g14 : loadV Try.prog H1 23 (.ptr 3 0 0 1) = some (.sl 2 0 n none n 1)) (g15 : idxV Try.prog 23 (.sl 2 0 n none n 1) (.i (i : Int)) = some (.ptr 2 i 0 n)) (g16 : loadV Try.prog H1 3 (.ptr 2 i 0 n) = some (.i x1)) (g17 : loadV Try.prog H1 23 (.ptr 3 0 0 1) = some (.sl 2 0 n none n 1)) (g18 : loadV Try.prog H1 3 (.ptr 8 0 0 1) = some (.i (v : Int))) (g19 : idxV Try.prog 23 (.sl 2 0 n none n 1) (.i (v : Int)) = some (.ptr 2 v 0 n)) (g20 : loadV Try.prog H1 3 (.ptr 2 v 0 n) = some (.i x2)) (g21 : IntKind.i64.wrap (x0 + x1) = x2) (g22 : loadV Try.prog H1 75 (.ptr 7 0 0 1) = some (.func 53 [] [.ptr 1 0 0 1, .ptr 6 0 0 1, .ptr 0 0 0 1, .ptr 3 0 0 1, .ptr 7 0 0 1])) (g23 : loadV Try.prog H1 77 (.ptr nb 0 0 1) = some (.agg [.i (i : Int), .i w2])) (g24 : ∀ kf, N ≤ kf → callN Try.prog polK (kf + 1) 53 [.agg [.i (i : Int), .i w2], .ptr 1 0 0 1, .ptr 6 0 0 1, .ptr 0 0 0 1, .ptr 3 0 0 1, .ptr 7 0 0 1] H1 = some (.bool true, H2)) (g25 : loadV Try.prog H2 77 (.ptr nb 0 0 1) = some (.agg [.i (i : Int), .i w2])) (g26 : storeV Try.prog H2 77 (.ptr 8 0 0 1) (.agg [.i (i : Int), .i w2]) = some H3) (g27 : appV H3 1 8 (tv) [.i (i : Int)] = some (v0, H4)) : RunsTo Try.prog polK 23 (sub [1, 1, 1, 1, 1, 1, 1, 1, 1, 0, 0, 0, 1, 0, 1, 0, 0] B23) (env23 (.imm .arg 1 rw) (.i fr) (.i to) (.ptr 0 0 0 1) (.ptr 1 0 0 1) (.imm .lit 1 []) (.i 0) (.i 0) (.ptr 3 0 0 1) .undef .undef .undef (.ptr 7 0 0 1) (.ptr 8 0 0 1) tv .undef .undef .undef .undef .undef .undef .undef .undef (.i (n : Int)) (.i (i : Int))) H (.exit 8) (polK.keys 23) (env23 (.imm .arg 1 rw) (.i fr) (.i to) (.ptr 0 0 0 1) (.ptr 1 0 0 1) (.imm .lit 1 []) (.i 0) (.i 0) (.ptr 3 0 0 1) .undef .undef .undef (.ptr 7 0 0 1) (.ptr 8 0 0 1) v0 (.i (i : Int)) (.ptr nb 0 0 1) .undef .undef .undef .undef .undef .undef (.i (n : Int)) (.i (i : Int))) H4 :=
  RunsTo.hin N 60 [⟨23, 0, .bool true, H⟩, ⟨25, 2, .i (w : Int), H⟩, ⟨25, 4, .i h0, H⟩, ⟨25, 5, .i h1, H⟩, ⟨25, 7, .ptr nb 0 0 1, H0⟩, ⟨25, 8, .tuple [], H1⟩, ⟨26, 1, .i (w : Int), H1⟩, ⟨26, 3, .i w2, H1⟩, ⟨26, 4, .bool true, H1⟩, ⟨26, 6, .imm .arg 1 rw, H1⟩, ⟨26, 8, .i (v : Int), H1⟩, ⟨26, 9, .vptr (.imm .arg 1 l0), H1⟩, ⟨26, 12, .vptr (.i x0), H1⟩, ⟨26, 14, .sl 2 0 n none n 1, H1⟩, ⟨26, 16, .ptr 2 i 0 n, H1⟩, ⟨26, 17, .i x1, H1⟩, ⟨26, 19, .sl 2 0 n none n 1, H1⟩, ⟨26, 21, .i (v : Int), H1⟩, ⟨26, 22, .ptr 2 v 0 n, H1⟩, ⟨26, 23, .i x2, H1⟩, ⟨26, 24, .bool true, H1⟩, ⟨26, 27, .func 53 [] [.ptr 1 0 0 1, .ptr 6 0 0 1, .ptr 0 0 0 1, .ptr 3 0 0 1, .ptr 7 0 0 1], H1⟩, ⟨26, 28, .agg [.i (i : Int), .i w2], H1⟩, ⟨26, 29, .bool true, H2⟩, ⟨27, 0, .agg [.i (i : Int), .i w2], H2⟩, ⟨27, 1, .tuple [], H3⟩, ⟨28, 3, v0, H4⟩] fun kf hk => ⟨_, by kernel_rfl, (oB H (decide_eq_true g0) (oC (gS25) (oP H g1 (oP H g2 (oP H g3 (oC (g4) (oS g5 (oP H1 g7 (oP H1 g8 (oB H1 (congrArg not (decide_eq_false g9)) (oP H1 g10 (oP H1 g11 (oP H1 g12 (oP H1 g13 (oP H1 g14 (oP H1 g15 (oP H1 g16 (oP H1 g17 (oP H1 g18 (oP H1 g19 (oP H1 g20 (oB H1 (decide_eq_true g21) (oP H1 g22 (oP H1 g23 (oC (g24 kf (by omega)) (oP H2 g25 (oS g26 (oC (g27) .nil))))))))))))))))))))))))))))⟩
theorem wa_v_2 (N : Nat) (rw la : List HV) (n : Nat) (fr to : Int) (H : Heap) (tv : HV) (v w : Nat) (i nb : Nat) (w2 : Int) (h0 : Int) (h1 : Int) (H0 : Heap) (H1 : Heap) (l0 : List HV) (x0 : Int) (x1 : Int) (x2 : Int) (H2 : Heap) (g0 : (i : Int) < (n : Int)) (g1 : loadV Try.prog H 3 (.ptr 8 0 1 1) = some (.i (w : Int))) (g2 : binV Try.prog .shl 3 (.i 1) (.i (i : Int)) = some (.i h0)) (g3 : binV Try.prog .andNot 3 (.i (w : Int)) (.i h0) = some (.i h1)) (g4 : some (newV (.agg [.i 0, .i 0]) H) = some (.ptr nb 0 0 1, H0)) (g5 : storeV Try.prog H0 77 (.ptr nb 0 0 1) (.agg [.i (i : Int), .i h1]) = some H1) (gS25 : (recL ((loadV Try.prog H 3 (.ptr 8 0 1 1)).map (fun v => (v, (H : Heap)))) ((loadV Try.prog H0 3 (.ptr 8 0 1 1)).map (fun v => (v, (H0 : Heap)))) H H0 && true) = true) (g7 : loadV Try.prog H1 3 (.ptr 8 0 1 1) = some (.i (w : Int))) (g8 : loadV Try.prog H1 3 (.ptr nb 0 1 1) = some (.i w2)) (g9 : ¬ ((w : Int) = w2)) (g10 : loadV Try.prog H1 22 (.ptr 0 0 0 1) = some (.imm .arg 1 rw)) (g11 : loadV Try.prog H1 3 (.ptr 8 0 0 1) = some (.i (v : Int))) (g12 : idxV Try.prog 22 (.imm .arg 1 rw) (.i (v : Int)) = some (.vptr (.imm .arg 1 l0))) (g13 : idxV Try.prog 23 (.imm .arg 1 l0) (.i (i : Int)) = some (.vptr (.i x0))) (g14 : loadV Try.prog H1 23 (.ptr 3 0 0 1) = some (.sl 2 0 n none n 1)) (g15 : idxV Try.prog 23 (.sl 2 0 n none n 1) (.i (i : Int)) = some (.ptr 2 i 0 n)) (g16 : loadV Try.prog H1 3 (.ptr 2 i 0 n) = some (.i x1)) (g17 : loadV Try.prog H1 23 (.ptr 3 0 0 1) = some (.sl 2 0 n none n 1)) (g18 : loadV Try.prog H1 3 (.ptr 8 0 0 1) = some (.i (v : Int))) (g19 : idxV Try.prog 23 (.sl 2 0 n none n 1) (.i (v : Int)) = some (.ptr 2 v 0 n)) (g20 : loadV Try.prog H1 3 (.ptr 2 v 0 n) = some (.i x2)) (g21 : IntKind.i64.wrap (x0 + x1) = x2) (g22 : loadV Try.prog H1 75 (.ptr 7 0 0 1) = some (.func 53 [] [.ptr 1 0 0 1, .ptr 6 0 0 1, .ptr 0 0 0 1, .ptr 3 0 0 1, .ptr 7 0 0 1])) (g23 : loadV Try.prog H1 77 (.ptr nb 0 0 1) = some (.agg [.i (i : Int), .i w2])) (g24 : ∀ kf, N ≤ kf → callN Try.prog polK (kf + 1) 53 [.agg [.i (i : Int), .i w2], .ptr 1 0 0 1, .ptr 6 0 0 1, .ptr 0 0 0 1, .ptr 3 0 0 1, .ptr 7 0 0 1] H1 = some (.bool false, H2)) : RunsTo Try.prog polK 23 (sub [1, 1, 1, 1, 1, 1, 1, 1, 1, 0, 0, 0, 1, 0, 1, 0, 0] B23) (env23 (.imm .arg 1 rw) (.i fr) (.i to) (.ptr 0 0 0 1) (.ptr 1 0 0 1) (.imm .lit 1 []) (.i 0) (.i 0) (.ptr 3 0 0 1) .undef .undef .undef (.ptr 7 0 0 1) (.ptr 8 0 0 1) tv .undef .undef .undef .undef .undef .undef .undef .undef (.i (n : Int)) (.i (i : Int))) H .normal (polK.keys 23) (env23 (.imm .arg 1 rw) (.i fr) (.i to) (.ptr 0 0 0 1) (.ptr 1 0 0 1) (.imm .lit 1 []) (.i 0) (.i 0) (.ptr 3 0 0 1) .undef .undef .undef (.ptr 7 0 0 1) (.ptr 8 0 0 1) tv (.i (i : Int)) (.ptr nb 0 0 1) .undef .undef .undef .undef .undef .undef (.i (n : Int)) (.i (IntKind.i64.wrap ((i : Int) + 1)))) H2 :=
  RunsTo.hin N 60 [⟨23, 0, .bool true, H⟩, ⟨25, 2, .i (w : Int), H⟩, ⟨25, 4, .i h0, H⟩, ⟨25, 5, .i h1, H⟩, ⟨25, 7, .ptr nb 0 0 1, H0⟩, ⟨25, 8, .tuple [], H1⟩, ⟨26, 1, .i (w : Int), H1⟩, ⟨26, 3, .i w2, H1⟩, ⟨26, 4, .bool true, H1⟩, ⟨26, 6, .imm .arg 1 rw, H1⟩, ⟨26, 8, .i (v : Int), H1⟩, ⟨26, 9, .vptr (.imm .arg 1 l0), H1⟩, ⟨26, 12, .vptr (.i x0), H1⟩, ⟨26, 14, .sl 2 0 n none n 1, H1⟩, ⟨26, 16, .ptr 2 i 0 n, H1⟩, ⟨26, 17, .i x1, H1⟩, ⟨26, 19, .sl 2 0 n none n 1, H1⟩, ⟨26, 21, .i (v : Int), H1⟩, ⟨26, 22, .ptr 2 v 0 n, H1⟩, ⟨26, 23, .i x2, H1⟩, ⟨26, 24, .bool true, H1⟩, ⟨26, 27, .func 53 [] [.ptr 1 0 0 1, .ptr 6 0 0 1, .ptr 0 0 0 1, .ptr 3 0 0 1, .ptr 7 0 0 1], H1⟩, ⟨26, 28, .agg [.i (i : Int), .i w2], H1⟩, ⟨26, 29, .bool false, H2⟩] fun kf hk => ⟨_, by kernel_rfl, (oB H (decide_eq_true g0) (oC (gS25) (oP H g1 (oP H g2 (oP H g3 (oC (g4) (oS g5 (oP H1 g7 (oP H1 g8 (oB H1 (congrArg not (decide_eq_false g9)) (oP H1 g10 (oP H1 g11 (oP H1 g12 (oP H1 g13 (oP H1 g14 (oP H1 g15 (oP H1 g16 (oP H1 g17 (oP H1 g18 (oP H1 g19 (oP H1 g20 (oB H1 (decide_eq_true g21) (oP H1 g22 (oP H1 g23 (oC (g24 kf (by omega)) .nil)))))))))))))))))))))))))⟩
theorem wa_v_3 (N : Nat) (rw la : List HV) (n : Nat) (fr to : Int) (H : Heap) (tv : HV) (v w : Nat) (i nb : Nat) (w2 : Int) (h0 : Int) (h1 : Int) (H0 : Heap) (H1 : Heap) (l0 : List HV) (x0 : Int) (x1 : Int) (x2 : Int) (g0 : (i : Int) < (n : Int)) (g1 : loadV Try.prog H 3 (.ptr 8 0 1 1) = some (.i (w : Int))) (g2 : binV Try.prog .shl 3 (.i 1) (.i (i : Int)) = some (.i h0)) (g3 : binV Try.prog .andNot 3 (.i (w : Int)) (.i h0) = some (.i h1)) (g4 : some (newV (.agg [.i 0, .i 0]) H) = some (.ptr nb 0 0 1, H0)) (g5 : storeV Try.prog H0 77 (.ptr nb 0 0 1) (.agg [.i (i : Int), .i h1]) = some H1) (gS25 : (recL ((loadV Try.prog H 3 (.ptr 8 0 1 1)).map (fun v => (v, (H : Heap)))) ((loadV Try.prog H0 3 (.ptr 8 0 1 1)).map (fun v => (v, (H0 : Heap)))) H H0 && true) = true) (g7 : loadV Try.prog H1 3 (.ptr 8 0 1 1) = some (.i (w : Int))) (g8 : loadV Try.prog H1 3 (.ptr nb 0 1 1) = some (.i w2)) (g9 : ¬ ((w : Int) = w2)) (g10 : loadV Try.prog H1 22 (.ptr 0 0 0 1) = some (.imm .arg 1 rw)) (g11 : loadV Try.prog H1 3 (.ptr 8 0 0 1) = some (.i (v : Int))) (g12 : idxV Try.prog 22 (.imm .arg 1 rw) (.i (v : Int)) = some (.vptr (.imm .arg 1 l0))) (g13 : idxV Try.prog 23 (.imm .arg 1 l0) (.i (i : Int)) = some (.vptr (.i x0))) (g14 : loadV Try.prog H1 23 (.ptr 3 0 0 1) = some (.sl 2 0 n none n 1)) (g15 : idxV Try.prog 23 (.sl 2 0 n none n 1) (.i (i : Int)) = some (.ptr 2 i 0 n)) (g16 : loadV Try.prog H1 3 (.ptr 2 i 0 n) = some (.i x1)) (g17 : loadV Try.prog H1 23 (.ptr 3 0 0 1) = some (.sl 2 0 n none n 1)) (g18 : loadV Try.prog H1 3 (.ptr 8 0 0 1) = some (.i (v : Int))) (g19 : idxV Try.prog 23 (.sl 2 0 n none n 1) (.i (v : Int)) = some (.ptr 2 v 0 n)) (g20 : loadV Try.prog H1 3 (.ptr 2 v 0 n) = some (.i x2)) (g21 : ¬ (IntKind.i64.wrap (x0 + x1) = x2)) : RunsTo Try.prog polK 23 (sub [1, 1, 1, 1, 1, 1, 1, 1, 1, 0, 0, 0, 1, 0, 1, 0, 0] B23) (env23 (.imm .arg 1 rw) (.i fr) (.i to) (.ptr 0 0 0 1) (.ptr 1 0 0 1) (.imm .lit 1 []) (.i 0) (.i 0) (.ptr 3 0 0 1) .undef .undef .undef (.ptr 7 0 0 1) (.ptr 8 0 0 1) tv .undef .undef .undef .undef .undef .undef .undef .undef (.i (n : Int)) (.i (i : Int))) H .normal (polK.keys 23) (env23 (.imm .arg 1 rw) (.i fr) (.i to) (.ptr 0 0 0 1) (.ptr 1 0 0 1) (.imm .lit 1 []) (.i 0) (.i 0) (.ptr 3 0 0 1) .undef .undef .undef (.ptr 7 0 0 1) (.ptr 8 0 0 1) tv (.i (i : Int)) (.ptr nb 0 0 1) .undef .undef .undef .undef .undef .undef (.i (n : Int)) (.i (IntKind.i64.wrap ((i : Int) + 1)))) H1 :=
  RunsTo.hin N 60 [⟨23, 0, .bool true, H⟩, ⟨25, 2, .i (w : Int), H⟩, ⟨25, 4, .i h0, H⟩, ⟨25, 5, .i h1, H⟩, ⟨25, 7, .ptr nb 0 0 1, H0⟩, ⟨25, 8, .tuple [], H1⟩, ⟨26, 1, .i (w : Int), H1⟩, ⟨26, 3, .i w2, H1⟩, ⟨26, 4, .bool true, H1⟩, ⟨26, 6, .imm .arg 1 rw, H1⟩, ⟨26, 8, .i (v : Int), H1⟩, ⟨26, 9, .vptr (.imm .arg 1 l0), H1⟩, ⟨26, 12, .vptr (.i x0), H1⟩, ⟨26, 14, .sl 2 0 n none n 1, H1⟩, ⟨26, 16, .ptr 2 i 0 n, H1⟩, ⟨26, 17, .i x1, H1⟩, ⟨26, 19, .sl 2 0 n none n 1, H1⟩, ⟨26, 21, .i (v : Int), H1⟩, ⟨26, 22, .ptr 2 v 0 n, H1⟩, ⟨26, 23, .i x2, H1⟩, ⟨26, 24, .bool false, H1⟩] fun kf hk => ⟨_, by kernel_rfl, (oB H (decide_eq_true g0) (oC (gS25) (oP H g1 (oP H g2 (oP H g3 (oC (g4) (oS g5 (oP H1 g7 (oP H1 g8 (oB H1 (congrArg not (decide_eq_false g9)) (oP H1 g10 (oP H1 g11 (oP H1 g12 (oP H1 g13 (oP H1 g14 (oP H1 g15 (oP H1 g16 (oP H1 g17 (oP H1 g18 (oP H1 g19 (oP H1 g20 (oB H1 (decide_eq_false g21) .nil))))))))))))))))))))))⟩
theorem wa_z_0 (N : Nat) (rw la : List HV) (n : Nat) (fr to : Int) (H : Heap) (tv : HV) (v w : Nat) (y16 y17 y97 y98 : HV) (x0 : Int) (g0 : loadV Try.prog H 23 (.ptr 3 0 0 1) = some (.sl 2 0 n none n 1)) (g1 : idxV Try.prog 23 (.sl 2 0 n none n 1) (.i fr) = some (.ptr 2 ((fr).toNat) 0 n)) (g2 : loadV Try.prog H 3 (.ptr 2 ((fr).toNat) 0 n) = some (.i x0)) : RunsTo Try.prog polK 23 (sub [1, 1, 1, 1, 1, 1, 1, 1, 1, 1] B23) (env23 (.imm .arg 1 rw) (.i fr) (.i to) (.ptr 0 0 0 1) (.ptr 1 0 0 1) (.imm .lit 1 []) (.i 0) (.i 0) (.ptr 3 0 0 1) .undef .undef .undef (.ptr 7 0 0 1) (.ptr 8 0 0 1) tv y16 y17 .undef .undef .undef .undef .undef .undef y97 y98) H .ret (polK.keys 23) (env23 (.imm .arg 1 rw) (.i fr) (.i to) (.ptr 0 0 0 1) (.ptr 1 0 0 1) tv (.i x0) (.i 0) (.ptr 3 0 0 1) .undef .undef .undef (.ptr 7 0 0 1) (.ptr 8 0 0 1) tv y16 y17 .undef .undef .undef .undef .undef .undef y97 y98) H :=
  RunsTo.hin N 60 [⟨30, 1, .sl 2 0 n none n 1, H⟩, ⟨30, 3, .ptr 2 ((fr).toNat) 0 n, H⟩, ⟨30, 4, .i x0, H⟩] fun kf hk => ⟨_, by kernel_rfl, (oP H g0 (oP H g1 (oP H g2 .nil)))⟩
end Go.Proofs.Ytlendaofkmhgmaa
end
section
open Go Go.HL
namespace Go.Proofs.Ytlendaofkmhgmaa
set_option maxRecDepth 100000
noncomputable def B53 : Code := Try.f53.body.getD .skip
abbrev env53 (v0 v1 v2 v3 v4 v5 v6 v7 v9 v10 v26 v27 : HV) : Env := [(0, v0), (1, v1), (2, v2), (3, v3), (4, v4), (5, v5), (6, v6), (7, v7), (9, v9), (10, v10), (26, v26), (27, v27)]
theorem ld_a_0 (N : Nat) (rw : List HV) (n v w to kb : Nat) (H : Heap) (H0 : Heap) (g0 : some (newV (.agg [.i (v : Int), .i (w : Int)]) H) = some (.ptr kb 0 0 1, H0)) : RunsTo Try.prog polK 53 (sub [0] B53) [(0, .agg [.i (v : Int), .i (w : Int)]), (1, .ptr 1 0 0 1), (2, .ptr 6 0 0 1), (3, .ptr 0 0 0 1), (4, .ptr 3 0 0 1), (5, .ptr 7 0 0 1)] H .normal (polK.keys 53) (env53 (.agg [.i (v : Int), .i (w : Int)]) (.ptr 1 0 0 1) (.ptr 6 0 0 1) (.ptr 0 0 0 1) (.ptr 3 0 0 1) (.ptr 7 0 0 1) (.ptr kb 0 0 1) (.bool false) .undef .undef .undef .undef) H0 :=
  RunsTo.hin N 60 [⟨0, 0, .ptr kb 0 0 1, H0⟩] fun kf hk => ⟨_, by kernel_rfl, (oC (g0) .nil)⟩
theorem ld_b_0 (N : Nat) (rw : List HV) (n v w to kb : Nat) (H : Heap)(g0 : loadV Try.prog H 3 (.ptr kb 0 0 1) = some (.i (v : Int))) (g1 : loadV Try.prog H 3 (.ptr 1 0 0 1) = some (.i (to : Int))) (g2 : (v : Int) = (to : Int)) : RunsTo Try.prog polK 53 (sub [1, 0] B53) (env53 (.agg [.i (v : Int), .i (w : Int)]) (.ptr 1 0 0 1) (.ptr 6 0 0 1) (.ptr 0 0 0 1) (.ptr 3 0 0 1) (.ptr 7 0 0 1) (.ptr kb 0 0 1) (.bool false) .undef .undef .undef .undef) H .ret (polK.keys 53) (env53 (.agg [.i (v : Int), .i (w : Int)]) (.ptr 1 0 0 1) (.ptr 6 0 0 1) (.ptr 0 0 0 1) (.ptr 3 0 0 1) (.ptr 7 0 0 1) (.ptr kb 0 0 1) (.bool true) .undef .undef .undef .undef) H :=
  RunsTo.hin N 60 [⟨1, 1, .i (v : Int), H⟩, ⟨1, 2, .i (to : Int), H⟩, ⟨1, 3, .bool true, H⟩] fun kf hk => ⟨_, by kernel_rfl, (oP H g0 (oP H g1 (oB H (decide_eq_true g2) .nil)))⟩
theorem ld_b_1 (N : Nat) (rw : List HV) (n v w to kb : Nat) (H : Heap)(g0 : loadV Try.prog H 3 (.ptr kb 0 0 1) = some (.i (v : Int))) (g1 : loadV Try.prog H 3 (.ptr 1 0 0 1) = some (.i (to : Int))) (g2 : ¬ ((v : Int) = (to : Int))) : RunsTo Try.prog polK 53 (sub [1, 0] B53) (env53 (.agg [.i (v : Int), .i (w : Int)]) (.ptr 1 0 0 1) (.ptr 6 0 0 1) (.ptr 0 0 0 1) (.ptr 3 0 0 1) (.ptr 7 0 0 1) (.ptr kb 0 0 1) (.bool false) .undef .undef .undef .undef) H .normal (polK.keys 53) (env53 (.agg [.i (v : Int), .i (w : Int)]) (.ptr 1 0 0 1) (.ptr 6 0 0 1) (.ptr 0 0 0 1) (.ptr 3 0 0 1) (.ptr 7 0 0 1) (.ptr kb 0 0 1) (.bool false) .undef .undef .undef .undef) H :=
  RunsTo.hin N 60 [⟨1, 1, .i (v : Int), H⟩, ⟨1, 2, .i (to : Int), H⟩, ⟨1, 3, .bool false, H⟩] fun kf hk => ⟨_, by kernel_rfl, (oP H g0 (oP H g1 (oB H (decide_eq_false g2) .nil)))⟩
theorem ld_c_0 (N : Nat) (rw : List HV) (n v w to kb : Nat) (H : Heap)(g0 : loadV Try.prog H 74 (.ptr 6 0 0 1) = some (.map 5)) (g1 : loadV Try.prog H 77 (.ptr kb 0 0 1) = some (.agg [.i (v : Int), .i (w : Int)])) (g2 : lkG Try.prog 74 H 5 (.agg [.i (v : Int), .i (w : Int)]) true = some (.tuple [.bool true, .bool true], H)) : RunsTo Try.prog polK 53 (sub [1, 1, 0, 0] B53) (env53 (.agg [.i (v : Int), .i (w : Int)]) (.ptr 1 0 0 1) (.ptr 6 0 0 1) (.ptr 0 0 0 1) (.ptr 3 0 0 1) (.ptr 7 0 0 1) (.ptr kb 0 0 1) (.bool false) .undef .undef .undef .undef) H .normal (polK.keys 53) (env53 (.agg [.i (v : Int), .i (w : Int)]) (.ptr 1 0 0 1) (.ptr 6 0 0 1) (.ptr 0 0 0 1) (.ptr 3 0 0 1) (.ptr 7 0 0 1) (.ptr kb 0 0 1) (.bool false) (.bool true) .undef .undef .undef) H :=
  RunsTo.hin N 60 [⟨3, 0, .map 5, H⟩, ⟨3, 1, .agg [.i (v : Int), .i (w : Int)], H⟩, ⟨3, 2, .tuple [.bool true, .bool true], H⟩] fun kf hk => ⟨_, by kernel_rfl, (oP H g0 (oP H g1 (oC (g2) .nil)))⟩
theorem ld_c_1 (N : Nat) (rw : List HV) (n v w to kb : Nat) (H : Heap)(g0 : loadV Try.prog H 74 (.ptr 6 0 0 1) = some (.map 5)) (g1 : loadV Try.prog H 77 (.ptr kb 0 0 1) = some (.agg [.i (v : Int), .i (w : Int)])) (g2 : lkG Try.prog 74 H 5 (.agg [.i (v : Int), .i (w : Int)]) true = some (.tuple [.bool false, .bool true], H)) : RunsTo Try.prog polK 53 (sub [1, 1, 0, 0] B53) (env53 (.agg [.i (v : Int), .i (w : Int)]) (.ptr 1 0 0 1) (.ptr 6 0 0 1) (.ptr 0 0 0 1) (.ptr 3 0 0 1) (.ptr 7 0 0 1) (.ptr kb 0 0 1) (.bool false) .undef .undef .undef .undef) H .normal (polK.keys 53) (env53 (.agg [.i (v : Int), .i (w : Int)]) (.ptr 1 0 0 1) (.ptr 6 0 0 1) (.ptr 0 0 0 1) (.ptr 3 0 0 1) (.ptr 7 0 0 1) (.ptr kb 0 0 1) (.bool false) (.bool true) .undef .undef .undef) H :=
  RunsTo.hin N 60 [⟨3, 0, .map 5, H⟩, ⟨3, 1, .agg [.i (v : Int), .i (w : Int)], H⟩, ⟨3, 2, .tuple [.bool false, .bool true], H⟩] fun kf hk => ⟨_, by kernel_rfl, (oP H g0 (oP H g1 (oC (g2) .nil)))⟩
theorem ld_c_2 (N : Nat) (rw : List HV) (n v w to kb : Nat) (H : Heap)(g0 : loadV Try.prog H 74 (.ptr 6 0 0 1) = some (.map 5)) (g1 : loadV Try.prog H 77 (.ptr kb 0 0 1) = some (.agg [.i (v : Int), .i (w : Int)])) (g2 : lkG Try.prog 74 H 5 (.agg [.i (v : Int), .i (w : Int)]) true = some (.tuple [.bool false, .bool false], H)) : RunsTo Try.prog polK 53 (sub [1, 1, 0, 0] B53) (env53 (.agg [.i (v : Int), .i (w : Int)]) (.ptr 1 0 0 1) (.ptr 6 0 0 1) (.ptr 0 0 0 1) (.ptr 3 0 0 1) (.ptr 7 0 0 1) (.ptr kb 0 0 1) (.bool false) .undef .undef .undef .undef) H .normal (polK.keys 53) (env53 (.agg [.i (v : Int), .i (w : Int)]) (.ptr 1 0 0 1) (.ptr 6 0 0 1) (.ptr 0 0 0 1) (.ptr 3 0 0 1) (.ptr 7 0 0 1) (.ptr kb 0 0 1) (.bool false) (.bool false) .undef .undef .undef) H :=
  RunsTo.hin N 60 [⟨3, 0, .map 5, H⟩, ⟨3, 1, .agg [.i (v : Int), .i (w : Int)], H⟩, ⟨3, 2, .tuple [.bool false, .bool false], H⟩] fun kf hk => ⟨_, by kernel_rfl, (oP H g0 (oP H g1 (oC (g2) .nil)))⟩
theorem ld_dt_0 (N : Nat) (rw : List HV) (n v w to kb : Nat) (H : Heap) : RunsTo Try.prog polK 53 (sub [1, 1, 0, 1, 0] B53) (env53 (.agg [.i (v : Int), .i (w : Int)]) (.ptr 1 0 0 1) (.ptr 6 0 0 1) (.ptr 0 0 0 1) (.ptr 3 0 0 1) (.ptr 7 0 0 1) (.ptr kb 0 0 1) (.bool false) (.bool true) .undef .undef .undef) H .normal [0, 1, 2, 3, 4, 5, 6, 7, 9, 10, 26, 27, 22] [(0, .agg [.i (v : Int), .i (w : Int)]), (1, .ptr 1 0 0 1), (2, .ptr 6 0 0 1), (3, .ptr 0 0 0 1), (4, .ptr 3 0 0 1), (5, .ptr 7 0 0 1), (6, .ptr kb 0 0 1), (7, .bool false), (9, .bool true), (10, .undef), (26, .undef), (27, .undef), (22, .bool false)] H :=
  RunsTo.hin N 60 [] fun kf hk => ⟨_, by kernel_rfl, .nil⟩
theorem ld_df_0 (N : Nat) (rw : List HV) (n v w to kb : Nat) (H : Heap) : RunsTo Try.prog polK 53 (sub [1, 1, 0, 1, 0] B53) (env53 (.agg [.i (v : Int), .i (w : Int)]) (.ptr 1 0 0 1) (.ptr 6 0 0 1) (.ptr 0 0 0 1) (.ptr 3 0 0 1) (.ptr 7 0 0 1) (.ptr kb 0 0 1) (.bool false) (.bool false) .undef .undef .undef) H .normal [0, 1, 2, 3, 4, 5, 6, 7, 9, 10, 26, 27, 22] [(0, .agg [.i (v : Int), .i (w : Int)]), (1, .ptr 1 0 0 1), (2, .ptr 6 0 0 1), (3, .ptr 0 0 0 1), (4, .ptr 3 0 0 1), (5, .ptr 7 0 0 1), (6, .ptr kb 0 0 1), (7, .bool false), (9, .bool false), (10, .undef), (26, .undef), (27, .undef), (22, .bool true)] H :=
  RunsTo.hin N 60 [] fun kf hk => ⟨_, by kernel_rfl, .nil⟩
theorem ld_e_0 (N : Nat) (rw : List HV) (n v w to kb : Nat) (H : Heap) (H0 : Heap) (g0 : loadV Try.prog H 74 (.ptr 6 0 0 1) = some (.map 5)) (g1 : loadV Try.prog H 77 (.ptr kb 0 0 1) = some (.agg [.i (v : Int), .i (w : Int)])) (g2 : updV Try.prog false 74 (.map 5) (.agg [.i (v : Int), .i (w : Int)]) (.bool false) H = some H0) : RunsTo Try.prog polK 53 (sub [1, 1, 0, 1, 1, 0, 0] B53) (env53 (.agg [.i (v : Int), .i (w : Int)]) (.ptr 1 0 0 1) (.ptr 6 0 0 1) (.ptr 0 0 0 1) (.ptr 3 0 0 1) (.ptr 7 0 0 1) (.ptr kb 0 0 1) (.bool false) (.bool false) .undef .undef .undef) H .normal (polK.keys 53) (env53 (.agg [.i (v : Int), .i (w : Int)]) (.ptr 1 0 0 1) (.ptr 6 0 0 1) (.ptr 0 0 0 1) (.ptr 3 0 0 1) (.ptr 7 0 0 1) (.ptr kb 0 0 1) (.bool false) (.bool false) .undef .undef .undef) H0 :=
  RunsTo.hin N 60 [⟨5, 0, .map 5, H⟩, ⟨5, 1, .agg [.i (v : Int), .i (w : Int)], H⟩, ⟨5, 2, .tuple [], H0⟩] fun kf hk => ⟨_, by kernel_rfl, (oP H g0 (oP H g1 (oS g2 .nil)))⟩
theorem ld_f_0 (N : Nat) (rw : List HV) (n v w to kb : Nat) (H : Heap)(g0 : loadV Try.prog H 22 (.ptr 0 0 0 1) = some (.imm .arg 1 rw)) : RunsTo Try.prog polK 53 (sub [1, 1, 0, 1, 1, 0, 1, 0] B53) (env53 (.agg [.i (v : Int), .i (w : Int)]) (.ptr 1 0 0 1) (.ptr 6 0 0 1) (.ptr 0 0 0 1) (.ptr 3 0 0 1) (.ptr 7 0 0 1) (.ptr kb 0 0 1) (.bool false) (.bool false) .undef .undef .undef) H .normal (polK.keys 53) (env53 (.agg [.i (v : Int), .i (w : Int)]) (.ptr 1 0 0 1) (.ptr 6 0 0 1) (.ptr 0 0 0 1) (.ptr 3 0 0 1) (.ptr 7 0 0 1) (.ptr kb 0 0 1) (.bool false) (.bool false) .undef (.i (rw.length : Int)) (.i 0)) H :=
  RunsTo.hin N 60 [⟨6, 0, .imm .arg 1 rw, H⟩] fun kf hk => ⟨_, by kernel_rfl, (oP H g0 .nil)⟩
theorem ld_l_0 (N : Nat) (rw : List HV) (n v w to kb : Nat) (H : Heap) (i : Nat) (h0 : Int) (h1 : Int) (l0 : List HV) (x0 : Int) (x1 : Int) (x2 : Int) (h2 : Int) (h3 : Int) (H0 : Heap) (H1 : Heap) (g0 : (i : Int) < (n : Int)) (g1 : loadV Try.prog H 3 (.ptr kb 0 1 1) = some (.i (w : Int))) (g2 : binV Try.prog .shr 3 (.i (w : Int)) (.i (i : Int)) = some (.i h0)) (g3 : binV Try.prog .and 3 (.i h0) (.i 1) = some (.i h1)) (g4 : h1 = 1) (g5 : loadV Try.prog H 22 (.ptr 0 0 0 1) = some (.imm .arg 1 rw)) (g6 : loadV Try.prog H 3 (.ptr kb 0 0 1) = some (.i (v : Int))) (g7 : idxV Try.prog 22 (.imm .arg 1 rw) (.i (v : Int)) = some (.vptr (.imm .arg 1 l0))) (g8 : idxV Try.prog 23 (.imm .arg 1 l0) (.i (i : Int)) = some (.vptr (.i x0))) (g9 : loadV Try.prog H 23 (.ptr 3 0 0 1) = some (.sl 2 0 n none n 1)) (g10 : idxV Try.prog 23 (.sl 2 0 n none n 1) (.i (i : Int)) = some (.ptr 2 i 0 n)) (g11 : loadV Try.prog H 3 (.ptr 2 i 0 n) = some (.i x1)) (g12 : loadV Try.prog H 23 (.ptr 3 0 0 1) = some (.sl 2 0 n none n 1)) (g13 : loadV Try.prog H 3 (.ptr kb 0 0 1) = some (.i (v : Int))) (g14 : idxV Try.prog 23 (.sl 2 0 n none n 1) (.i (v : Int)) = some (.ptr 2 v 0 n)) (g15 : loadV Try.prog H 3 (.ptr 2 v 0 n) = some (.i x2)) (g16 : IntKind.i64.wrap (x0 + x1) = x2) (g17 : loadV Try.prog H 75 (.ptr 7 0 0 1) = some (.func 53 [] [.ptr 1 0 0 1, .ptr 6 0 0 1, .ptr 0 0 0 1, .ptr 3 0 0 1, .ptr 7 0 0 1])) (g18 : loadV Try.prog H 3 (.ptr kb 0 1 1) = some (.i (w : Int))) (g19 : binV Try.prog .shl 3 (.i 1) (.i (i : Int)) = some (.i h2)) (g20 : binV Try.prog .andNot 3 (.i (w : Int)) (.i h2) = some (.i h3)) (g21 : ∀ kf, N ≤ kf → callN Try.prog polK (kf + 1) 53 [.agg [.i (i : Int), .i h3], .ptr 1 0 0 1, .ptr 6 0 0 1, .ptr 0 0 0 1, .ptr 3 0 0 1, .ptr 7 0 0 1] H = some (.bool true, H0)) (g22 : loadV Try.prog H0 74 (.ptr 6 0 0 1) = some (.map 5)) (g23 : loadV Try.prog H0 77 (.ptr kb 0 0 1) = some (.agg [.i (v : Int), .i (w : Int)])) (g24 : updV Try.prog false 74 (.map 5) (.agg [.i (v : Int), .i (w : Int)]) (.bool true) H0 = some H1) : RunsTo Try.prog polK 53 (sub [1, 1, 0, 1, 1, 0, 1, 1, 0, 0] B53) (env53 (.agg [.i (v : Int), .i (w : Int)]) (.ptr 1 0 0 1) (.ptr 6 0 0 1) (.ptr 0 0 0 1) (.ptr 3 0 0 1) (.ptr 7 0 0 1) (.ptr kb 0 0 1) (.bool false) .undef .undef (.i (n : Int)) (.i (i : Int))) H .normal (polK.keys 53) (env53 (.agg [.i (v : Int), .i (w : Int)]) (.ptr 1 0 0 1) (.ptr 6 0 0 1) (.ptr 0 0 0 1) (.ptr 3 0 0 1) (.ptr 7 0 0 1) (.ptr kb 0 0 1) (.bool false) .undef (.i (i : Int)) (.i (n : Int)) (.i (IntKind.i64.wrap ((i : Int) + 1)))) H1 :=
  RunsTo.hin N 60 [⟨7, 0, .bool true, H⟩, ⟨9, 1, .i (w : Int), H⟩, ⟨9, 3, .i h0, H⟩, ⟨9, 4, .i h1, H⟩, ⟨9, 5, .bool true, H⟩, ⟨9, 7, .imm .arg 1 rw, H⟩, ⟨9, 9, .i (v : Int), H⟩, ⟨9, 10, .vptr (.imm .arg 1 l0), H⟩, ⟨9, 13, .vptr (.i x0), H⟩, ⟨9, 15, .sl 2 0 n none n 1, H⟩, ⟨9, 17, .ptr 2 i 0 n, H⟩, ⟨9, 18, .i x1, H⟩, ⟨9, 20, .sl 2 0 n none n 1, H⟩, ⟨9, 22, .i (v : Int), H⟩, ⟨9, 23, .ptr 2 v 0 n, H⟩, ⟨9, 24, .i x2, H⟩, ⟨9, 25, .bool true, H⟩, ⟨9, 28, .func 53 [] [.ptr 1 0 0 1, .ptr 6 0 0 1, .ptr 0 0 0 1, .ptr 3 0 0 1, .ptr 7 0 0 1], H⟩, ⟨9, 31, .i (w : Int), H⟩, ⟨9, 33, .i h2, H⟩, ⟨9, 34, .i h3, H⟩, ⟨9, 36, .bool true, H0⟩, ⟨10, 0, .map 5, H0⟩, ⟨10, 1, .agg [.i (v : Int), .i (w : Int)], H0⟩, ⟨10, 2, .tuple [], H1⟩] fun kf hk => ⟨_, by kernel_rfl, (oB H (decide_eq_true g0) (oP H g1 (oP H g2 (oP H g3 (oB H (decide_eq_true g4) (oP H g5 (oP H g6 (oP H g7 (oP H g8 (oP H g9 (oP H g10 (oP H g11 (oP H g12 (oP H g13 (oP H g14 (oP H g15 (oB H (decide_eq_true g16) (oP H g17 (oP H g18 (oP H g19 (oP H g20 (oC (g21 kf (by omega)) (oP H0 g22 (oP H0 g23 (oS g24 .nil)))))))))))))))))))))))))⟩
theorem ld_l_1 (N : Nat) (rw : List HV) (n v w to kb : Nat) (H : Heap) (i : Nat) (h0 : Int) (h1 : Int) (l0 : List HV) (x0 : Int) (x1 : Int) (x2 : Int) (h2 : Int) (h3 : Int) (H0 : Heap) (g0 : (i : Int) < (n : Int)) (g1 : loadV Try.prog H 3 (.ptr kb 0 1 1) = some (.i (w : Int))) (g2 : binV Try.prog .shr 3 (.i (w : Int)) (.i (i : Int)) = some (.i h0)) (g3 : binV Try.prog .and 3 (.i h0) (.i 1) = some (.i h1)) (g4 : h1 = 1) (g5 : loadV Try.prog H 22 (.ptr 0 0 0 1) = some (.imm .arg 1 rw)) (g6 : loadV Try.prog H 3 (.ptr kb 0 0 1) = some (.i (v : Int))) (g7 : idxV Try.prog 22 (.imm .arg 1 rw) (.i (v : Int)) = some (.vptr (.imm .arg 1 l0))) (g8 : idxV Try.prog 23 (.imm .arg 1 l0) (.i (i : Int)) = some (.vptr (.i x0))) (g9 : loadV Try.prog H 23 (.ptr 3 0 0 1) = some (.sl 2 0 n none n 1)) (g10 : idxV Try.prog 23 (.sl 2 0 n none n 1) (.i (i : Int)) = some (.ptr 2 i 0 n)) (g11 : loadV Try.prog H 3 (.ptr 2 i 0 n) = some (.i x1)) (g12 : loadV Try.prog H 23 (.ptr 3 0 0 1) = some (.sl 2 0 n none n 1)) (g13 : loadV Try.prog H 3 (.ptr kb 0 0 1) = some (.i (v : Int))) (g14 : idxV Try.prog 23 (.sl 2 0 n none n 1) (.i (v : Int)) = some (.ptr 2 v 0 n)) (g15 : loadV Try.prog H 3 (.ptr 2 v 0 n) = some (.i x2)) (g16 : IntKind.i64.wrap (x0 + x1) = x2) (g17 : loadV Try.prog H 75 (.ptr 7 0 0 1) = some (.func 53 [] [.ptr 1 0 0 1, .ptr 6 0 0 1, .ptr 0 0 0 1, .ptr 3 0 0 1, .ptr 7 0 0 1])) (g18 : loadV Try.prog H 3 (.ptr kb 0 1 1) = some (.i (w : Int))) (g19 : binV Try.prog .shl 3 (.i 1) (.i (i : Int)) = some (.i h2)) (g20 : binV Try.prog .andNot 3 (.i (w : Int)) (.i h2) = some (.i h3)) (g21 : ∀ kf, N ≤ kf → callN Try.prog polK (kf + 1) 53 [.agg [.i (i : Int), .i h3], .ptr 1 0 0 1, .ptr 6 0 0 1, .ptr 0 0 0 1, .ptr 3 0 0 1, .ptr 7 0 0 1] H = some (.bool false, H0)) : RunsTo Try.prog polK 53 (sub [1, 1, 0, 1, 1, 0, 1, 1, 0, 0] B53) (env53 (.agg [.i (v : Int), .i (w : Int)]) (.ptr 1 0 0 1) (.ptr 6 0 0 1) (.ptr 0 0 0 1) (.ptr 3 0 0 1) (.ptr 7 0 0 1) (.ptr kb 0 0 1) (.bool false) .undef .undef (.i (n : Int)) (.i (i : Int))) H .normal (polK.keys 53) (env53 (.agg [.i (v : Int), .i (w : Int)]) (.ptr 1 0 0 1) (.ptr 6 0 0 1) (.ptr 0 0 0 1) (.ptr 3 0 0 1) (.ptr 7 0 0 1) (.ptr kb 0 0 1) (.bool false) .undef (.i (i : Int)) (.i (n : Int)) (.i (IntKind.i64.wrap ((i : Int) + 1)))) H0 :=
  RunsTo.hin N 60 [⟨7, 0, .bool true, H⟩, ⟨9, 1, .i (w : Int), H⟩, ⟨9, 3, .i h0, H⟩, ⟨9, 4, .i h1, H⟩, ⟨9, 5, .bool true, H⟩, ⟨9, 7, .imm .arg 1 rw, H⟩, ⟨9, 9, .i (v : Int), H⟩, ⟨9, 10, .vptr (.imm .arg 1 l0), H⟩, ⟨9, 13, .vptr (.i x0), H⟩, ⟨9, 15, .sl 2 0 n none n 1, H⟩, ⟨9, 17, .ptr 2 i 0 n, H⟩, ⟨9, 18, .i x1, H⟩, ⟨9, 20, .sl 2 0 n none n 1, H⟩, ⟨9, 22, .i (v : Int), H⟩, ⟨9, 23, .ptr 2 v 0 n, H⟩, ⟨9, 24, .i x2, H⟩, ⟨9, 25, .bool true, H⟩, ⟨9, 28, .func 53 [] [.ptr 1 0 0 1, .ptr 6 0 0 1, .ptr 0 0 0 1, .ptr 3 0 0 1, .ptr 7 0 0 1], H⟩, ⟨9, 31, .i (w : Int), H⟩, ⟨9, 33, .i h2, H⟩, ⟨9, 34, .i h3, H⟩, ⟨9, 36, .bool false, H0⟩] fun kf hk => ⟨_, by kernel_rfl, (oB H (decide_eq_true g0) (oP H g1 (oP H g2 (oP H g3 (oB H (decide_eq_true g4) (oP H g5 (oP H g6 (oP H g7 (oP H g8 (oP H g9 (oP H g10 (oP H g11 (oP H g12 (oP H g13 (oP H g14 (oP H g15 (oB H (decide_eq_true g16) (oP H g17 (oP H g18 (oP H g19 (oP H g20 (oC (g21 kf (by omega)) .nil))))))))))))))))))))))⟩
theorem ld_l_2 (N : Nat) (rw : List HV) (n v w to kb : Nat) (H : Heap) (i : Nat) (h0 : Int) (h1 : Int) (l0 : List HV) (x0 : Int) (x1 : Int) (x2 : Int) (g0 : (i : Int) < (n : Int)) (g1 : loadV Try.prog H 3 (.ptr kb 0 1 1) = some (.i (w : Int))) (g2 : binV Try.prog .shr 3 (.i (w : Int)) (.i (i : Int)) = some (.i h0)) (g3 : binV Try.prog .and 3 (.i h0) (.i 1) = some (.i h1)) (g4 : h1 = 1) (g5 : loadV Try.prog H 22 (.ptr 0 0 0 1) = some (.imm .arg 1 rw)) (g6 : loadV Try.prog H 3 (.ptr kb 0 0 1) = some (.i (v : Int))) (g7 : idxV Try.prog 22 (.imm .arg 1 rw) (.i (v : Int)) = some (.vptr (.imm .arg 1 l0))) (g8 : idxV Try.prog 23 (.imm .arg 1 l0) (.i (i : Int)) = some (.vptr (.i x0))) (g9 : loadV Try.prog H 23 (.ptr 3 0 0 1) = some (.sl 2 0 n none n 1)) (g10 : idxV Try.prog 23 (.sl 2 0 n none n 1) (.i (i : Int)) = some (.ptr 2 i 0 n)) (g11 : loadV Try.prog H 3 (.ptr 2 i 0 n) = some (.i x1)) (g12 : loadV Try.prog H 23 (.ptr 3 0 0 1) = some (.sl 2 0 n none n 1)) (g13 : loadV Try.prog H 3 (.ptr kb 0 0 1) = some (.i (v : Int))) (g14 : idxV Try.prog 23 (.sl 2 0 n none n 1) (.i (v : Int)) = some (.ptr 2 v 0 n)) (g15 : loadV Try.prog H 3 (.ptr 2 v 0 n) = some (.i x2)) (g16 : ¬ (IntKind.i64.wrap (x0 + x1) = x2)) : RunsTo Try.prog polK 53 (sub [1, 1, 0, 1, 1, 0, 1, 1, 0, 0] B53) (env53 (.agg [.i (v : Int), .i (w : Int)]) (.ptr 1 0 0 1) (.ptr 6 0 0 1) (.ptr 0 0 0 1) (.ptr 3 0 0 1) (.ptr 7 0 0 1) (.ptr kb 0 0 1) (.bool false) .undef .undef (.i (n : Int)) (.i (i : Int))) H .normal (polK.keys 53) (env53 (.agg [.i (v : Int), .i (w : Int)]) (.ptr 1 0 0 1) (.ptr 6 0 0 1) (.ptr 0 0 0 1) (.ptr 3 0 0 1) (.ptr 7 0 0 1) (.ptr kb 0 0 1) (.bool false) .undef (.i (i : Int)) (.i (n : Int)) (.i (IntKind.i64.wrap ((i : Int) + 1)))) H :=
  RunsTo.hin N 60 [⟨7, 0, .bool true, H⟩, ⟨9, 1, .i (w : Int), H⟩, ⟨9, 3, .i h0, H⟩, ⟨9, 4, .i h1, H⟩, ⟨9, 5, .bool true, H⟩, ⟨9, 7, .imm .arg 1 rw, H⟩, ⟨9, 9, .i (v : Int), H⟩, ⟨9, 10, .vptr (.imm .arg 1 l0), H⟩, ⟨9, 13, .vptr (.i x0), H⟩, ⟨9, 15, .sl 2 0 n none n 1, H⟩, ⟨9, 17, .ptr 2 i 0 n, H⟩, ⟨9, 18, .i x1, H⟩, ⟨9, 20, .sl 2 0 n none n 1, H⟩, ⟨9, 22, .i (v : Int), H⟩, ⟨9, 23, .ptr 2 v 0 n, H⟩, ⟨9, 24, .i x2, H⟩, ⟨9, 25, .bool false, H⟩] fun kf hk => ⟨_, by kernel_rfl, (oB H (decide_eq_true g0) (oP H g1 (oP H g2 (oP H g3 (oB H (decide_eq_true g4) (oP H g5 (oP H g6 (oP H g7 (oP H g8 (oP H g9 (oP H g10 (oP H g11 (oP H g12 (oP H g13 (oP H g14 (oP H g15 (oB H (decide_eq_false g16) .nil)))))))))))))))))⟩
theorem ld_l_3 (N : Nat) (rw : List HV) (n v w to kb : Nat) (H : Heap) (i : Nat) (h0 : Int) (h1 : Int) (g0 : (i : Int) < (n : Int)) (g1 : loadV Try.prog H 3 (.ptr kb 0 1 1) = some (.i (w : Int))) (g2 : binV Try.prog .shr 3 (.i (w : Int)) (.i (i : Int)) = some (.i h0)) (g3 : binV Try.prog .and 3 (.i h0) (.i 1) = some (.i h1)) (g4 : ¬ (h1 = 1)) : RunsTo Try.prog polK 53 (sub [1, 1, 0, 1, 1, 0, 1, 1, 0, 0] B53) (env53 (.agg [.i (v : Int), .i (w : Int)]) (.ptr 1 0 0 1) (.ptr 6 0 0 1) (.ptr 0 0 0 1) (.ptr 3 0 0 1) (.ptr 7 0 0 1) (.ptr kb 0 0 1) (.bool false) .undef .undef (.i (n : Int)) (.i (i : Int))) H .normal (polK.keys 53) (env53 (.agg [.i (v : Int), .i (w : Int)]) (.ptr 1 0 0 1) (.ptr 6 0 0 1) (.ptr 0 0 0 1) (.ptr 3 0 0 1) (.ptr 7 0 0 1) (.ptr kb 0 0 1) (.bool false) .undef (.i (i : Int)) (.i (n : Int)) (.i (IntKind.i64.wrap ((i : Int) + 1)))) H :=
  RunsTo.hin N 60 [⟨7, 0, .bool true, H⟩, ⟨9, 1, .i (w : Int), H⟩, ⟨9, 3, .i h0, H⟩, ⟨9, 4, .i h1, H⟩, ⟨9, 5, .bool false, H⟩] fun kf hk => ⟨_, by kernel_rfl, (oB H (decide_eq_true g0) (oP H g1 (oP H g2 (oP H g3 (oB H (decide_eq_false g4) .nil)))))⟩
theorem ld_l_4 (N : Nat) (rw : List HV) (n v w to kb : Nat) (H : Heap) (i : Nat)(g0 : ¬ ((i : Int) < (n : Int))) : RunsTo Try.prog polK 53 (sub [1, 1, 0, 1, 1, 0, 1, 1, 0, 0] B53) (env53 (.agg [.i (v : Int), .i (w : Int)]) (.ptr 1 0 0 1) (.ptr 6 0 0 1) (.ptr 0 0 0 1) (.ptr 3 0 0 1) (.ptr 7 0 0 1) (.ptr kb 0 0 1) (.bool false) .undef .undef (.i (n : Int)) (.i (i : Int))) H (.exit 0) (polK.keys 53) (env53 (.agg [.i (v : Int), .i (w : Int)]) (.ptr 1 0 0 1) (.ptr 6 0 0 1) (.ptr 0 0 0 1) (.ptr 3 0 0 1) (.ptr 7 0 0 1) (.ptr kb 0 0 1) (.bool false) .undef .undef (.i (n : Int)) (.i (i : Int))) H :=
  RunsTo.hin N 60 [⟨7, 0, .bool false, H⟩] fun kf hk => ⟨_, by kernel_rfl, (oB H (decide_eq_false g0) .nil)⟩
theorem ld_z_0 (N : Nat) (rw : List HV) (n v w to kb : Nat) (H : Heap) (y9 y10 y26 y27 : HV)(g0 : loadV Try.prog H 74 (.ptr 6 0 0 1) = some (.map 5)) (g1 : loadV Try.prog H 77 (.ptr kb 0 0 1) = some (.agg [.i (v : Int), .i (w : Int)])) (g2 : lkG Try.prog 74 H 5 (.agg [.i (v : Int), .i (w : Int)]) false = some (.bool true, H)) : RunsTo Try.prog polK 53 (sub [1, 1, 1] B53) (env53 (.agg [.i (v : Int), .i (w : Int)]) (.ptr 1 0 0 1) (.ptr 6 0 0 1) (.ptr 0 0 0 1) (.ptr 3 0 0 1) (.ptr 7 0 0 1) (.ptr kb 0 0 1) (.bool false) y9 y10 y26 y27) H .ret (polK.keys 53) (env53 (.agg [.i (v : Int), .i (w : Int)]) (.ptr 1 0 0 1) (.ptr 6 0 0 1) (.ptr 0 0 0 1) (.ptr 3 0 0 1) (.ptr 7 0 0 1) (.ptr kb 0 0 1) (.bool true) y9 y10 y26 y27) H :=
  RunsTo.hin N 60 [⟨12, 0, .map 5, H⟩, ⟨12, 1, .agg [.i (v : Int), .i (w : Int)], H⟩, ⟨12, 2, .bool true, H⟩] fun kf hk => ⟨_, by kernel_rfl, (oP H g0 (oP H g1 (oC (g2) .nil)))⟩
theorem ld_z_1 (N : Nat) (rw : List HV) (n v w to kb : Nat) (H : Heap) (y9 y10 y26 y27 : HV)(g0 : loadV Try.prog H 74 (.ptr 6 0 0 1) = some (.map 5)) (g1 : loadV Try.prog H 77 (.ptr kb 0 0 1) = some (.agg [.i (v : Int), .i (w : Int)])) (g2 : lkG Try.prog 74 H 5 (.agg [.i (v : Int), .i (w : Int)]) false = some (.bool false, H)) : RunsTo Try.prog polK 53 (sub [1, 1, 1] B53) (env53 (.agg [.i (v : Int), .i (w : Int)]) (.ptr 1 0 0 1) (.ptr 6 0 0 1) (.ptr 0 0 0 1) (.ptr 3 0 0 1) (.ptr 7 0 0 1) (.ptr kb 0 0 1) (.bool false) y9 y10 y26 y27) H .ret (polK.keys 53) (env53 (.agg [.i (v : Int), .i (w : Int)]) (.ptr 1 0 0 1) (.ptr 6 0 0 1) (.ptr 0 0 0 1) (.ptr 3 0 0 1) (.ptr 7 0 0 1) (.ptr kb 0 0 1) (.bool false) y9 y10 y26 y27) H :=
  RunsTo.hin N 60 [⟨12, 0, .map 5, H⟩, ⟨12, 1, .agg [.i (v : Int), .i (w : Int)], H⟩, ⟨12, 2, .bool false, H⟩] fun kf hk => ⟨_, by kernel_rfl, (oP H g0 (oP H g1 (oC (g2) .nil)))⟩
end Go.Proofs.Ytlendaofkmhgmaa
end
section
open Go Go.HL
namespace Go.Proofs.Ytlendaofkmhgmaa
set_option maxRecDepth 100000
noncomputable def B54 : Code := Try.f54.body.getD .skip
abbrev env54 (v0 v1 v2 v3 v8 v9 v10 v11 v12 v13 v14 : HV) : Env := [(0, v0), (1, v1), (2, v2), (3, v3), (8, v8), (9, v9), (10, v10), (11, v11), (12, v12), (13, v13), (14, v14)]
theorem sp_a_0 (rw lo : List HV) (f t : Nat) : RunsTo Try.prog pol 54 (sub [0] B54) [(0, .imm .arg 1 rw), (1, .imm .arg 1 lo), (2, .i (f : Int)), (3, .i (t : Int))] [] .normal (pol.keys 54) (env54 (.imm .arg 1 rw) (.imm .arg 1 lo) (.i (f : Int)) (.i (t : Int)) (.i 0) .undef .undef .undef .undef .undef .undef) [] :=
  RunsTo.hin 0 60 [] fun kf hk => ⟨_, by kernel_rfl, .nil⟩
theorem sp_b_0 (rw lo : List HV) (f t : Nat) : RunsTo Try.prog pol 54 (sub [1, 0] B54) (env54 (.imm .arg 1 rw) (.imm .arg 1 lo) (.i (f : Int)) (.i (t : Int)) (.i 0) .undef .undef .undef .undef .undef .undef) [] .normal (pol.keys 54) (env54 (.imm .arg 1 rw) (.imm .arg 1 lo) (.i (f : Int)) (.i (t : Int)) (.i 0) (.i (rw.length : Int)) .undef .undef .undef .undef .undef) [] :=
  RunsTo.hin 0 60 [] fun kf hk => ⟨_, by kernel_rfl, .nil⟩
theorem sp_c_0 (rw lo : List HV) (f t : Nat) (n : Nat) (H : Heap) (H0 : Heap) (g0 : makeV Try.prog false 23 (.i (n : Int)) (.i (n : Int)) H = some (.sl 0 0 n (some n) n 1, H0)) : RunsTo Try.prog pol 54 (sub [1, 1, 0] B54) (env54 (.imm .arg 1 rw) (.imm .arg 1 lo) (.i (f : Int)) (.i (t : Int)) (.i 0) (.i (n : Int)) .undef .undef .undef .undef .undef) H .normal (pol.keys 54) (env54 (.imm .arg 1 rw) (.imm .arg 1 lo) (.i (f : Int)) (.i (t : Int)) (.i 0) (.i (n : Int)) (.sl 0 0 n (some n) n 1) .undef .undef .undef .undef) H0 :=
  RunsTo.hin 0 60 [⟨2, 1, .sl 0 0 n (some n) n 1, H0⟩] fun kf hk => ⟨_, by kernel_rfl, (oC (g0) .nil)⟩
theorem sp_d_0 (rw lo : List HV) (f t : Nat) (n : Nat) (H : Heap) : RunsTo Try.prog pol 54 (sub [1, 1, 1, 0, 0] B54) (env54 (.imm .arg 1 rw) (.imm .arg 1 lo) (.i (f : Int)) (.i (t : Int)) (.i 0) (.i (n : Int)) (.sl 0 0 n (some n) n 1) .undef .undef .undef .undef) H .normal (pol.keys 54) (env54 (.imm .arg 1 rw) (.imm .arg 1 lo) (.i (f : Int)) (.i (t : Int)) (.i 0) (.i (n : Int)) (.sl 0 0 n (some n) n 1) (.i 0) .undef .undef .undef) H :=
  RunsTo.hin 0 60 [] fun kf hk => ⟨_, by kernel_rfl, .nil⟩
theorem sp_e_0 (rw lo : List HV) (f t : Nat) (n : Nat) (H : Heap) (i : Nat) (H0 : Heap) (g0 : (i : Int) < (n : Int)) (g1 : idxV Try.prog 23 (.sl 0 0 n (some n) n 1) (.i (i : Int)) = some (.ptr 0 i 0 n)) (g2 : storeV Try.prog H 3 (.ptr 0 i 0 n) (.i 1099511627776) = some H0) : RunsTo Try.prog pol 54 (sub [1, 1, 1, 0, 1, 0, 0] B54) (env54 (.imm .arg 1 rw) (.imm .arg 1 lo) (.i (f : Int)) (.i (t : Int)) (.i 0) (.i (n : Int)) (.sl 0 0 n (some n) n 1) (.i (i : Int)) .undef .undef .undef) H .normal (pol.keys 54) (env54 (.imm .arg 1 rw) (.imm .arg 1 lo) (.i (f : Int)) (.i (t : Int)) (.i 0) (.i (n : Int)) (.sl 0 0 n (some n) n 1) (.i (IntKind.i64.wrap ((i : Int) + 1))) .undef .undef .undef) H0 :=
  RunsTo.hin 0 60 [⟨4, 2, .bool true, H⟩, ⟨6, 2, .ptr 0 i 0 n, H⟩, ⟨6, 3, .tuple [], H0⟩] fun kf hk => ⟨_, by kernel_rfl, (oB H (decide_eq_true g0) (oP H g1 (oS g2 .nil)))⟩
theorem sp_e_1 (rw lo : List HV) (f t : Nat) (n : Nat) (H : Heap) (i : Nat)(g0 : ¬ ((i : Int) < (n : Int))) : RunsTo Try.prog pol 54 (sub [1, 1, 1, 0, 1, 0, 0] B54) (env54 (.imm .arg 1 rw) (.imm .arg 1 lo) (.i (f : Int)) (.i (t : Int)) (.i 0) (.i (n : Int)) (.sl 0 0 n (some n) n 1) (.i (i : Int)) .undef .undef .undef) H (.exit 0) (pol.keys 54) (env54 (.imm .arg 1 rw) (.imm .arg 1 lo) (.i (f : Int)) (.i (t : Int)) (.i 0) (.i (n : Int)) (.sl 0 0 n (some n) n 1) (.i (i : Int)) .undef .undef .undef) H :=
  RunsTo.hin 0 60 [⟨4, 2, .bool false, H⟩] fun kf hk => ⟨_, by kernel_rfl, (oB H (decide_eq_false g0) .nil)⟩
theorem sp_f_0 (rw lo : List HV) (f t : Nat) (n : Nat) (H : Heap) (i : Nat) (H0 : Heap) (g0 : idxV Try.prog 23 (.sl 0 0 n (some n) n 1) (.i (f : Int)) = some (.ptr 0 f 0 n)) (g1 : storeV Try.prog H 3 (.ptr 0 f 0 n) (.i 0) = some H0) : RunsTo Try.prog pol 54 (sub [1, 1, 1, 1, 0] B54) (env54 (.imm .arg 1 rw) (.imm .arg 1 lo) (.i (f : Int)) (.i (t : Int)) (.i 0) (.i (n : Int)) (.sl 0 0 n (some n) n 1) (.i (i : Int)) .undef .undef .undef) H .normal (pol.keys 54) (env54 (.imm .arg 1 rw) (.imm .arg 1 lo) (.i (f : Int)) (.i (t : Int)) (.i 0) (.i (n : Int)) (.sl 0 0 n (some n) n 1) (.i (i : Int)) .undef .undef .undef) H0 :=
  RunsTo.hin 0 60 [⟨7, 2, .ptr 0 f 0 n, H⟩, ⟨7, 3, .tuple [], H0⟩] fun kf hk => ⟨_, by kernel_rfl, (oP H g0 (oS g1 .nil))⟩
theorem sp_g_0 (rw lo : List HV) (f t : Nat) (n : Nat) (H : Heap) (i : Nat) : RunsTo Try.prog pol 54 (sub [1, 1, 1, 1, 1, 0, 0] B54) (env54 (.imm .arg 1 rw) (.imm .arg 1 lo) (.i (f : Int)) (.i (t : Int)) (.i 0) (.i (n : Int)) (.sl 0 0 n (some n) n 1) (.i (i : Int)) .undef .undef .undef) H .normal (pol.keys 54) (env54 (.imm .arg 1 rw) (.imm .arg 1 lo) (.i (f : Int)) (.i (t : Int)) (.i 0) (.i (n : Int)) (.sl 0 0 n (some n) n 1) (.i (i : Int)) (.i 0) .undef .undef) H :=
  RunsTo.hin 0 60 [] fun kf hk => ⟨_, by kernel_rfl, .nil⟩
theorem sp_h_0 (rw lo : List HV) (f t : Nat) (n : Nat) (H : Heap) (r : Nat)(g0 : (r : Int) < (n : Int)) : RunsTo Try.prog pol 54 (sub [1, 1, 1, 1, 1, 0, 1, 0, 0, 0] B54) (env54 (.imm .arg 1 rw) (.imm .arg 1 lo) (.i (f : Int)) (.i (t : Int)) (.i 0) (.i (n : Int)) (.sl 0 0 n (some n) n 1) .undef (.i (r : Int)) .undef .undef) H .normal (pol.keys 54) (env54 (.imm .arg 1 rw) (.imm .arg 1 lo) (.i (f : Int)) (.i (t : Int)) (.i 0) (.i (n : Int)) (.sl 0 0 n (some n) n 1) .undef (.i (r : Int)) .undef .undef) H :=
  RunsTo.hin 0 60 [⟨9, 2, .bool true, H⟩] fun kf hk => ⟨_, by kernel_rfl, (oB H (decide_eq_true g0) .nil)⟩
theorem sp_h_1 (rw lo : List HV) (f t : Nat) (n : Nat) (H : Heap) (r : Nat)(g0 : ¬ ((r : Int) < (n : Int))) : RunsTo Try.prog pol 54 (sub [1, 1, 1, 1, 1, 0, 1, 0, 0, 0] B54) (env54 (.imm .arg 1 rw) (.imm .arg 1 lo) (.i (f : Int)) (.i (t : Int)) (.i 0) (.i (n : Int)) (.sl 0 0 n (some n) n 1) .undef (.i (r : Int)) .undef .undef) H (.exit 2) (pol.keys 54) (env54 (.imm .arg 1 rw) (.imm .arg 1 lo) (.i (f : Int)) (.i (t : Int)) (.i 0) (.i (n : Int)) (.sl 0 0 n (some n) n 1) .undef (.i (r : Int)) .undef .undef) H :=
  RunsTo.hin 0 60 [⟨9, 2, .bool false, H⟩] fun kf hk => ⟨_, by kernel_rfl, (oB H (decide_eq_false g0) .nil)⟩
theorem sp_i_0 (rw lo : List HV) (f t : Nat) (n : Nat) (H : Heap) (r : Nat) : RunsTo Try.prog pol 54 (sub [1, 1, 1, 1, 1, 0, 1, 0, 0, 1, 0, 0, 0] B54) (env54 (.imm .arg 1 rw) (.imm .arg 1 lo) (.i (f : Int)) (.i (t : Int)) (.i 0) (.i (n : Int)) (.sl 0 0 n (some n) n 1) .undef (.i (r : Int)) .undef .undef) H .normal (pol.keys 54) (env54 (.imm .arg 1 rw) (.imm .arg 1 lo) (.i (f : Int)) (.i (t : Int)) (.i 0) (.i (n : Int)) (.sl 0 0 n (some n) n 1) .undef (.i (r : Int)) (.i 0) .undef) H :=
  RunsTo.hin 0 60 [] fun kf hk => ⟨_, by kernel_rfl, .nil⟩
theorem sp_j_0 (rw lo : List HV) (f t : Nat) (n : Nat) (H : Heap) (r : Nat) (x : Nat)(g0 : (x : Int) < (n : Int)) : RunsTo Try.prog pol 54 (sub [1, 1, 1, 1, 1, 0, 1, 0, 0, 1, 0, 0, 1, 0, 0, 0] B54) (env54 (.imm .arg 1 rw) (.imm .arg 1 lo) (.i (f : Int)) (.i (t : Int)) (.i 0) (.i (n : Int)) (.sl 0 0 n (some n) n 1) .undef (.i (r : Int)) (.i (x : Int)) .undef) H .normal (pol.keys 54) (env54 (.imm .arg 1 rw) (.imm .arg 1 lo) (.i (f : Int)) (.i (t : Int)) (.i 0) (.i (n : Int)) (.sl 0 0 n (some n) n 1) .undef (.i (r : Int)) (.i (x : Int)) .undef) H :=
  RunsTo.hin 0 60 [⟨12, 2, .bool true, H⟩] fun kf hk => ⟨_, by kernel_rfl, (oB H (decide_eq_true g0) .nil)⟩
theorem sp_j_1 (rw lo : List HV) (f t : Nat) (n : Nat) (H : Heap) (r : Nat) (x : Nat)(g0 : ¬ ((x : Int) < (n : Int))) : RunsTo Try.prog pol 54 (sub [1, 1, 1, 1, 1, 0, 1, 0, 0, 1, 0, 0, 1, 0, 0, 0] B54) (env54 (.imm .arg 1 rw) (.imm .arg 1 lo) (.i (f : Int)) (.i (t : Int)) (.i 0) (.i (n : Int)) (.sl 0 0 n (some n) n 1) .undef (.i (r : Int)) (.i (x : Int)) .undef) H (.exit 4) (pol.keys 54) (env54 (.imm .arg 1 rw) (.imm .arg 1 lo) (.i (f : Int)) (.i (t : Int)) (.i 0) (.i (n : Int)) (.sl 0 0 n (some n) n 1) .undef (.i (r : Int)) (.i (x : Int)) .undef) H :=
  RunsTo.hin 0 60 [⟨12, 2, .bool false, H⟩] fun kf hk => ⟨_, by kernel_rfl, (oB H (decide_eq_false g0) .nil)⟩
theorem sp_k_0 (rw lo : List HV) (f t : Nat) (n : Nat) (H : Heap) (r : Nat) (x : Nat) : RunsTo Try.prog pol 54 (sub [1, 1, 1, 1, 1, 0, 1, 0, 0, 1, 0, 0, 1, 0, 0, 1, 0, 0, 0] B54) (env54 (.imm .arg 1 rw) (.imm .arg 1 lo) (.i (f : Int)) (.i (t : Int)) (.i 0) (.i (n : Int)) (.sl 0 0 n (some n) n 1) .undef (.i (r : Int)) (.i (x : Int)) .undef) H .normal (pol.keys 54) (env54 (.imm .arg 1 rw) (.imm .arg 1 lo) (.i (f : Int)) (.i (t : Int)) (.i 0) (.i (n : Int)) (.sl 0 0 n (some n) n 1) .undef (.i (r : Int)) (.i (x : Int)) (.i 0)) H :=
  RunsTo.hin 0 60 [] fun kf hk => ⟨_, by kernel_rfl, .nil⟩
theorem sp_l_0 (rw lo : List HV) (f t : Nat) (n : Nat) (H : Heap) (r : Nat) (x : Nat) (y : Nat)(g0 : (y : Int) < (n : Int)) (g1 : idxV Try.prog 79 (.imm .arg 1 lo) (.i (x : Int)) = some (.vptr (.bool true))) : RunsTo Try.prog pol 54 (sub [1, 1, 1, 1, 1, 0, 1, 0, 0, 1, 0, 0, 1, 0, 0, 1, 0, 0, 1, 0, 0] B54) (env54 (.imm .arg 1 rw) (.imm .arg 1 lo) (.i (f : Int)) (.i (t : Int)) (.i 0) (.i (n : Int)) (.sl 0 0 n (some n) n 1) .undef (.i (r : Int)) (.i (x : Int)) (.i (y : Int))) H .normal (pol.keys 54) (env54 (.imm .arg 1 rw) (.imm .arg 1 lo) (.i (f : Int)) (.i (t : Int)) (.i 0) (.i (n : Int)) (.sl 0 0 n (some n) n 1) .undef (.i (r : Int)) (.i (x : Int)) (.i (IntKind.i64.wrap ((y : Int) + 1)))) H :=
  RunsTo.hin 0 60 [⟨15, 2, .bool true, H⟩, ⟨17, 2, .vptr (.bool true), H⟩] fun kf hk => ⟨_, by kernel_rfl, (oB H (decide_eq_true g0) (oP H g1 .nil))⟩
theorem sp_l_1 (rw lo : List HV) (f t : Nat) (n : Nat) (H : Heap) (r : Nat) (x : Nat) (y : Nat)(g0 : (y : Int) < (n : Int)) (g1 : idxV Try.prog 79 (.imm .arg 1 lo) (.i (x : Int)) = some (.vptr (.bool false))) (g2 : idxV Try.prog 79 (.imm .arg 1 lo) (.i (y : Int)) = some (.vptr (.bool true))) : RunsTo Try.prog pol 54 (sub [1, 1, 1, 1, 1, 0, 1, 0, 0, 1, 0, 0, 1, 0, 0, 1, 0, 0, 1, 0, 0] B54) (env54 (.imm .arg 1 rw) (.imm .arg 1 lo) (.i (f : Int)) (.i (t : Int)) (.i 0) (.i (n : Int)) (.sl 0 0 n (some n) n 1) .undef (.i (r : Int)) (.i (x : Int)) (.i (y : Int))) H .normal (pol.keys 54) (env54 (.imm .arg 1 rw) (.imm .arg 1 lo) (.i (f : Int)) (.i (t : Int)) (.i 0) (.i (n : Int)) (.sl 0 0 n (some n) n 1) .undef (.i (r : Int)) (.i (x : Int)) (.i (IntKind.i64.wrap ((y : Int) + 1)))) H :=
  RunsTo.hin 0 60 [⟨15, 2, .bool true, H⟩, ⟨17, 2, .vptr (.bool false), H⟩, ⟨17, 8, .vptr (.bool true), H⟩] fun kf hk => ⟨_, by kernel_rfl, (oB H (decide_eq_true g0) (oP H g1 (oP H g2 .nil)))⟩
theorem sp_l_2 (rw lo : List HV) (f t : Nat) (n : Nat) (H : Heap) (r : Nat) (x : Nat) (y : Nat) (x0 : Int) (x1 : Int) (l0 : List HV) (x2 : Int) (H0 : Heap) (g0 : (y : Int) < (n : Int)) (g1 : idxV Try.prog 79 (.imm .arg 1 lo) (.i (x : Int)) = some (.vptr (.bool false))) (g2 : idxV Try.prog 79 (.imm .arg 1 lo) (.i (y : Int)) = some (.vptr (.bool false))) (g3 : idxV Try.prog 23 (.sl 0 0 n (some n) n 1) (.i (y : Int)) = some (.ptr 0 y 0 n)) (g4 : loadV Try.prog H 3 (.ptr 0 y 0 n) = some (.i x0)) (g5 : idxV Try.prog 23 (.sl 0 0 n (some n) n 1) (.i (x : Int)) = some (.ptr 0 x 0 n)) (g6 : loadV Try.prog H 3 (.ptr 0 x 0 n) = some (.i x1)) (g7 : idxV Try.prog 22 (.imm .arg 1 rw) (.i (x : Int)) = some (.vptr (.imm .arg 1 l0))) (g8 : idxV Try.prog 23 (.imm .arg 1 l0) (.i (y : Int)) = some (.vptr (.i x2))) (g9 : idxV Try.prog 23 (.sl 0 0 n (some n) n 1) (.i (y : Int)) = some (.ptr 0 y 0 n)) (g10 : storeV Try.prog H 3 (.ptr 0 y 0 n) (.i (min x0 (IntKind.i64.wrap (x1 + x2)))) = some H0) : RunsTo Try.prog pol 54 (sub [1, 1, 1, 1, 1, 0, 1, 0, 0, 1, 0, 0, 1, 0, 0, 1, 0, 0, 1, 0, 0] B54) (env54 (.imm .arg 1 rw) (.imm .arg 1 lo) (.i (f : Int)) (.i (t : Int)) (.i 0) (.i (n : Int)) (.sl 0 0 n (some n) n 1) .undef (.i (r : Int)) (.i (x : Int)) (.i (y : Int))) H .normal (pol.keys 54) (env54 (.imm .arg 1 rw) (.imm .arg 1 lo) (.i (f : Int)) (.i (t : Int)) (.i 0) (.i (n : Int)) (.sl 0 0 n (some n) n 1) .undef (.i (r : Int)) (.i (x : Int)) (.i (IntKind.i64.wrap ((y : Int) + 1)))) H0 :=
  RunsTo.hin 0 60 [⟨15, 2, .bool true, H⟩, ⟨17, 2, .vptr (.bool false), H⟩, ⟨17, 8, .vptr (.bool false), H⟩, ⟨18, 4, .ptr 0 y 0 n, H⟩, ⟨18, 5, .i x0, H⟩, ⟨18, 8, .ptr 0 x 0 n, H⟩, ⟨18, 9, .i x1, H⟩, ⟨18, 12, .vptr (.imm .arg 1 l0), H⟩, ⟨18, 15, .vptr (.i x2), H⟩, ⟨18, 19, .ptr 0 y 0 n, H⟩, ⟨18, 20, .tuple [], H0⟩] fun kf hk => ⟨_, by kernel_rfl, (oB H (decide_eq_true g0) (oP H g1 (oP H g2 (oP H g3 (oP H g4 (oP H g5 (oP H g6 (oP H g7 (oP H g8 (oP H g9 (oS g10 .nil)))))))))))⟩
theorem sp_l_3 (rw lo : List HV) (f t : Nat) (n : Nat) (H : Heap) (r : Nat) (x : Nat) (y : Nat)(g0 : ¬ ((y : Int) < (n : Int))) : RunsTo Try.prog pol 54 (sub [1, 1, 1, 1, 1, 0, 1, 0, 0, 1, 0, 0, 1, 0, 0, 1, 0, 0, 1, 0, 0] B54) (env54 (.imm .arg 1 rw) (.imm .arg 1 lo) (.i (f : Int)) (.i (t : Int)) (.i 0) (.i (n : Int)) (.sl 0 0 n (some n) n 1) .undef (.i (r : Int)) (.i (x : Int)) (.i (y : Int))) H (.exit 6) (pol.keys 54) (env54 (.imm .arg 1 rw) (.imm .arg 1 lo) (.i (f : Int)) (.i (t : Int)) (.i 0) (.i (n : Int)) (.sl 0 0 n (some n) n 1) .undef (.i (r : Int)) (.i (x : Int)) (.i (y : Int))) H :=
  RunsTo.hin 0 60 [⟨15, 2, .bool false, H⟩] fun kf hk => ⟨_, by kernel_rfl, (oB H (decide_eq_false g0) .nil)⟩
theorem sp_m_0 (rw lo : List HV) (f t : Nat) (n : Nat) (H : Heap) (r : Nat) (x : Nat) (y : Nat) : RunsTo Try.prog pol 54 (sub [1, 1, 1, 1, 1, 0, 1, 0, 0, 1, 0, 0, 1, 0, 0, 1, 1] B54) (env54 (.imm .arg 1 rw) (.imm .arg 1 lo) (.i (f : Int)) (.i (t : Int)) (.i 0) (.i (n : Int)) (.sl 0 0 n (some n) n 1) .undef (.i (r : Int)) (.i (x : Int)) (.i (y : Int))) H .normal (pol.keys 54) (env54 (.imm .arg 1 rw) (.imm .arg 1 lo) (.i (f : Int)) (.i (t : Int)) (.i 0) (.i (n : Int)) (.sl 0 0 n (some n) n 1) .undef (.i (r : Int)) (.i (IntKind.i64.wrap ((x : Int) + 1))) (.i (y : Int))) H :=
  RunsTo.hin 0 60 [] fun kf hk => ⟨_, by kernel_rfl, .nil⟩
theorem sp_n_0 (rw lo : List HV) (f t : Nat) (n : Nat) (H : Heap) (r : Nat) (x : Nat) : RunsTo Try.prog pol 54 (sub [1, 1, 1, 1, 1, 0, 1, 0, 0, 1, 1] B54) (env54 (.imm .arg 1 rw) (.imm .arg 1 lo) (.i (f : Int)) (.i (t : Int)) (.i 0) (.i (n : Int)) (.sl 0 0 n (some n) n 1) .undef (.i (r : Int)) (.i (x : Int)) .undef) H .normal (pol.keys 54) (env54 (.imm .arg 1 rw) (.imm .arg 1 lo) (.i (f : Int)) (.i (t : Int)) (.i 0) (.i (n : Int)) (.sl 0 0 n (some n) n 1) .undef (.i (IntKind.i64.wrap ((r : Int) + 1))) (.i (x : Int)) .undef) H :=
  RunsTo.hin 0 60 [] fun kf hk => ⟨_, by kernel_rfl, .nil⟩
theorem sp_z_0 (rw lo : List HV) (f t : Nat) (n : Nat) (H : Heap) (r : Nat) (x0 : Int) (g0 : idxV Try.prog 23 (.sl 0 0 n (some n) n 1) (.i (t : Int)) = some (.ptr 0 t 0 n)) (g1 : loadV Try.prog H 3 (.ptr 0 t 0 n) = some (.i x0)) : RunsTo Try.prog pol 54 (sub [1, 1, 1, 1, 1, 1] B54) (env54 (.imm .arg 1 rw) (.imm .arg 1 lo) (.i (f : Int)) (.i (t : Int)) (.i 0) (.i (n : Int)) (.sl 0 0 n (some n) n 1) .undef (.i (r : Int)) .undef .undef) H .ret (pol.keys 54) (env54 (.imm .arg 1 rw) (.imm .arg 1 lo) (.i (f : Int)) (.i (t : Int)) (.i x0) (.i (n : Int)) (.sl 0 0 n (some n) n 1) .undef (.i (r : Int)) .undef .undef) H :=
  RunsTo.hin 0 60 [⟨19, 2, .ptr 0 t 0 n, H⟩, ⟨19, 3, .i x0, H⟩] fun kf hk => ⟨_, by kernel_rfl, (oP H g0 (oP H g1 .nil))⟩
end Go.Proofs.Ytlendaofkmhgmaa
end
section
open Go Go.HL
namespace Go.Proofs.Ytlendaofkmhgmaa
set_option maxRecDepth 100000
noncomputable def B22 : Code := Try.f22.body.getD .skip
abbrev env22 (v0 v2 v3 v4 v5 v6 v7 v13 v14 v18 v19 v23 v24 : HV) : Env := [(0, v0), (2, v2), (3, v3), (4, v4), (5, v5), (6, v6), (7, v7), (13, v13), (14, v14), (18, v18), (19, v19), (23, v23), (24, v24)]
theorem me_a_0 (rw : List HV) : RunsTo Try.prog polN 22 (sub [0] B22) [(0, .imm .arg 1 rw)] [] .normal (polN.keys 22) (env22 (.imm .arg 1 rw) (.ptr 0 0 0 1) (.bool false) (.i 0) .undef .undef .undef .undef .undef .undef .undef .undef .undef) [.arr 3 [.agg [.i 0, .i 0, .i 0]] true 0] :=
  RunsTo.hin 0 60 [] fun kf hk => ⟨_, by kernel_rfl, .nil⟩
theorem me_b_0 (rw : List HV)(g0 : ∀ kf, callN Try.prog polN (kf + 1) 46 [.imm .arg 1 rw] [.arr 3 [.agg [.i 0, .i 0, .i 0]] true 0] = some (.bool true, [.arr 3 [.agg [.i 0, .i 0, .i 0]] true 0])) : RunsTo Try.prog polN 22 (sub [1, 0] B22) (env22 (.imm .arg 1 rw) (.ptr 0 0 0 1) (.bool false) (.i 0) .undef .undef .undef .undef .undef .undef .undef .undef .undef) [.arr 3 [.agg [.i 0, .i 0, .i 0]] true 0] .normal (polN.keys 22) (env22 (.imm .arg 1 rw) (.ptr 0 0 0 1) (.bool false) (.i 0) .undef .undef .undef .undef .undef .undef .undef .undef .undef) [.arr 3 [.agg [.i 0, .i 0, .i 0]] true 0] :=
  RunsTo.hin 0 60 [⟨1, 1, .bool true, [.arr 3 [.agg [.i 0, .i 0, .i 0]] true 0]⟩] fun kf hk => ⟨_, by kernel_rfl, (oC (g0 kf) .nil)⟩
theorem me_b_1 (rw : List HV)(g0 : ∀ kf, callN Try.prog polN (kf + 1) 46 [.imm .arg 1 rw] [.arr 3 [.agg [.i 0, .i 0, .i 0]] true 0] = some (.bool false, [.arr 3 [.agg [.i 0, .i 0, .i 0]] true 0])) : RunsTo Try.prog polN 22 (sub [1, 0] B22) (env22 (.imm .arg 1 rw) (.ptr 0 0 0 1) (.bool false) (.i 0) .undef .undef .undef .undef .undef .undef .undef .undef .undef) [.arr 3 [.agg [.i 0, .i 0, .i 0]] true 0] .ret (polN.keys 22) (env22 (.imm .arg 1 rw) (.ptr 0 0 0 1) (.bool false) (.i 2) .undef .undef .undef .undef .undef .undef .undef .undef .undef) [.arr 3 [.agg [.i 0, .i 0, .i 0]] true 0] :=
  RunsTo.hin 0 60 [⟨1, 1, .bool false, [.arr 3 [.agg [.i 0, .i 0, .i 0]] true 0]⟩] fun kf hk => ⟨_, by kernel_rfl, (oC (g0 kf) .nil)⟩
theorem me_c_0 (rw : List HV) : RunsTo Try.prog polN 22 (sub [1, 1, 0, 0] B22) (env22 (.imm .arg 1 rw) (.ptr 0 0 0 1) (.bool false) (.i 0) .undef .undef .undef .undef .undef .undef .undef .undef .undef) [.arr 3 [.agg [.i 0, .i 0, .i 0]] true 0] .normal (polN.keys 22) (env22 (.imm .arg 1 rw) (.ptr 0 0 0 1) (.bool false) (.i 0) .undef .undef .undef (.i (rw.length : Int)) (.i 0) .undef .undef .undef .undef) [.arr 3 [.agg [.i 0, .i 0, .i 0]] true 0] :=
  RunsTo.hin 0 60 [] fun kf hk => ⟨_, by kernel_rfl, .nil⟩
theorem me_e_0 (rw : List HV) (i : Nat)(g0 : (i : Int) < (rw.length : Int)) : RunsTo Try.prog polN 22 (sub [1, 1, 0, 1, 0, 0, 0] B22) (env22 (.imm .arg 1 rw) (.ptr 0 0 0 1) (.bool false) (.i 0) .undef .undef .undef (.i (rw.length : Int)) (.i (i : Int)) .undef .undef .undef .undef) [.arr 3 [.agg [.i 0, .i 0, .i 0]] true 0] .normal [0, 2, 3, 4, 5, 6, 7, 13, 14, 18, 19, 23, 24, 15] [(0, .imm .arg 1 rw), (2, .ptr 0 0 0 1), (3, .bool false), (4, .i 0), (5, .undef), (6, .undef), (7, .undef), (13, .i (rw.length : Int)), (14, .i (i : Int)), (18, .undef), (19, .undef), (23, .undef), (24, .undef), (15, .bool true)] [.arr 3 [.agg [.i 0, .i 0, .i 0]] true 0] :=
  RunsTo.hin 0 60 [⟨4, 0, .bool true, [.arr 3 [.agg [.i 0, .i 0, .i 0]] true 0]⟩] fun kf hk => ⟨_, by kernel_rfl, (oB [.arr 3 [.agg [.i 0, .i 0, .i 0]] true 0] (decide_eq_true g0) .nil)⟩
theorem me_e_1 (rw : List HV) (i : Nat)(g0 : ¬ ((i : Int) < (rw.length : Int))) : RunsTo Try.prog polN 22 (sub [1, 1, 0, 1, 0, 0, 0] B22) (env22 (.imm .arg 1 rw) (.ptr 0 0 0 1) (.bool false) (.i 0) .undef .undef .undef (.i (rw.length : Int)) (.i (i : Int)) .undef .undef .undef .undef) [.arr 3 [.agg [.i 0, .i 0, .i 0]] true 0] .normal [0, 2, 3, 4, 5, 6, 7, 13, 14, 18, 19, 23, 24, 15] [(0, .imm .arg 1 rw), (2, .ptr 0 0 0 1), (3, .bool false), (4, .i 0), (5, .undef), (6, .undef), (7, .undef), (13, .i (rw.length : Int)), (14, .i (i : Int)), (18, .undef), (19, .undef), (23, .undef), (24, .undef), (15, .bool false)] [.arr 3 [.agg [.i 0, .i 0, .i 0]] true 0] :=
  RunsTo.hin 0 60 [⟨4, 0, .bool false, [.arr 3 [.agg [.i 0, .i 0, .i 0]] true 0]⟩] fun kf hk => ⟨_, by kernel_rfl, (oB [.arr 3 [.agg [.i 0, .i 0, .i 0]] true 0] (decide_eq_false g0) .nil)⟩
theorem me_ft_0 (rw : List HV) (i : Nat) : RunsTo Try.prog polN 22 (sub [1, 1, 0, 1, 0, 0, 1, 0] B22) [(0, .imm .arg 1 rw), (2, .ptr 0 0 0 1), (3, .bool false), (4, .i 0), (5, .undef), (6, .undef), (7, .undef), (13, .i (rw.length : Int)), (14, .i (i : Int)), (18, .undef), (19, .undef), (23, .undef), (24, .undef), (15, .bool true)] [.arr 3 [.agg [.i 0, .i 0, .i 0]] true 0] .normal (polN.keys 22) (env22 (.imm .arg 1 rw) (.ptr 0 0 0 1) (.bool false) (.i 0) .undef .undef .undef (.i (rw.length : Int)) (.i (i : Int)) .undef .undef .undef .undef) [.arr 3 [.agg [.i 0, .i 0, .i 0]] true 0] :=
  RunsTo.hin 0 60 [] fun kf hk => ⟨_, by kernel_rfl, .nil⟩
theorem me_ff_0 (rw : List HV) (i : Nat) : RunsTo Try.prog polN 22 (sub [1, 1, 0, 1, 0, 0, 1, 0] B22) [(0, .imm .arg 1 rw), (2, .ptr 0 0 0 1), (3, .bool false), (4, .i 0), (5, .undef), (6, .undef), (7, .undef), (13, .i (rw.length : Int)), (14, .i (i : Int)), (18, .undef), (19, .undef), (23, .undef), (24, .undef), (15, .bool false)] [.arr 3 [.agg [.i 0, .i 0, .i 0]] true 0] (.exit 0) (polN.keys 22) (env22 (.imm .arg 1 rw) (.ptr 0 0 0 1) (.bool false) (.i 0) .undef .undef .undef (.i (rw.length : Int)) (.i (i : Int)) .undef .undef .undef .undef) [.arr 3 [.agg [.i 0, .i 0, .i 0]] true 0] :=
  RunsTo.hin 0 60 [] fun kf hk => ⟨_, by kernel_rfl, .nil⟩
theorem me_g_0 (rw : List HV) (i : Nat) : RunsTo Try.prog polN 22 (sub [1, 1, 0, 1, 0, 0, 1, 1, 0, 0, 0] B22) (env22 (.imm .arg 1 rw) (.ptr 0 0 0 1) (.bool false) (.i 0) .undef .undef .undef (.i (rw.length : Int)) (.i (i : Int)) .undef .undef .undef .undef) [.arr 3 [.agg [.i 0, .i 0, .i 0]] true 0] .normal (polN.keys 22) (env22 (.imm .arg 1 rw) (.ptr 0 0 0 1) (.bool false) (.i 0) (.i (i : Int)) .undef .undef (.i (rw.length : Int)) (.i (i : Int)) .undef .undef .undef .undef) [.arr 3 [.agg [.i 0, .i 0, .i 0]] true 0] :=
  RunsTo.hin 0 60 [] fun kf hk => ⟨_, by kernel_rfl, .nil⟩
theorem me_h_0 (rw : List HV) (i : Nat) : RunsTo Try.prog polN 22 (sub [1, 1, 0, 1, 0, 0, 1, 1, 0, 0, 1, 0] B22) (env22 (.imm .arg 1 rw) (.ptr 0 0 0 1) (.bool false) (.i 0) (.i (i : Int)) .undef .undef (.i (rw.length : Int)) (.i (i : Int)) .undef .undef .undef .undef) [.arr 3 [.agg [.i 0, .i 0, .i 0]] true 0] .normal (polN.keys 22) (env22 (.imm .arg 1 rw) (.ptr 0 0 0 1) (.bool false) (.i 0) (.i (i : Int)) .undef .undef (.i (rw.length : Int)) (.i (i : Int)) (.i (rw.length : Int)) (.i 0) .undef .undef) [.arr 3 [.agg [.i 0, .i 0, .i 0]] true 0] :=
  RunsTo.hin 0 60 [] fun kf hk => ⟨_, by kernel_rfl, .nil⟩
theorem me_i_0 (rw : List HV) (i : Nat) (j : Nat)(g0 : (j : Int) < (rw.length : Int)) : RunsTo Try.prog polN 22 (sub [1, 1, 0, 1, 0, 0, 1, 1, 0, 0, 1, 1, 0, 0, 0] B22) (env22 (.imm .arg 1 rw) (.ptr 0 0 0 1) (.bool false) (.i 0) (.i (i : Int)) .undef .undef (.i (rw.length : Int)) (.i (i : Int)) (.i (rw.length : Int)) (.i (j : Int)) .undef .undef) [.arr 3 [.agg [.i 0, .i 0, .i 0]] true 0] .normal [0, 2, 3, 4, 5, 6, 7, 13, 14, 18, 19, 23, 24, 20] [(0, .imm .arg 1 rw), (2, .ptr 0 0 0 1), (3, .bool false), (4, .i 0), (5, .i (i : Int)), (6, .undef), (7, .undef), (13, .i (rw.length : Int)), (14, .i (i : Int)), (18, .i (rw.length : Int)), (19, .i (j : Int)), (23, .undef), (24, .undef), (20, .bool true)] [.arr 3 [.agg [.i 0, .i 0, .i 0]] true 0] :=
  RunsTo.hin 0 60 [⟨7, 0, .bool true, [.arr 3 [.agg [.i 0, .i 0, .i 0]] true 0]⟩] fun kf hk => ⟨_, by kernel_rfl, (oB [.arr 3 [.agg [.i 0, .i 0, .i 0]] true 0] (decide_eq_true g0) .nil)⟩
theorem me_i_1 (rw : List HV) (i : Nat) (j : Nat)(g0 : ¬ ((j : Int) < (rw.length : Int))) : RunsTo Try.prog polN 22 (sub [1, 1, 0, 1, 0, 0, 1, 1, 0, 0, 1, 1, 0, 0, 0] B22) (env22 (.imm .arg 1 rw) (.ptr 0 0 0 1) (.bool false) (.i 0) (.i (i : Int)) .undef .undef (.i (rw.length : Int)) (.i (i : Int)) (.i (rw.length : Int)) (.i (j : Int)) .undef .undef) [.arr 3 [.agg [.i 0, .i 0, .i 0]] true 0] .normal [0, 2, 3, 4, 5, 6, 7, 13, 14, 18, 19, 23, 24, 20] [(0, .imm .arg 1 rw), (2, .ptr 0 0 0 1), (3, .bool false), (4, .i 0), (5, .i (i : Int)), (6, .undef), (7, .undef), (13, .i (rw.length : Int)), (14, .i (i : Int)), (18, .i (rw.length : Int)), (19, .i (j : Int)), (23, .undef), (24, .undef), (20, .bool false)] [.arr 3 [.agg [.i 0, .i 0, .i 0]] true 0] :=
  RunsTo.hin 0 60 [⟨7, 0, .bool false, [.arr 3 [.agg [.i 0, .i 0, .i 0]] true 0]⟩] fun kf hk => ⟨_, by kernel_rfl, (oB [.arr 3 [.agg [.i 0, .i 0, .i 0]] true 0] (decide_eq_false g0) .nil)⟩
theorem me_jt_0 (rw : List HV) (i : Nat) (j : Nat) : RunsTo Try.prog polN 22 (sub [1, 1, 0, 1, 0, 0, 1, 1, 0, 0, 1, 1, 0, 0, 1, 0] B22) [(0, .imm .arg 1 rw), (2, .ptr 0 0 0 1), (3, .bool false), (4, .i 0), (5, .i (i : Int)), (6, .undef), (7, .undef), (13, .i (rw.length : Int)), (14, .i (i : Int)), (18, .i (rw.length : Int)), (19, .i (j : Int)), (23, .undef), (24, .undef), (20, .bool true)] [.arr 3 [.agg [.i 0, .i 0, .i 0]] true 0] .normal (polN.keys 22) (env22 (.imm .arg 1 rw) (.ptr 0 0 0 1) (.bool false) (.i 0) (.i (i : Int)) .undef .undef (.i (rw.length : Int)) (.i (i : Int)) (.i (rw.length : Int)) (.i (j : Int)) .undef .undef) [.arr 3 [.agg [.i 0, .i 0, .i 0]] true 0] :=
  RunsTo.hin 0 60 [] fun kf hk => ⟨_, by kernel_rfl, .nil⟩
theorem me_jf_0 (rw : List HV) (i : Nat) (j : Nat) : RunsTo Try.prog polN 22 (sub [1, 1, 0, 1, 0, 0, 1, 1, 0, 0, 1, 1, 0, 0, 1, 0] B22) [(0, .imm .arg 1 rw), (2, .ptr 0 0 0 1), (3, .bool false), (4, .i 0), (5, .i (i : Int)), (6, .undef), (7, .undef), (13, .i (rw.length : Int)), (14, .i (i : Int)), (18, .i (rw.length : Int)), (19, .i (j : Int)), (23, .undef), (24, .undef), (20, .bool false)] [.arr 3 [.agg [.i 0, .i 0, .i 0]] true 0] (.exit 2) (polN.keys 22) (env22 (.imm .arg 1 rw) (.ptr 0 0 0 1) (.bool false) (.i 0) (.i (i : Int)) .undef .undef (.i (rw.length : Int)) (.i (i : Int)) (.i (rw.length : Int)) (.i (j : Int)) .undef .undef) [.arr 3 [.agg [.i 0, .i 0, .i 0]] true 0] :=
  RunsTo.hin 0 60 [] fun kf hk => ⟨_, by kernel_rfl, .nil⟩
theorem me_k_0 (rw : List HV) (i : Nat) (j : Nat) : RunsTo Try.prog polN 22 (sub [1, 1, 0, 1, 0, 0, 1, 1, 0, 0, 1, 1, 0, 0, 1, 1, 0, 0, 0] B22) (env22 (.imm .arg 1 rw) (.ptr 0 0 0 1) (.bool false) (.i 0) (.i (i : Int)) .undef .undef (.i (rw.length : Int)) (.i (i : Int)) (.i (rw.length : Int)) (.i (j : Int)) .undef .undef) [.arr 3 [.agg [.i 0, .i 0, .i 0]] true 0] .normal (polN.keys 22) (env22 (.imm .arg 1 rw) (.ptr 0 0 0 1) (.bool false) (.i 0) (.i (i : Int)) (.i (j : Int)) .undef (.i (rw.length : Int)) (.i (i : Int)) (.i (rw.length : Int)) (.i (j : Int)) .undef .undef) [.arr 3 [.agg [.i 0, .i 0, .i 0]] true 0] :=
  RunsTo.hin 0 60 [] fun kf hk => ⟨_, by kernel_rfl, .nil⟩
theorem me_l_0 (rw : List HV) (i : Nat) (j : Nat) : RunsTo Try.prog polN 22 (sub [1, 1, 0, 1, 0, 0, 1, 1, 0, 0, 1, 1, 0, 0, 1, 1, 0, 0, 1, 0] B22) (env22 (.imm .arg 1 rw) (.ptr 0 0 0 1) (.bool false) (.i 0) (.i (i : Int)) (.i (j : Int)) .undef (.i (rw.length : Int)) (.i (i : Int)) (.i (rw.length : Int)) (.i (j : Int)) .undef .undef) [.arr 3 [.agg [.i 0, .i 0, .i 0]] true 0] .normal (polN.keys 22) (env22 (.imm .arg 1 rw) (.ptr 0 0 0 1) (.bool false) (.i 0) (.i (i : Int)) (.i (j : Int)) .undef (.i (rw.length : Int)) (.i (i : Int)) (.i (rw.length : Int)) (.i (j : Int)) (.i (rw.length : Int)) (.i 0)) [.arr 3 [.agg [.i 0, .i 0, .i 0]] true 0] :=
  RunsTo.hin 0 60 [] fun kf hk => ⟨_, by kernel_rfl, .nil⟩
theorem me_m_0 (rw : List HV) (i : Nat) (j : Nat) (k : Nat) (l0 : List HV) (x0 : Int) (l1 : List HV) (x1 : Int) (l2 : List HV) (x2 : Int) (g0 : (k : Int) < (rw.length : Int)) (g1 : idxV Try.prog 22 (.imm .arg 1 rw) (.i (i : Int)) = some (.vptr (.imm .arg 1 l0))) (g2 : idxV Try.prog 23 (.imm .arg 1 l0) (.i (k : Int)) = some (.vptr (.i x0))) (g3 : idxV Try.prog 22 (.imm .arg 1 rw) (.i (i : Int)) = some (.vptr (.imm .arg 1 l1))) (g4 : idxV Try.prog 23 (.imm .arg 1 l1) (.i (j : Int)) = some (.vptr (.i x1))) (g5 : idxV Try.prog 22 (.imm .arg 1 rw) (.i (j : Int)) = some (.vptr (.imm .arg 1 l2))) (g6 : idxV Try.prog 23 (.imm .arg 1 l2) (.i (k : Int)) = some (.vptr (.i x2))) (g7 : IntKind.i64.wrap (x1 + x2) < x0) : RunsTo Try.prog polN 22 (sub [1, 1, 0, 1, 0, 0, 1, 1, 0, 0, 1, 1, 0, 0, 1, 1, 0, 0, 1, 1, 0, 0] B22) (env22 (.imm .arg 1 rw) (.ptr 0 0 0 1) (.bool false) (.i 0) (.i (i : Int)) (.i (j : Int)) .undef (.i (rw.length : Int)) (.i (i : Int)) (.i (rw.length : Int)) (.i (j : Int)) (.i (rw.length : Int)) (.i (k : Int))) [.arr 3 [.agg [.i 0, .i 0, .i 0]] true 0] .ret (polN.keys 22) (env22 (.imm .arg 1 rw) (.ptr 0 0 0 1) (.bool false) (.i 0) (.i (i : Int)) (.i (j : Int)) (.i (k : Int)) (.i (rw.length : Int)) (.i (i : Int)) (.i (rw.length : Int)) (.i (j : Int)) (.i (rw.length : Int)) (.i (k : Int))) [.arr 3 [.agg [.i (i : Int), .i (j : Int), .i (k : Int)]] true 0] :=
  RunsTo.hin 0 60 [⟨10, 0, .bool true, [.arr 3 [.agg [.i 0, .i 0, .i 0]] true 0]⟩, ⟨12, 2, .vptr (.imm .arg 1 l0), [.arr 3 [.agg [.i 0, .i 0, .i 0]] true 0]⟩, ⟨12, 5, .vptr (.i x0), [.arr 3 [.agg [.i 0, .i 0, .i 0]] true 0]⟩, ⟨12, 9, .vptr (.imm .arg 1 l1), [.arr 3 [.agg [.i 0, .i 0, .i 0]] true 0]⟩, ⟨12, 12, .vptr (.i x1), [.arr 3 [.agg [.i 0, .i 0, .i 0]] true 0]⟩, ⟨12, 16, .vptr (.imm .arg 1 l2), [.arr 3 [.agg [.i 0, .i 0, .i 0]] true 0]⟩, ⟨12, 19, .vptr (.i x2), [.arr 3 [.agg [.i 0, .i 0, .i 0]] true 0]⟩, ⟨12, 22, .bool true, [.arr 3 [.agg [.i 0, .i 0, .i 0]] true 0]⟩] fun kf hk => ⟨_, by kernel_rfl, (oB [.arr 3 [.agg [.i 0, .i 0, .i 0]] true 0] (decide_eq_true g0) (oP [.arr 3 [.agg [.i 0, .i 0, .i 0]] true 0] g1 (oP [.arr 3 [.agg [.i 0, .i 0, .i 0]] true 0] g2 (oP [.arr 3 [.agg [.i 0, .i 0, .i 0]] true 0] g3 (oP [.arr 3 [.agg [.i 0, .i 0, .i 0]] true 0] g4 (oP [.arr 3 [.agg [.i 0, .i 0, .i 0]] true 0] g5 (oP [.arr 3 [.agg [.i 0, .i 0, .i 0]] true 0] g6 (oB [.arr 3 [.agg [.i 0, .i 0, .i 0]] true 0] (decide_eq_true g7) .nil))))))))⟩
theorem me_m_1 (rw : List HV) (i : Nat) (j : Nat) (k : Nat) (l0 : List HV) (x0 : Int) (l1 : List HV) (x1 : Int) (l2 : List HV) (x2 : Int) (g0 : (k : Int) < (rw.length : Int)) (g1 : idxV Try.prog 22 (.imm .arg 1 rw) (.i (i : Int)) = some (.vptr (.imm .arg 1 l0))) (g2 : idxV Try.prog 23 (.imm .arg 1 l0) (.i (k : Int)) = some (.vptr (.i x0))) (g3 : idxV Try.prog 22 (.imm .arg 1 rw) (.i (i : Int)) = some (.vptr (.imm .arg 1 l1))) (g4 : idxV Try.prog 23 (.imm .arg 1 l1) (.i (j : Int)) = some (.vptr (.i x1))) (g5 : idxV Try.prog 22 (.imm .arg 1 rw) (.i (j : Int)) = some (.vptr (.imm .arg 1 l2))) (g6 : idxV Try.prog 23 (.imm .arg 1 l2) (.i (k : Int)) = some (.vptr (.i x2))) (g7 : ¬ (IntKind.i64.wrap (x1 + x2) < x0)) : RunsTo Try.prog polN 22 (sub [1, 1, 0, 1, 0, 0, 1, 1, 0, 0, 1, 1, 0, 0, 1, 1, 0, 0, 1, 1, 0, 0] B22) (env22 (.imm .arg 1 rw) (.ptr 0 0 0 1) (.bool false) (.i 0) (.i (i : Int)) (.i (j : Int)) .undef (.i (rw.length : Int)) (.i (i : Int)) (.i (rw.length : Int)) (.i (j : Int)) (.i (rw.length : Int)) (.i (k : Int))) [.arr 3 [.agg [.i 0, .i 0, .i 0]] true 0] .normal (polN.keys 22) (env22 (.imm .arg 1 rw) (.ptr 0 0 0 1) (.bool false) (.i 0) (.i (i : Int)) (.i (j : Int)) (.i (k : Int)) (.i (rw.length : Int)) (.i (i : Int)) (.i (rw.length : Int)) (.i (j : Int)) (.i (rw.length : Int)) (.i (IntKind.i64.wrap ((k : Int) + 1)))) [.arr 3 [.agg [.i 0, .i 0, .i 0]] true 0] :=
  RunsTo.hin 0 60 [⟨10, 0, .bool true, [.arr 3 [.agg [.i 0, .i 0, .i 0]] true 0]⟩, ⟨12, 2, .vptr (.imm .arg 1 l0), [.arr 3 [.agg [.i 0, .i 0, .i 0]] true 0]⟩, ⟨12, 5, .vptr (.i x0), [.arr 3 [.agg [.i 0, .i 0, .i 0]] true 0]⟩, ⟨12, 9, .vptr (.imm .arg 1 l1), [.arr 3 [.agg [.i 0, .i 0, .i 0]] true 0]⟩, ⟨12, 12, .vptr (.i x1), [.arr 3 [.agg [.i 0, .i 0, .i 0]] true 0]⟩, ⟨12, 16, .vptr (.imm .arg 1 l2), [.arr 3 [.agg [.i 0, .i 0, .i 0]] true 0]⟩, ⟨12, 19, .vptr (.i x2), [.arr 3 [.agg [.i 0, .i 0, .i 0]] true 0]⟩, ⟨12, 22, .bool false, [.arr 3 [.agg [.i 0, .i 0, .i 0]] true 0]⟩] fun kf hk => ⟨_, by kernel_rfl, (oB [.arr 3 [.agg [.i 0, .i 0, .i 0]] true 0] (decide_eq_true g0) (oP [.arr 3 [.agg [.i 0, .i 0, .i 0]] true 0] g1 (oP [.arr 3 [.agg [.i 0, .i 0, .i 0]] true 0] g2 (oP [.arr 3 [.agg [.i 0, .i 0, .i 0]] true 0] g3 (oP [.arr 3 [.agg [.i 0, .i 0, .i 0]] true 0] g4 (oP [.arr 3 [.agg [.i 0, .i 0, .i 0]] true 0] g5 (oP [.arr 3 [.agg [.i 0, .i 0, .i 0]] true 0] g6 (oB [.arr 3 [.agg [.i 0, .i 0, .i 0]] true 0] (decide_eq_false g7) .nil))))))))⟩
theorem me_m_2 (rw : List HV) (i : Nat) (j : Nat) (k : Nat)(g0 : ¬ ((k : Int) < (rw.length : Int))) : RunsTo Try.prog polN 22 (sub [1, 1, 0, 1, 0, 0, 1, 1, 0, 0, 1, 1, 0, 0, 1, 1, 0, 0, 1, 1, 0, 0] B22) (env22 (.imm .arg 1 rw) (.ptr 0 0 0 1) (.bool false) (.i 0) (.i (i : Int)) (.i (j : Int)) .undef (.i (rw.length : Int)) (.i (i : Int)) (.i (rw.length : Int)) (.i (j : Int)) (.i (rw.length : Int)) (.i (k : Int))) [.arr 3 [.agg [.i 0, .i 0, .i 0]] true 0] (.exit 4) (polN.keys 22) (env22 (.imm .arg 1 rw) (.ptr 0 0 0 1) (.bool false) (.i 0) (.i (i : Int)) (.i (j : Int)) .undef (.i (rw.length : Int)) (.i (i : Int)) (.i (rw.length : Int)) (.i (j : Int)) (.i (rw.length : Int)) (.i (k : Int))) [.arr 3 [.agg [.i 0, .i 0, .i 0]] true 0] :=
  RunsTo.hin 0 60 [⟨10, 0, .bool false, [.arr 3 [.agg [.i 0, .i 0, .i 0]] true 0]⟩] fun kf hk => ⟨_, by kernel_rfl, (oB [.arr 3 [.agg [.i 0, .i 0, .i 0]] true 0] (decide_eq_false g0) .nil)⟩
theorem me_n_0 (rw : List HV) (i : Nat) (j : Nat) (k : Nat) : RunsTo Try.prog polN 22 (sub [1, 1, 0, 1, 0, 0, 1, 1, 0, 0, 1, 1, 0, 0, 1, 1, 1] B22) (env22 (.imm .arg 1 rw) (.ptr 0 0 0 1) (.bool false) (.i 0) (.i (i : Int)) (.i (j : Int)) .undef (.i (rw.length : Int)) (.i (i : Int)) (.i (rw.length : Int)) (.i (j : Int)) (.i (rw.length : Int)) (.i (k : Int))) [.arr 3 [.agg [.i 0, .i 0, .i 0]] true 0] .normal (polN.keys 22) (env22 (.imm .arg 1 rw) (.ptr 0 0 0 1) (.bool false) (.i 0) (.i (i : Int)) (.i (j : Int)) .undef (.i (rw.length : Int)) (.i (i : Int)) (.i (rw.length : Int)) (.i (IntKind.i64.wrap ((j : Int) + 1))) (.i (rw.length : Int)) (.i (k : Int))) [.arr 3 [.agg [.i 0, .i 0, .i 0]] true 0] :=
  RunsTo.hin 0 60 [] fun kf hk => ⟨_, by kernel_rfl, .nil⟩
theorem me_o_0 (rw : List HV) (i : Nat) (j : Nat) : RunsTo Try.prog polN 22 (sub [1, 1, 0, 1, 0, 0, 1, 1, 1] B22) (env22 (.imm .arg 1 rw) (.ptr 0 0 0 1) (.bool false) (.i 0) (.i (i : Int)) .undef .undef (.i (rw.length : Int)) (.i (i : Int)) (.i (rw.length : Int)) (.i (j : Int)) .undef .undef) [.arr 3 [.agg [.i 0, .i 0, .i 0]] true 0] .normal (polN.keys 22) (env22 (.imm .arg 1 rw) (.ptr 0 0 0 1) (.bool false) (.i 0) (.i (i : Int)) .undef .undef (.i (rw.length : Int)) (.i (IntKind.i64.wrap ((i : Int) + 1))) (.i (rw.length : Int)) (.i (j : Int)) .undef .undef) [.arr 3 [.agg [.i 0, .i 0, .i 0]] true 0] :=
  RunsTo.hin 0 60 [] fun kf hk => ⟨_, by kernel_rfl, .nil⟩
theorem me_z_0 (rw : List HV) (i : Nat) : RunsTo Try.prog polN 22 (sub [1, 1, 1] B22) (env22 (.imm .arg 1 rw) (.ptr 0 0 0 1) (.bool false) (.i 0) .undef .undef .undef (.i (rw.length : Int)) (.i (i : Int)) .undef .undef .undef .undef) [.arr 3 [.agg [.i 0, .i 0, .i 0]] true 0] .ret (polN.keys 22) (env22 (.imm .arg 1 rw) (.ptr 0 0 0 1) (.bool true) (.i 0) .undef .undef .undef (.i (rw.length : Int)) (.i (i : Int)) .undef .undef .undef .undef) [.arr 3 [.agg [.i 0, .i 0, .i 0]] true 0] :=
  RunsTo.hin 0 60 [] fun kf hk => ⟨_, by kernel_rfl, .nil⟩
noncomputable def B24 : Code := Try.f24.body.getD .skip
abbrev env24 (v0 v2 v3 v4 v5 v6 v7 : HV) : Env := [(0, v0), (2, v2), (3, v3), (4, v4), (5, v5), (6, v6), (7, v7)]
theorem mr_a_0 (rw : List HV) : RunsTo Try.prog pol 24 (sub [0] B24) [(0, .imm .arg 1 rw)] [] .normal (pol.keys 24) (env24 (.imm .arg 1 rw) (.ptr 0 0 0 1) (.bool false) .undef .undef .undef .undef) [.arr 3 [.agg [.i 0, .i 0, .i 0]] true 0] :=
  RunsTo.hin 0 60 [] fun kf hk => ⟨_, by kernel_rfl, .nil⟩
theorem mr_b_0 (rw : List HV) : RunsTo Try.prog pol 24 (sub [1, 0] B24) (env24 (.imm .arg 1 rw) (.ptr 0 0 0 1) (.bool false) .undef .undef .undef .undef) [.arr 3 [.agg [.i 0, .i 0, .i 0]] true 0] .normal (pol.keys 24) (env24 (.imm .arg 1 rw) (.ptr 0 0 0 1) (.bool false) (.i (rw.length : Int)) .undef .undef .undef) [.arr 3 [.agg [.i 0, .i 0, .i 0]] true 0] :=
  RunsTo.hin 0 60 [] fun kf hk => ⟨_, by kernel_rfl, .nil⟩
theorem mr_c_0 (rw : List HV) (n : Nat) : RunsTo Try.prog pol 24 (sub [1, 1, 0, 0] B24) (env24 (.imm .arg 1 rw) (.ptr 0 0 0 1) (.bool false) (.i (n : Int)) .undef .undef .undef) [.arr 3 [.agg [.i 0, .i 0, .i 0]] true 0] .normal (pol.keys 24) (env24 (.imm .arg 1 rw) (.ptr 0 0 0 1) (.bool false) (.i (n : Int)) (.i 0) .undef .undef) [.arr 3 [.agg [.i 0, .i 0, .i 0]] true 0] :=
  RunsTo.hin 0 60 [] fun kf hk => ⟨_, by kernel_rfl, .nil⟩
theorem mr_e_0 (rw : List HV) (n : Nat) (i : Nat)(g0 : (i : Int) < (n : Int)) : RunsTo Try.prog pol 24 (sub [1, 1, 0, 1, 0, 0, 0] B24) (env24 (.imm .arg 1 rw) (.ptr 0 0 0 1) (.bool false) (.i (n : Int)) (.i (i : Int)) .undef .undef) [.arr 3 [.agg [.i 0, .i 0, .i 0]] true 0] .normal (pol.keys 24) (env24 (.imm .arg 1 rw) (.ptr 0 0 0 1) (.bool false) (.i (n : Int)) (.i (i : Int)) .undef .undef) [.arr 3 [.agg [.i 0, .i 0, .i 0]] true 0] :=
  RunsTo.hin 0 60 [⟨3, 2, .bool true, [.arr 3 [.agg [.i 0, .i 0, .i 0]] true 0]⟩] fun kf hk => ⟨_, by kernel_rfl, (oB [.arr 3 [.agg [.i 0, .i 0, .i 0]] true 0] (decide_eq_true g0) .nil)⟩
theorem mr_e_1 (rw : List HV) (n : Nat) (i : Nat)(g0 : ¬ ((i : Int) < (n : Int))) : RunsTo Try.prog pol 24 (sub [1, 1, 0, 1, 0, 0, 0] B24) (env24 (.imm .arg 1 rw) (.ptr 0 0 0 1) (.bool false) (.i (n : Int)) (.i (i : Int)) .undef .undef) [.arr 3 [.agg [.i 0, .i 0, .i 0]] true 0] (.exit 0) (pol.keys 24) (env24 (.imm .arg 1 rw) (.ptr 0 0 0 1) (.bool false) (.i (n : Int)) (.i (i : Int)) .undef .undef) [.arr 3 [.agg [.i 0, .i 0, .i 0]] true 0] :=
  RunsTo.hin 0 60 [⟨3, 2, .bool false, [.arr 3 [.agg [.i 0, .i 0, .i 0]] true 0]⟩] fun kf hk => ⟨_, by kernel_rfl, (oB [.arr 3 [.agg [.i 0, .i 0, .i 0]] true 0] (decide_eq_false g0) .nil)⟩
theorem mr_f_0 (rw : List HV) (n : Nat) (i : Nat) : RunsTo Try.prog pol 24 (sub [1, 1, 0, 1, 0, 0, 1, 0, 0, 0] B24) (env24 (.imm .arg 1 rw) (.ptr 0 0 0 1) (.bool false) (.i (n : Int)) (.i (i : Int)) .undef .undef) [.arr 3 [.agg [.i 0, .i 0, .i 0]] true 0] .normal (pol.keys 24) (env24 (.imm .arg 1 rw) (.ptr 0 0 0 1) (.bool false) (.i (n : Int)) (.i (i : Int)) (.i 0) .undef) [.arr 3 [.agg [.i 0, .i 0, .i 0]] true 0] :=
  RunsTo.hin 0 60 [] fun kf hk => ⟨_, by kernel_rfl, .nil⟩
theorem mr_g_0 (rw : List HV) (n : Nat) (i : Nat) (j : Nat)(g0 : (j : Int) < (n : Int)) : RunsTo Try.prog pol 24 (sub [1, 1, 0, 1, 0, 0, 1, 0, 0, 1, 0, 0, 0] B24) (env24 (.imm .arg 1 rw) (.ptr 0 0 0 1) (.bool false) (.i (n : Int)) (.i (i : Int)) (.i (j : Int)) .undef) [.arr 3 [.agg [.i 0, .i 0, .i 0]] true 0] .normal (pol.keys 24) (env24 (.imm .arg 1 rw) (.ptr 0 0 0 1) (.bool false) (.i (n : Int)) (.i (i : Int)) (.i (j : Int)) .undef) [.arr 3 [.agg [.i 0, .i 0, .i 0]] true 0] :=
  RunsTo.hin 0 60 [⟨6, 2, .bool true, [.arr 3 [.agg [.i 0, .i 0, .i 0]] true 0]⟩] fun kf hk => ⟨_, by kernel_rfl, (oB [.arr 3 [.agg [.i 0, .i 0, .i 0]] true 0] (decide_eq_true g0) .nil)⟩
theorem mr_g_1 (rw : List HV) (n : Nat) (i : Nat) (j : Nat)(g0 : ¬ ((j : Int) < (n : Int))) : RunsTo Try.prog pol 24 (sub [1, 1, 0, 1, 0, 0, 1, 0, 0, 1, 0, 0, 0] B24) (env24 (.imm .arg 1 rw) (.ptr 0 0 0 1) (.bool false) (.i (n : Int)) (.i (i : Int)) (.i (j : Int)) .undef) [.arr 3 [.agg [.i 0, .i 0, .i 0]] true 0] (.exit 2) (pol.keys 24) (env24 (.imm .arg 1 rw) (.ptr 0 0 0 1) (.bool false) (.i (n : Int)) (.i (i : Int)) (.i (j : Int)) .undef) [.arr 3 [.agg [.i 0, .i 0, .i 0]] true 0] :=
  RunsTo.hin 0 60 [⟨6, 2, .bool false, [.arr 3 [.agg [.i 0, .i 0, .i 0]] true 0]⟩] fun kf hk => ⟨_, by kernel_rfl, (oB [.arr 3 [.agg [.i 0, .i 0, .i 0]] true 0] (decide_eq_false g0) .nil)⟩
theorem mr_h_0 (rw : List HV) (n : Nat) (i : Nat) (j : Nat) : RunsTo Try.prog pol 24 (sub [1, 1, 0, 1, 0, 0, 1, 0, 0, 1, 0, 0, 1, 0, 0, 0] B24) (env24 (.imm .arg 1 rw) (.ptr 0 0 0 1) (.bool false) (.i (n : Int)) (.i (i : Int)) (.i (j : Int)) .undef) [.arr 3 [.agg [.i 0, .i 0, .i 0]] true 0] .normal (pol.keys 24) (env24 (.imm .arg 1 rw) (.ptr 0 0 0 1) (.bool false) (.i (n : Int)) (.i (i : Int)) (.i (j : Int)) (.i 0)) [.arr 3 [.agg [.i 0, .i 0, .i 0]] true 0] :=
  RunsTo.hin 0 60 [] fun kf hk => ⟨_, by kernel_rfl, .nil⟩
theorem mr_i_0 (rw : List HV) (n : Nat) (i : Nat) (j : Nat) (k : Nat) (l0 : List HV) (x0 : Int) (l1 : List HV) (x1 : Int) (l2 : List HV) (x2 : Int) (g0 : (k : Int) < (n : Int)) (g1 : idxV Try.prog 22 (.imm .arg 1 rw) (.i (i : Int)) = some (.vptr (.imm .arg 1 l0))) (g2 : idxV Try.prog 23 (.imm .arg 1 l0) (.i (k : Int)) = some (.vptr (.i x0))) (g3 : idxV Try.prog 22 (.imm .arg 1 rw) (.i (i : Int)) = some (.vptr (.imm .arg 1 l1))) (g4 : idxV Try.prog 23 (.imm .arg 1 l1) (.i (j : Int)) = some (.vptr (.i x1))) (g5 : idxV Try.prog 22 (.imm .arg 1 rw) (.i (j : Int)) = some (.vptr (.imm .arg 1 l2))) (g6 : idxV Try.prog 23 (.imm .arg 1 l2) (.i (k : Int)) = some (.vptr (.i x2))) (g7 : IntKind.i64.wrap (x1 + x2) < x0) : RunsTo Try.prog pol 24 (sub [1, 1, 0, 1, 0, 0, 1, 0, 0, 1, 0, 0, 1, 0, 0, 1, 0, 0] B24) (env24 (.imm .arg 1 rw) (.ptr 0 0 0 1) (.bool false) (.i (n : Int)) (.i (i : Int)) (.i (j : Int)) (.i (k : Int))) [.arr 3 [.agg [.i 0, .i 0, .i 0]] true 0] .ret (pol.keys 24) (env24 (.imm .arg 1 rw) (.ptr 0 0 0 1) (.bool false) (.i (n : Int)) (.i (i : Int)) (.i (j : Int)) (.i (k : Int))) [.arr 3 [.agg [.i (i : Int), .i (j : Int), .i (k : Int)]] true 0] :=
  RunsTo.hin 0 60 [⟨9, 2, .bool true, [.arr 3 [.agg [.i 0, .i 0, .i 0]] true 0]⟩, ⟨11, 2, .vptr (.imm .arg 1 l0), [.arr 3 [.agg [.i 0, .i 0, .i 0]] true 0]⟩, ⟨11, 5, .vptr (.i x0), [.arr 3 [.agg [.i 0, .i 0, .i 0]] true 0]⟩, ⟨11, 9, .vptr (.imm .arg 1 l1), [.arr 3 [.agg [.i 0, .i 0, .i 0]] true 0]⟩, ⟨11, 12, .vptr (.i x1), [.arr 3 [.agg [.i 0, .i 0, .i 0]] true 0]⟩, ⟨11, 16, .vptr (.imm .arg 1 l2), [.arr 3 [.agg [.i 0, .i 0, .i 0]] true 0]⟩, ⟨11, 19, .vptr (.i x2), [.arr 3 [.agg [.i 0, .i 0, .i 0]] true 0]⟩, ⟨11, 22, .bool true, [.arr 3 [.agg [.i 0, .i 0, .i 0]] true 0]⟩] fun kf hk => ⟨_, by kernel_rfl, (oB [.arr 3 [.agg [.i 0, .i 0, .i 0]] true 0] (decide_eq_true g0) (oP [.arr 3 [.agg [.i 0, .i 0, .i 0]] true 0] g1 (oP [.arr 3 [.agg [.i 0, .i 0, .i 0]] true 0] g2 (oP [.arr 3 [.agg [.i 0, .i 0, .i 0]] true 0] g3 (oP [.arr 3 [.agg [.i 0, .i 0, .i 0]] true 0] g4 (oP [.arr 3 [.agg [.i 0, .i 0, .i 0]] true 0] g5 (oP [.arr 3 [.agg [.i 0, .i 0, .i 0]] true 0] g6 (oB [.arr 3 [.agg [.i 0, .i 0, .i 0]] true 0] (decide_eq_true g7) .nil))))))))⟩
theorem mr_i_1 (rw : List HV) (n : Nat) (i : Nat) (j : Nat) (k : Nat) (l0 : List HV) (x0 : Int) (l1 : List HV) (x1 : Int) (l2 : List HV) (x2 : Int) (g0 : (k : Int) < (n : Int)) (g1 : idxV Try.prog 22 (.imm .arg 1 rw) (.i (i : Int)) = some (.vptr (.imm .arg 1 l0))) (g2 : idxV Try.prog 23 (.imm .arg 1 l0) (.i (k : Int)) = some (.vptr (.i x0))) (g3 : idxV Try.prog 22 (.imm .arg 1 rw) (.i (i : Int)) = some (.vptr (.imm .arg 1 l1))) (g4 : idxV Try.prog 23 (.imm .arg 1 l1) (.i (j : Int)) = some (.vptr (.i x1))) (g5 : idxV Try.prog 22 (.imm .arg 1 rw) (.i (j : Int)) = some (.vptr (.imm .arg 1 l2))) (g6 : idxV Try.prog 23 (.imm .arg 1 l2) (.i (k : Int)) = some (.vptr (.i x2))) (g7 : ¬ (IntKind.i64.wrap (x1 + x2) < x0)) : RunsTo Try.prog pol 24 (sub [1, 1, 0, 1, 0, 0, 1, 0, 0, 1, 0, 0, 1, 0, 0, 1, 0, 0] B24) (env24 (.imm .arg 1 rw) (.ptr 0 0 0 1) (.bool false) (.i (n : Int)) (.i (i : Int)) (.i (j : Int)) (.i (k : Int))) [.arr 3 [.agg [.i 0, .i 0, .i 0]] true 0] .normal (pol.keys 24) (env24 (.imm .arg 1 rw) (.ptr 0 0 0 1) (.bool false) (.i (n : Int)) (.i (i : Int)) (.i (j : Int)) (.i (IntKind.i64.wrap ((k : Int) + 1)))) [.arr 3 [.agg [.i 0, .i 0, .i 0]] true 0] :=
  RunsTo.hin 0 60 [⟨9, 2, .bool true, [.arr 3 [.agg [.i 0, .i 0, .i 0]] true 0]⟩, ⟨11, 2, .vptr (.imm .arg 1 l0), [.arr 3 [.agg [.i 0, .i 0, .i 0]] true 0]⟩, ⟨11, 5, .vptr (.i x0), [.arr 3 [.agg [.i 0, .i 0, .i 0]] true 0]⟩, ⟨11, 9, .vptr (.imm .arg 1 l1), [.arr 3 [.agg [.i 0, .i 0, .i 0]] true 0]⟩, ⟨11, 12, .vptr (.i x1), [.arr 3 [.agg [.i 0, .i 0, .i 0]] true 0]⟩, ⟨11, 16, .vptr (.imm .arg 1 l2), [.arr 3 [.agg [.i 0, .i 0, .i 0]] true 0]⟩, ⟨11, 19, .vptr (.i x2), [.arr 3 [.agg [.i 0, .i 0, .i 0]] true 0]⟩, ⟨11, 22, .bool false, [.arr 3 [.agg [.i 0, .i 0, .i 0]] true 0]⟩] fun kf hk => ⟨_, by kernel_rfl, (oB [.arr 3 [.agg [.i 0, .i 0, .i 0]] true 0] (decide_eq_true g0) (oP [.arr 3 [.agg [.i 0, .i 0, .i 0]] true 0] g1 (oP [.arr 3 [.agg [.i 0, .i 0, .i 0]] true 0] g2 (oP [.arr 3 [.agg [.i 0, .i 0, .i 0]] true 0] g3 (oP [.arr 3 [.agg [.i 0, .i 0, .i 0]] true 0] g4 (oP [.arr 3 [.agg [.i 0, .i 0, .i 0]] true 0] g5 (oP [.arr 3 [.agg [.i 0, .i 0, .i 0]] true 0] g6 (oB [.arr 3 [.agg [.i 0, .i 0, .i 0]] true 0] (decide_eq_false g7) .nil))))))))⟩
theorem mr_i_2 (rw : List HV) (n : Nat) (i : Nat) (j : Nat) (k : Nat)(g0 : ¬ ((k : Int) < (n : Int))) : RunsTo Try.prog pol 24 (sub [1, 1, 0, 1, 0, 0, 1, 0, 0, 1, 0, 0, 1, 0, 0, 1, 0, 0] B24) (env24 (.imm .arg 1 rw) (.ptr 0 0 0 1) (.bool false) (.i (n : Int)) (.i (i : Int)) (.i (j : Int)) (.i (k : Int))) [.arr 3 [.agg [.i 0, .i 0, .i 0]] true 0] (.exit 4) (pol.keys 24) (env24 (.imm .arg 1 rw) (.ptr 0 0 0 1) (.bool false) (.i (n : Int)) (.i (i : Int)) (.i (j : Int)) (.i (k : Int))) [.arr 3 [.agg [.i 0, .i 0, .i 0]] true 0] :=
  RunsTo.hin 0 60 [⟨9, 2, .bool false, [.arr 3 [.agg [.i 0, .i 0, .i 0]] true 0]⟩] fun kf hk => ⟨_, by kernel_rfl, (oB [.arr 3 [.agg [.i 0, .i 0, .i 0]] true 0] (decide_eq_false g0) .nil)⟩
theorem mr_j_0 (rw : List HV) (n : Nat) (i : Nat) (j : Nat) (k : Nat) : RunsTo Try.prog pol 24 (sub [1, 1, 0, 1, 0, 0, 1, 0, 0, 1, 0, 0, 1, 1] B24) (env24 (.imm .arg 1 rw) (.ptr 0 0 0 1) (.bool false) (.i (n : Int)) (.i (i : Int)) (.i (j : Int)) (.i (k : Int))) [.arr 3 [.agg [.i 0, .i 0, .i 0]] true 0] .normal (pol.keys 24) (env24 (.imm .arg 1 rw) (.ptr 0 0 0 1) (.bool false) (.i (n : Int)) (.i (i : Int)) (.i (IntKind.i64.wrap ((j : Int) + 1))) (.i (k : Int))) [.arr 3 [.agg [.i 0, .i 0, .i 0]] true 0] :=
  RunsTo.hin 0 60 [] fun kf hk => ⟨_, by kernel_rfl, .nil⟩
theorem mr_k_0 (rw : List HV) (n : Nat) (i : Nat) (j : Nat) : RunsTo Try.prog pol 24 (sub [1, 1, 0, 1, 0, 0, 1, 1] B24) (env24 (.imm .arg 1 rw) (.ptr 0 0 0 1) (.bool false) (.i (n : Int)) (.i (i : Int)) (.i (j : Int)) .undef) [.arr 3 [.agg [.i 0, .i 0, .i 0]] true 0] .normal (pol.keys 24) (env24 (.imm .arg 1 rw) (.ptr 0 0 0 1) (.bool false) (.i (n : Int)) (.i (IntKind.i64.wrap ((i : Int) + 1))) (.i (j : Int)) .undef) [.arr 3 [.agg [.i 0, .i 0, .i 0]] true 0] :=
  RunsTo.hin 0 60 [] fun kf hk => ⟨_, by kernel_rfl, .nil⟩
theorem mr_z_0 (rw : List HV) (n : Nat) (i : Nat) : RunsTo Try.prog pol 24 (sub [1, 1, 1] B24) (env24 (.imm .arg 1 rw) (.ptr 0 0 0 1) (.bool false) (.i (n : Int)) (.i (i : Int)) .undef .undef) [.arr 3 [.agg [.i 0, .i 0, .i 0]] true 0] .ret (pol.keys 24) (env24 (.imm .arg 1 rw) (.ptr 0 0 0 1) (.bool true) (.i (n : Int)) (.i (i : Int)) .undef .undef) [.arr 3 [.agg [.i 0, .i 0, .i 0]] true 0] :=
  RunsTo.hin 0 60 [] fun kf hk => ⟨_, by kernel_rfl, .nil⟩
end Go.Proofs.Ytlendaofkmhgmaa
end
section
open Go Go.HL
namespace Go.Proofs.Ytlendaofkmhgmaa
def vioK (d : List (List Int)) (i j : Nat) : Nat → Nat → Option (Nat × Nat × Nat)
  | 0, _ => none
  | m + 1, k => if at2 d i j + at2 d j k < at2 d i k then some (i, j, k) else vioK d i j m (k + 1)
def vioJ (d : List (List Int)) (i : Nat) : Nat → Nat → Option (Nat × Nat × Nat)
  | 0, _ => none
  | m + 1, j => match vioK d i j d.length 0 with | some r => some r | none => vioJ d i m (j + 1)
def vioI (d : List (List Int)) : Nat → Nat → Option (Nat × Nat × Nat)
  | 0, _ => none
  | m + 1, i => match vioJ d i d.length 0 with | some r => some r | none => vioI d m (i + 1)
def vio (d : List (List Int)) : Option (Nat × Nat × Nat) := vioI d d.length 0
abbrev tri (r : Nat × Nat × Nat) : HV := .agg [.int .i64 (r.1 : Int), .int .i64 (r.2.1 : Int), .int .i64 (r.2.2 : Int)]
def vTri (o : Option (Nat × Nat × Nat)) : HV := match o with | some r => tri r | none => .agg [.int .i64 0, .int .i64 0, .int .i64 0]
open Classical in
noncomputable def metric22 : List HV → Option HV := rwF fun R => if R.length ≤ 1000 ∧ (R.all fun r => decide (r.length ≤ 1000)) = true then some (if okD R then .tuple [vTri (vio R), .bool (vio R).isNone, .int .i64 0] else .tuple [.agg [.int .i64 0, .int .i64 0, .int .i64 0], .bool false, .int .i64 2]) else none
open Classical in
noncomputable def metric24 : List HV → Option HV := rwF fun R => if okD R then some (.tuple [vTri (vio R), .bool (vio R).isNone]) else none
theorem res22 : Try.f22.results.toList = [.cell 2 35, .tmp 3, .tmp 4] := by kernel_rfl
theorem res24 : Try.f24.results.toList = [.cell 2 35, .tmp 3] := by kernel_rfl
abbrev z3H : Heap := [.arr 3 [.agg [.int .i64 0, .int .i64 0, .int .i64 0]] true 0]
abbrev t3H (r : Nat × Nat × Nat) : Heap := [.arr 3 [tri r] true 0]
section
variable {d : List (List Int)}
theorem g22' {v : Nat} (hv : v < d.length) : idxV Try.prog 22 (.imm .arg 1 (d.map encR)) (.int .i64 (v : Int)) = some (.vptr (.imm .arg 1 ((d.getD v []).map encI))) := gr hv
end
section
variable {d : List (List Int)}
theorem g23' (h : okD d) {v u : Nat} (hv : v < d.length) (hu : u < d.length) : idxV Try.prog 23 (.imm .arg 1 ((d.getD v []).map encI)) (.int .i64 (u : Int)) = some (.vptr (.int .i64 (at2 d v u))) := gx (by rw [h.2.1 v hv]; exact hu)
end
section
variable {d : List (List Int)}
theorem at_w (h : okD d) {i j k : Nat} (hi : i < d.length) (hj : j < d.length) (hk : k < d.length) : IntKind.i64.wrap (at2 d i j + at2 d j k) = at2 d i j + at2 d j k := by
  have h1 := (h.2.2 i hi j hj).1
  have h2 := (h.2.2 j hj k hk).1
  exact wrap_id (by omega) (by omega)
end
section
variable {d : List (List Int)}
abbrev meE (d : List (List Int)) (v5 v6 v7 v14 v18 v19 v23 v24 : HV) : Env := env22 (.imm .arg 1 (d.map encR)) (.ptr 0 0 0 1) (.bool false) (.int .i64 0) v5 v6 v7 (.int .i64 (d.length : Int)) v14 v18 v19 v23 v24
end
section
variable {d : List (List Int)}
theorem me_k (h : okD d) {i j : Nat} (hi : i < d.length) (hj : j < d.length) : ∀ m k, k + m = d.length →
    ∃ x E H', RunsTo Try.prog polN 22 (sub [1, 1, 0, 1, 0, 0, 1, 1, 0, 0, 1, 1, 0, 0, 1, 1, 0, 0, 1, 1, 0] B22) (meE d (.int .i64 (i : Int)) (.int .i64 (j : Int)) .undef (.int .i64 (i : Int)) (.int .i64 (d.length : Int)) (.int .i64 (j : Int)) (.int .i64 (d.length : Int)) (.int .i64 (k : Int))) z3H x (polN.keys 22) E H' ∧
      ((x = .exit 4 ∧ E = meE d (.int .i64 (i : Int)) (.int .i64 (j : Int)) .undef (.int .i64 (i : Int)) (.int .i64 (d.length : Int)) (.int .i64 (j : Int)) (.int .i64 (d.length : Int)) (.int .i64 (d.length : Int)) ∧ H' = z3H ∧ vioK d i j m k = none) ∨
       (x = .ret ∧ ∃ r, vioK d i j m k = some r ∧ resultsV Try.prog Try.f22 E H' = some (.tuple [tri r, .bool false, .int .i64 0]) ∧ H' = t3H r)) := by
  intro m
  induction m with
  | zero =>
    intro k hk
    have : k = d.length := by omega
    subst this
    have s := me_m_2 (d.map encR) i j d.length (by rw [List.length_map]; omega)
    rw [List.length_map] at s
    exact ⟨_, _, _, RunsTo.loop_out s (by simp) (by kernel_rfl) (by kernel_rfl), .inl ⟨rfl, rfl, rfl, rfl⟩⟩
  | succ m ih =>
    intro k hk
    rw [vioK]
    by_cases c : at2 d i j + at2 d j k < at2 d i k
    · rw [if_pos c]
      have s := me_m_0 (d.map encR) i j k _ _ _ _ _ _ (by rw [List.length_map]; omega) (g22' hi) (g23' h hi (by omega)) (g22' hi) (g23' h hi hj) (g22' hj) (g23' h hj (by omega)) (by rw [at_w h hi hj (by omega)]; exact c)
      rw [List.length_map] at s
      exact ⟨_, _, _, RunsTo.loop_out s (by simp) (by kernel_rfl) (by kernel_rfl), .inr ⟨rfl, _, rfl, by simp only [resultsV, res22]; kernel_rfl, rfl⟩⟩
    · rw [if_neg c]
      have s := me_m_1 (d.map encR) i j k _ _ _ _ _ _ (by rw [List.length_map]; omega) (g22' hi) (g23' h hi (by omega)) (g22' hi) (g23' h hi hj) (g22' hj) (g23' h hj (by omega)) (by rw [at_w h hi hj (by omega)]; exact c)
      rw [wrap_succ (by have := h.1; omega), List.length_map] at s
      obtain ⟨x, E, H', r, q⟩ := ih (k + 1) (by omega)
      exact ⟨x, E, H', RunsTo.loop s (by kernel_rfl) rfl r rfl (by kernel_rfl) (by kernel_rfl), q⟩
end
section
variable {d : List (List Int)}
theorem me_j (h : okD d) {i : Nat} (hi : i < d.length) : ∀ m j, j + m = d.length →
    ∃ x E H', RunsTo Try.prog polN 22 (sub [1, 1, 0, 1, 0, 0, 1, 1, 0, 0, 1, 1, 0] B22) (meE d (.int .i64 (i : Int)) .undef .undef (.int .i64 (i : Int)) (.int .i64 (d.length : Int)) (.int .i64 (j : Int)) .undef .undef) z3H x (polN.keys 22) E H' ∧
      ((x = .exit 2 ∧ E = meE d (.int .i64 (i : Int)) .undef .undef (.int .i64 (i : Int)) (.int .i64 (d.length : Int)) (.int .i64 (d.length : Int)) .undef .undef ∧ H' = z3H ∧ vioJ d i m j = none) ∨
       (x = .ret ∧ ∃ r, vioJ d i m j = some r ∧ resultsV Try.prog Try.f22 E H' = some (.tuple [tri r, .bool false, .int .i64 0]) ∧ H' = t3H r)) := by
  intro m
  induction m with
  | zero =>
    intro j hj
    have : j = d.length := by omega
    subst this
    have s := me_i_1 (d.map encR) i d.length (by rw [List.length_map]; omega)
    have s2 := me_jf_0 (d.map encR) i d.length
    rw [List.length_map] at s s2
    have t := RunsTo.seq s (RunsTo.seq_out s2 (by simp) (c := sub [1, 1, 0, 1, 0, 0, 1, 1, 0, 0, 1, 1, 0, 0, 1] B22) (b := sub [1, 1, 0, 1, 0, 0, 1, 1, 0, 0, 1, 1, 0, 0, 1, 1] B22) (by kernel_rfl)) (c := sub [1, 1, 0, 1, 0, 0, 1, 1, 0, 0, 1, 1, 0, 0] B22) (by kernel_rfl) (by kernel_rfl)
    exact ⟨_, _, _, RunsTo.loop_out t (by simp) (by kernel_rfl) (by kernel_rfl), .inl ⟨rfl, rfl, rfl, rfl⟩⟩
  | succ m ih =>
    intro j hj
    have s := me_i_0 (d.map encR) i j (by rw [List.length_map]; omega)
    have s2 := me_jt_0 (d.map encR) i j
    have s3 := me_k_0 (d.map encR) i j
    have s4 := me_l_0 (d.map encR) i j
    rw [List.length_map] at s s2 s3 s4
    obtain ⟨x, E, H', r, q⟩ := me_k h hi (j := j) (by omega) d.length 0 (by omega)
    rw [vioJ]
    have r' := RunsTo.loop_in (e0 := meE d (.int .i64 (i : Int)) (.int .i64 (j : Int)) .undef (.int .i64 (i : Int)) (.int .i64 (d.length : Int)) (.int .i64 (j : Int)) (.int .i64 (d.length : Int)) (.int .i64 0)) r (b := sub [1, 1, 0, 1, 0, 0, 1, 1, 0, 0, 1, 1, 0, 0, 1, 1, 0, 0, 1, 1, 0, 0] B22) (by kernel_rfl) (by kernel_rfl) (by kernel_rfl)
    rcases q with ⟨rfl, rfl, rfl, q⟩ | ⟨rfl, rr, q1, q2, q3⟩
    · rw [q]
      have n1 := me_n_0 (d.map encR) i j d.length
      rw [wrap_succ (by have := h.1; omega), List.length_map] at n1
      have t1 := RunsTo.seq s4 (RunsTo.block_exit (c := sub [1, 1, 0, 1, 0, 0, 1, 1, 0, 0, 1, 1, 0, 0, 1, 1, 0, 0, 1, 1] B22) r' (by kernel_rfl)) (c := sub [1, 1, 0, 1, 0, 0, 1, 1, 0, 0, 1, 1, 0, 0, 1, 1, 0, 0, 1] B22) (by kernel_rfl) (by kernel_rfl)
      have t2 := RunsTo.seq s3 t1 (c := sub [1, 1, 0, 1, 0, 0, 1, 1, 0, 0, 1, 1, 0, 0, 1, 1, 0, 0] B22) (by kernel_rfl) (by kernel_rfl)
      have t3 := RunsTo.block_normal (i := 3) (c := sub [1, 1, 0, 1, 0, 0, 1, 1, 0, 0, 1, 1, 0, 0, 1, 1, 0] B22) t2 (by kernel_rfl)
      have t4 := RunsTo.seq t3 n1 (c := sub [1, 1, 0, 1, 0, 0, 1, 1, 0, 0, 1, 1, 0, 0, 1, 1] B22) (by kernel_rfl) (by kernel_rfl)
      have t5 := RunsTo.seq s2 t4 (c := sub [1, 1, 0, 1, 0, 0, 1, 1, 0, 0, 1, 1, 0, 0, 1] B22) (by kernel_rfl) (by kernel_rfl)
      have t6 := RunsTo.seq s t5 (c := sub [1, 1, 0, 1, 0, 0, 1, 1, 0, 0, 1, 1, 0, 0] B22) (by kernel_rfl) (by kernel_rfl)
      obtain ⟨x, E, H', r2, q2⟩ := ih (j + 1) (by omega)
      exact ⟨x, E, H', RunsTo.loop t6 (by kernel_rfl) rfl r2 rfl (by kernel_rfl) (by kernel_rfl), q2⟩
    · rw [q1]
      have t1 := RunsTo.seq s4 (RunsTo.block_ret (i := 4) (c := sub [1, 1, 0, 1, 0, 0, 1, 1, 0, 0, 1, 1, 0, 0, 1, 1, 0, 0, 1, 1] B22) r' (by kernel_rfl)) (c := sub [1, 1, 0, 1, 0, 0, 1, 1, 0, 0, 1, 1, 0, 0, 1, 1, 0, 0, 1] B22) (by kernel_rfl) (by kernel_rfl)
      have t2 := RunsTo.seq s3 t1 (c := sub [1, 1, 0, 1, 0, 0, 1, 1, 0, 0, 1, 1, 0, 0, 1, 1, 0, 0] B22) (by kernel_rfl) (by kernel_rfl)
      have t3 := RunsTo.block_ret (i := 3) (c := sub [1, 1, 0, 1, 0, 0, 1, 1, 0, 0, 1, 1, 0, 0, 1, 1, 0] B22) t2 (by kernel_rfl)
      have t4 := RunsTo.seq_out t3 (by simp) (c := sub [1, 1, 0, 1, 0, 0, 1, 1, 0, 0, 1, 1, 0, 0, 1, 1] B22) (b := sub [1, 1, 0, 1, 0, 0, 1, 1, 0, 0, 1, 1, 0, 0, 1, 1, 1] B22) (by kernel_rfl)
      have t5 := RunsTo.seq s2 t4 (c := sub [1, 1, 0, 1, 0, 0, 1, 1, 0, 0, 1, 1, 0, 0, 1] B22) (by kernel_rfl) (by kernel_rfl)
      have t6 := RunsTo.seq s t5 (c := sub [1, 1, 0, 1, 0, 0, 1, 1, 0, 0, 1, 1, 0, 0] B22) (by kernel_rfl) (by kernel_rfl)
      exact ⟨_, _, _, RunsTo.loop_out t6 (by simp) (by kernel_rfl) (by kernel_rfl), .inr ⟨rfl, rr, rfl, q2, q3⟩⟩
end
section
variable {d : List (List Int)}
theorem me_i (h : okD d) : ∀ m i, i + m = d.length →
    ∃ x E H', RunsTo Try.prog polN 22 (sub [1, 1, 0, 1, 0] B22) (meE d .undef .undef .undef (.int .i64 (i : Int)) .undef .undef .undef .undef) z3H x (polN.keys 22) E H' ∧
      ((x = .exit 0 ∧ E = meE d .undef .undef .undef (.int .i64 (d.length : Int)) .undef .undef .undef .undef ∧ H' = z3H ∧ vioI d m i = none) ∨
       (x = .ret ∧ ∃ r, vioI d m i = some r ∧ resultsV Try.prog Try.f22 E H' = some (.tuple [tri r, .bool false, .int .i64 0]) ∧ H' = t3H r)) := by
  intro m
  induction m with
  | zero =>
    intro i hi
    have : i = d.length := by omega
    subst this
    have s := me_e_1 (d.map encR) d.length (by rw [List.length_map]; omega)
    have s2 := me_ff_0 (d.map encR) d.length
    rw [List.length_map] at s s2
    have t := RunsTo.seq s (RunsTo.seq_out s2 (by simp) (c := sub [1, 1, 0, 1, 0, 0, 1] B22) (b := sub [1, 1, 0, 1, 0, 0, 1, 1] B22) (by kernel_rfl)) (c := sub [1, 1, 0, 1, 0, 0] B22) (by kernel_rfl) (by kernel_rfl)
    exact ⟨_, _, _, RunsTo.loop_out t (by simp) (by kernel_rfl) (by kernel_rfl), .inl ⟨rfl, rfl, rfl, rfl⟩⟩
  | succ m ih =>
    intro i hi
    have s := me_e_0 (d.map encR) i (by rw [List.length_map]; omega)
    have s2 := me_ft_0 (d.map encR) i
    have s3 := me_g_0 (d.map encR) i
    have s4 := me_h_0 (d.map encR) i
    rw [List.length_map] at s s2 s3 s4
    obtain ⟨x, E, H', r, q⟩ := me_j h (i := i) (by omega) d.length 0 (by omega)
    rw [vioI]
    have r' := RunsTo.loop_in (e0 := meE d (.int .i64 (i : Int)) .undef .undef (.int .i64 (i : Int)) (.int .i64 (d.length : Int)) (.int .i64 0) .undef .undef) r (b := sub [1, 1, 0, 1, 0, 0, 1, 1, 0, 0, 1, 1, 0, 0] B22) (by kernel_rfl) (by kernel_rfl) (by kernel_rfl)
    rcases q with ⟨rfl, rfl, rfl, q⟩ | ⟨rfl, rr, q1, q2, q3⟩
    · rw [q]
      have n1 := me_o_0 (d.map encR) i d.length
      rw [wrap_succ (by have := h.1; omega), List.length_map] at n1
      have t1 := RunsTo.seq s4 (RunsTo.block_exit (c := sub [1, 1, 0, 1, 0, 0, 1, 1, 0, 0, 1, 1] B22) r' (by kernel_rfl)) (c := sub [1, 1, 0, 1, 0, 0, 1, 1, 0, 0, 1] B22) (by kernel_rfl) (by kernel_rfl)
      have t2 := RunsTo.seq s3 t1 (c := sub [1, 1, 0, 1, 0, 0, 1, 1, 0, 0] B22) (by kernel_rfl) (by kernel_rfl)
      have t3 := RunsTo.block_normal (i := 1) (c := sub [1, 1, 0, 1, 0, 0, 1, 1, 0] B22) t2 (by kernel_rfl)
      have t4 := RunsTo.seq t3 n1 (c := sub [1, 1, 0, 1, 0, 0, 1, 1] B22) (by kernel_rfl) (by kernel_rfl)
      have t5 := RunsTo.seq s2 t4 (c := sub [1, 1, 0, 1, 0, 0, 1] B22) (by kernel_rfl) (by kernel_rfl)
      have t6 := RunsTo.seq s t5 (c := sub [1, 1, 0, 1, 0, 0] B22) (by kernel_rfl) (by kernel_rfl)
      obtain ⟨x, E, H', r2, q2⟩ := ih (i + 1) (by omega)
      exact ⟨x, E, H', RunsTo.loop t6 (by kernel_rfl) rfl r2 rfl (by kernel_rfl) (by kernel_rfl), q2⟩
    · rw [q1]
      have t1 := RunsTo.seq s4 (RunsTo.block_ret (i := 2) (c := sub [1, 1, 0, 1, 0, 0, 1, 1, 0, 0, 1, 1] B22) r' (by kernel_rfl)) (c := sub [1, 1, 0, 1, 0, 0, 1, 1, 0, 0, 1] B22) (by kernel_rfl) (by kernel_rfl)
      have t2 := RunsTo.seq s3 t1 (c := sub [1, 1, 0, 1, 0, 0, 1, 1, 0, 0] B22) (by kernel_rfl) (by kernel_rfl)
      have t3 := RunsTo.block_ret (i := 1) (c := sub [1, 1, 0, 1, 0, 0, 1, 1, 0] B22) t2 (by kernel_rfl)
      have t4 := RunsTo.seq_out t3 (by simp) (c := sub [1, 1, 0, 1, 0, 0, 1, 1] B22) (b := sub [1, 1, 0, 1, 0, 0, 1, 1, 1] B22) (by kernel_rfl)
      have t5 := RunsTo.seq s2 t4 (c := sub [1, 1, 0, 1, 0, 0, 1] B22) (by kernel_rfl) (by kernel_rfl)
      have t6 := RunsTo.seq s t5 (c := sub [1, 1, 0, 1, 0, 0] B22) (by kernel_rfl) (by kernel_rfl)
      exact ⟨_, _, _, RunsTo.loop_out t6 (by simp) (by kernel_rfl) (by kernel_rfl), .inr ⟨rfl, rr, rfl, q2, q3⟩⟩
end
theorem metric_ok : PrimOk Try.prog 22 metric22 := by
  refine primOk_pure (pol := polN) (fn := Try.f22) (cd := B22) follows_mixed soundN (by kernel_rfl) (by kernel_rfl) (fnok polN.prim _ _ (by kernel_rfl)) (by kernel_rfl) ?_
  intro args res h
  obtain ⟨d, rfl, hq⟩ := rwF_inv h
  clear h
  split at hq
  · rename_i hc
    cases hq
    have a := me_a_0 (d.map encR)
    by_cases hd : okD d
    · rw [if_pos hd]
      have b := me_b_0 (d.map encR) (prim_miles (pol' := polN) (by kernel_rfl) hc.1 hc.2 _ true (okB_true hd))
      have c := me_c_0 (d.map encR)
      rw [List.length_map] at c
      obtain ⟨x, E, H', r, q⟩ := me_i hd d.length 0 (by omega)
      have r' := RunsTo.loop_in (e0 := meE d .undef .undef .undef (.int .i64 0) .undef .undef .undef .undef) r (b := sub [1, 1, 0, 1, 0, 0] B22) (by kernel_rfl) (by kernel_rfl) (by kernel_rfl)
      rcases q with ⟨rfl, rfl, rfl, q⟩ | ⟨rfl, rr, q1, q2, q3⟩
      · have z := me_z_0 (d.map encR) d.length
        rw [List.length_map] at z
        have t1 := RunsTo.seq c (RunsTo.block_exit (c := sub [1, 1, 0, 1] B22) r' (by kernel_rfl)) (c := sub [1, 1, 0] B22) (by kernel_rfl) (by kernel_rfl)
        have t2 := RunsTo.seq t1 z (c := sub [1, 1] B22) (by kernel_rfl) (by kernel_rfl)
        have t3 := RunsTo.seq a (RunsTo.seq b t2 (c := sub [1] B22) (by kernel_rfl) (by kernel_rfl)) (c := B22) (by kernel_rfl) (by kernel_rfl)
        have e : vio d = none := q
        rw [e]
        exact ⟨_, _, _, .tuple [.agg [.int .i64 0, .int .i64 0, .int .i64 0], .bool true, .int .i64 0], t3, by simp, by simp only [resultsV, res22]; kernel_rfl, rfl⟩
      · have t1 := RunsTo.seq c (RunsTo.block_ret (i := 0) (c := sub [1, 1, 0, 1] B22) r' (by kernel_rfl)) (c := sub [1, 1, 0] B22) (by kernel_rfl) (by kernel_rfl)
        have t2 := RunsTo.seq_out t1 (by simp) (c := sub [1, 1] B22) (b := sub [1, 1, 1] B22) (by kernel_rfl)
        have t3 := RunsTo.seq a (RunsTo.seq b t2 (c := sub [1] B22) (by kernel_rfl) (by kernel_rfl)) (c := B22) (by kernel_rfl) (by kernel_rfl)
        have e : vio d = some rr := q1
        rw [e]
        exact ⟨_, _, _, _, t3, by simp, q2, rfl⟩
    · rw [if_neg hd]
      have b := me_b_1 (d.map encR) (prim_miles (pol' := polN) (by kernel_rfl) hc.1 hc.2 _ false (okB_false hd))
      exact ⟨_, _, _, .tuple [.agg [.int .i64 0, .int .i64 0, .int .i64 0], .bool false, .int .i64 2], RunsTo.seq a (RunsTo.seq_out b (by simp) (c := sub [1] B22) (b := sub [1, 1] B22) (by kernel_rfl)) (c := B22) (by kernel_rfl) (by kernel_rfl), by simp, by simp only [resultsV, res22]; kernel_rfl, rfl⟩
  · cases hq
end Go.Proofs.Ytlendaofkmhgmaa
end
section
open Go Go.HL
namespace Go.Proofs.Ytlendaofkmhgmaa
section
variable {d : List (List Int)}
abbrev mrE (d : List (List Int)) (v5 v6 v7 : HV) : Env := env24 (.imm .arg 1 (d.map encR)) (.ptr 0 0 0 1) (.bool false) (.int .i64 (d.length : Int)) v5 v6 v7
end
section
variable {d : List (List Int)}
theorem mr_kl (h : okD d) {i j : Nat} (hi : i < d.length) (hj : j < d.length) : ∀ m k, k + m = d.length →
    ∃ x E H', RunsTo Try.prog pol 24 (sub [1, 1, 0, 1, 0, 0, 1, 0, 0, 1, 0, 0, 1, 0, 0, 1, 0] B24) (mrE d (.int .i64 (i : Int)) (.int .i64 (j : Int)) (.int .i64 (k : Int))) z3H x (pol.keys 24) E H' ∧
      ((x = .exit 4 ∧ E = mrE d (.int .i64 (i : Int)) (.int .i64 (j : Int)) (.int .i64 (d.length : Int)) ∧ H' = z3H ∧ vioK d i j m k = none) ∨
       (x = .ret ∧ ∃ r, vioK d i j m k = some r ∧ resultsV Try.prog Try.f24 E H' = some (.tuple [tri r, .bool false]) ∧ H' = t3H r)) := by
  intro m
  induction m with
  | zero =>
    intro k hk
    have : k = d.length := by omega
    subst this
    exact ⟨_, _, _, RunsTo.loop_out (mr_i_2 (d.map encR) d.length i j d.length (by omega)) (by simp) (by kernel_rfl) (by kernel_rfl), .inl ⟨rfl, rfl, rfl, rfl⟩⟩
  | succ m ih =>
    intro k hk
    rw [vioK]
    by_cases c : at2 d i j + at2 d j k < at2 d i k
    · rw [if_pos c]
      have s := mr_i_0 (d.map encR) d.length i j k _ _ _ _ _ _ (by omega) (g22' hi) (g23' h hi (by omega)) (g22' hi) (g23' h hi hj) (g22' hj) (g23' h hj (by omega)) (by rw [at_w h hi hj (by omega)]; exact c)
      exact ⟨_, _, _, RunsTo.loop_out s (by simp) (by kernel_rfl) (by kernel_rfl), .inr ⟨rfl, _, rfl, by simp only [resultsV, res24]; kernel_rfl, rfl⟩⟩
    · rw [if_neg c]
      have s := mr_i_1 (d.map encR) d.length i j k _ _ _ _ _ _ (by omega) (g22' hi) (g23' h hi (by omega)) (g22' hi) (g23' h hi hj) (g22' hj) (g23' h hj (by omega)) (by rw [at_w h hi hj (by omega)]; exact c)
      rw [wrap_succ (by have := h.1; omega)] at s
      obtain ⟨x, E, H', r, q⟩ := ih (k + 1) (by omega)
      exact ⟨x, E, H', RunsTo.loop s (by kernel_rfl) rfl r rfl (by kernel_rfl) (by kernel_rfl), q⟩
end
section
variable {d : List (List Int)}
theorem mr_jl (h : okD d) {i : Nat} (hi : i < d.length) : ∀ m j, j + m = d.length →
    ∃ x E H', RunsTo Try.prog pol 24 (sub [1, 1, 0, 1, 0, 0, 1, 0, 0, 1, 0] B24) (mrE d (.int .i64 (i : Int)) (.int .i64 (j : Int)) .undef) z3H x (pol.keys 24) E H' ∧
      ((x = .exit 2 ∧ E = mrE d (.int .i64 (i : Int)) (.int .i64 (d.length : Int)) .undef ∧ H' = z3H ∧ vioJ d i m j = none) ∨
       (x = .ret ∧ ∃ r, vioJ d i m j = some r ∧ resultsV Try.prog Try.f24 E H' = some (.tuple [tri r, .bool false]) ∧ H' = t3H r)) := by
  intro m
  induction m with
  | zero =>
    intro j hj
    have : j = d.length := by omega
    subst this
    exact ⟨_, _, _, RunsTo.loop_out (RunsTo.seq_out (mr_g_1 (d.map encR) d.length i d.length (by omega)) (by simp) (c := sub [1, 1, 0, 1, 0, 0, 1, 0, 0, 1, 0, 0] B24) (b := sub [1, 1, 0, 1, 0, 0, 1, 0, 0, 1, 0, 0, 1] B24) (by kernel_rfl)) (by simp) (by kernel_rfl) (by kernel_rfl), .inl ⟨rfl, rfl, rfl, rfl⟩⟩
  | succ m ih =>
    intro j hj
    have s := mr_g_0 (d.map encR) d.length i j (by omega)
    have s2 := mr_h_0 (d.map encR) d.length i j
    obtain ⟨x, E, H', r, q⟩ := mr_kl h hi (j := j) (by omega) d.length 0 (by omega)
    rw [vioJ]
    rcases q with ⟨rfl, rfl, rfl, q⟩ | ⟨rfl, rr, q1, q2, q3⟩
    · rw [q]
      have n1 := mr_j_0 (d.map encR) d.length i j d.length
      rw [wrap_succ (by have := h.1; omega)] at n1
      have t1 := RunsTo.seq s2 (RunsTo.block_exit (c := sub [1, 1, 0, 1, 0, 0, 1, 0, 0, 1, 0, 0, 1, 0, 0, 1] B24) r (by kernel_rfl)) (c := sub [1, 1, 0, 1, 0, 0, 1, 0, 0, 1, 0, 0, 1, 0, 0] B24) (by kernel_rfl) (by kernel_rfl)
      have t2 := RunsTo.block_normal (i := 3) (c := sub [1, 1, 0, 1, 0, 0, 1, 0, 0, 1, 0, 0, 1, 0] B24) t1 (by kernel_rfl)
      have t3 := RunsTo.seq t2 n1 (c := sub [1, 1, 0, 1, 0, 0, 1, 0, 0, 1, 0, 0, 1] B24) (by kernel_rfl) (by kernel_rfl)
      have t4 := RunsTo.seq s t3 (c := sub [1, 1, 0, 1, 0, 0, 1, 0, 0, 1, 0, 0] B24) (by kernel_rfl) (by kernel_rfl)
      obtain ⟨x, E, H', r2, q2⟩ := ih (j + 1) (by omega)
      exact ⟨x, E, H', RunsTo.loop t4 (by kernel_rfl) rfl r2 rfl (by kernel_rfl) (by kernel_rfl), q2⟩
    · rw [q1]
      have t1 := RunsTo.seq s2 (RunsTo.block_ret (i := 4) (c := sub [1, 1, 0, 1, 0, 0, 1, 0, 0, 1, 0, 0, 1, 0, 0, 1] B24) r (by kernel_rfl)) (c := sub [1, 1, 0, 1, 0, 0, 1, 0, 0, 1, 0, 0, 1, 0, 0] B24) (by kernel_rfl) (by kernel_rfl)
      have t2 := RunsTo.block_ret (i := 3) (c := sub [1, 1, 0, 1, 0, 0, 1, 0, 0, 1, 0, 0, 1, 0] B24) t1 (by kernel_rfl)
      have t3 := RunsTo.seq_out t2 (by simp) (c := sub [1, 1, 0, 1, 0, 0, 1, 0, 0, 1, 0, 0, 1] B24) (b := sub [1, 1, 0, 1, 0, 0, 1, 0, 0, 1, 0, 0, 1, 1] B24) (by kernel_rfl)
      have t4 := RunsTo.seq s t3 (c := sub [1, 1, 0, 1, 0, 0, 1, 0, 0, 1, 0, 0] B24) (by kernel_rfl) (by kernel_rfl)
      exact ⟨_, _, _, RunsTo.loop_out t4 (by simp) (by kernel_rfl) (by kernel_rfl), .inr ⟨rfl, rr, rfl, q2, q3⟩⟩
end
section
variable {d : List (List Int)}
theorem mr_il (h : okD d) : ∀ m i, i + m = d.length →
    ∃ x E H', RunsTo Try.prog pol 24 (sub [1, 1, 0, 1, 0] B24) (mrE d (.int .i64 (i : Int)) .undef .undef) z3H x (pol.keys 24) E H' ∧
      ((x = .exit 0 ∧ E = mrE d (.int .i64 (d.length : Int)) .undef .undef ∧ H' = z3H ∧ vioI d m i = none) ∨
       (x = .ret ∧ ∃ r, vioI d m i = some r ∧ resultsV Try.prog Try.f24 E H' = some (.tuple [tri r, .bool false]) ∧ H' = t3H r)) := by
  intro m
  induction m with
  | zero =>
    intro i hi
    have : i = d.length := by omega
    subst this
    exact ⟨_, _, _, RunsTo.loop_out (RunsTo.seq_out (mr_e_1 (d.map encR) d.length d.length (by omega)) (by simp) (c := sub [1, 1, 0, 1, 0, 0] B24) (b := sub [1, 1, 0, 1, 0, 0, 1] B24) (by kernel_rfl)) (by simp) (by kernel_rfl) (by kernel_rfl), .inl ⟨rfl, rfl, rfl, rfl⟩⟩
  | succ m ih =>
    intro i hi
    have s := mr_e_0 (d.map encR) d.length i (by omega)
    have s2 := mr_f_0 (d.map encR) d.length i
    obtain ⟨x, E, H', r, q⟩ := mr_jl h (i := i) (by omega) d.length 0 (by omega)
    rw [vioI]
    rcases q with ⟨rfl, rfl, rfl, q⟩ | ⟨rfl, rr, q1, q2, q3⟩
    · rw [q]
      have n1 := mr_k_0 (d.map encR) d.length i d.length
      rw [wrap_succ (by have := h.1; omega)] at n1
      have t1 := RunsTo.seq s2 (RunsTo.block_exit (c := sub [1, 1, 0, 1, 0, 0, 1, 0, 0, 1] B24) r (by kernel_rfl)) (c := sub [1, 1, 0, 1, 0, 0, 1, 0, 0] B24) (by kernel_rfl) (by kernel_rfl)
      have t2 := RunsTo.block_normal (i := 1) (c := sub [1, 1, 0, 1, 0, 0, 1, 0] B24) t1 (by kernel_rfl)
      have t3 := RunsTo.seq t2 n1 (c := sub [1, 1, 0, 1, 0, 0, 1] B24) (by kernel_rfl) (by kernel_rfl)
      have t4 := RunsTo.seq s t3 (c := sub [1, 1, 0, 1, 0, 0] B24) (by kernel_rfl) (by kernel_rfl)
      obtain ⟨x, E, H', r2, q2⟩ := ih (i + 1) (by omega)
      exact ⟨x, E, H', RunsTo.loop t4 (by kernel_rfl) rfl r2 rfl (by kernel_rfl) (by kernel_rfl), q2⟩
    · rw [q1]
      have t1 := RunsTo.seq s2 (RunsTo.block_ret (i := 2) (c := sub [1, 1, 0, 1, 0, 0, 1, 0, 0, 1] B24) r (by kernel_rfl)) (c := sub [1, 1, 0, 1, 0, 0, 1, 0, 0] B24) (by kernel_rfl) (by kernel_rfl)
      have t2 := RunsTo.block_ret (i := 1) (c := sub [1, 1, 0, 1, 0, 0, 1, 0] B24) t1 (by kernel_rfl)
      have t3 := RunsTo.seq_out t2 (by simp) (c := sub [1, 1, 0, 1, 0, 0, 1] B24) (b := sub [1, 1, 0, 1, 0, 0, 1, 1] B24) (by kernel_rfl)
      have t4 := RunsTo.seq s t3 (c := sub [1, 1, 0, 1, 0, 0] B24) (by kernel_rfl) (by kernel_rfl)
      exact ⟨_, _, _, RunsTo.loop_out t4 (by simp) (by kernel_rfl) (by kernel_rfl), .inr ⟨rfl, rr, rfl, q2, q3⟩⟩
end
theorem rmetric_ok : PrimOk Try.prog 24 metric24 := by
  refine primOk_pure (pol := pol) (fn := Try.f24) (cd := B24) follows_mixed sound (by kernel_rfl) (by kernel_rfl) (fnok pol.prim _ _ (by kernel_rfl)) (by kernel_rfl) ?_
  intro args res h
  obtain ⟨d, rfl, hq⟩ := rwF_inv h
  clear h
  split at hq
  · rename_i hd
    cases hq
    have a := mr_a_0 (d.map encR)
    have b := mr_b_0 (d.map encR)
    rw [List.length_map] at b
    have c := mr_c_0 (d.map encR) d.length
    obtain ⟨x, E, H', r, q⟩ := mr_il hd d.length 0 (by omega)
    rcases q with ⟨rfl, rfl, rfl, q⟩ | ⟨rfl, rr, q1, q2, q3⟩
    · have z := mr_z_0 (d.map encR) d.length d.length
      have t1 := RunsTo.seq c (RunsTo.block_exit (c := sub [1, 1, 0, 1] B24) r (by kernel_rfl)) (c := sub [1, 1, 0] B24) (by kernel_rfl) (by kernel_rfl)
      have t2 := RunsTo.seq t1 z (c := sub [1, 1] B24) (by kernel_rfl) (by kernel_rfl)
      have t3 := RunsTo.seq a (RunsTo.seq b t2 (c := sub [1] B24) (by kernel_rfl) (by kernel_rfl)) (c := B24) (by kernel_rfl) (by kernel_rfl)
      have e : vio d = none := q
      rw [e]
      exact ⟨_, _, _, .tuple [.agg [.int .i64 0, .int .i64 0, .int .i64 0], .bool true], t3, by simp, by simp only [resultsV, res24]; kernel_rfl, rfl⟩
    · have t1 := RunsTo.seq c (RunsTo.block_ret (i := 0) (c := sub [1, 1, 0, 1] B24) r (by kernel_rfl)) (c := sub [1, 1, 0] B24) (by kernel_rfl) (by kernel_rfl)
      have t2 := RunsTo.seq_out t1 (by simp) (c := sub [1, 1] B24) (b := sub [1, 1, 1] B24) (by kernel_rfl)
      have t3 := RunsTo.seq a (RunsTo.seq b t2 (c := sub [1] B24) (by kernel_rfl) (by kernel_rfl)) (c := B24) (by kernel_rfl) (by kernel_rfl)
      have e : vio d = some rr := q1
      rw [e]
      exact ⟨_, _, _, _, t3, by simp, q2, rfl⟩
  · cases hq
end Go.Proofs.Ytlendaofkmhgmaa
end
section
open Go Go.HL
namespace Go.Proofs.Ytlendaofkmhgmaa
theorem res54 : Try.f54.results.toList = [.tmp 8] := by kernel_rfl
section
variable {d : List (List Int)} {o : List Bool} {f t : Nat}
abbrev spE (d : List (List Int)) (o : List Bool) (f t : Nat) (v10 v11 v12 v13 v14 : HV) : Env := env54 (.imm .arg 1 (d.map encR)) (.imm .arg 1 (o.map HV.bool)) (.int .i64 (f : Int)) (.int .i64 (t : Int)) (.int .i64 0) (.int .i64 (d.length : Int)) v10 v11 v12 v13 v14
end
section
variable {d : List (List Int)} {o : List Bool} {f t : Nat}
abbrev slN (n : Nat) : HV := .sl 0 0 n (some n) n 1
end
section
variable {d : List (List Int)} {o : List Bool} {f t : Nat}
theorem ixb {n b k : Nat} (hk : k < n) : idxV Try.prog 23 (.sl b 0 n (some n) n 1) (.int .i64 (k : Int)) = some (.ptr b k 0 n) := by
  have := idx_sl (P := Try.prog) (t := 23) (b := b) (len := n) (tot := n) (cap := some n) (ik := .i64) (n := (k : Int)) u23 z3 (by omega) (by omega)
  rwa [Int.toNat_natCast] at this
end
section
variable {d : List (List Int)} {o : List Bool} {f t : Nat}
theorem ixB {x : Nat} (hx : x < o.length) : idxV Try.prog 79 (.imm .arg 1 (o.map HV.bool)) (.int .i64 (x : Int)) = some (.vptr (.bool (o.getD x false))) :=
  idx_imm u79 z4 (by omega) (by rw [Int.toNat_natCast, List.getElem?_map, List.getElem?_eq_getElem hx]; simp [List.getD, List.getElem?_eq_getElem hx])
end
section
variable {d : List (List Int)} {o : List Bool} {f t : Nat}
theorem ldA {A : List Int} {n y : Nat} (hA : A.length = n) (hy : y < n) : loadV Try.prog [bI A] 3 (.ptr 0 y 0 n) = some (.int .i64 (A.getD y 0)) := by
  subst hA
  exact load_out (k := 0) rfl hy
end
section
variable {d : List (List Int)} {o : List Bool} {f t : Nat}
theorem stA {A : List Int} {n y : Nat} (hA : A.length = n) (hy : y < n) (v : Int) : storeV Try.prog [bI A] 3 (.ptr 0 y 0 n) (.int .i64 v) = some [bI (A.set y v)] := by
  subst hA
  exact store_out (k := 0) (H := [bI A]) rfl hy v
end
section
variable {d : List (List Int)} {o : List Bool} {f t : Nat}
theorem sp_init (h : okD d) : ∀ m i (A : List Int), i + m = d.length → A.length = d.length → (∀ q, q < i → A.getD q 0 = 1099511627776) →
    RunsTo Try.prog pol 54 (sub [1, 1, 1, 0, 1, 0] B54) (spE d o f t (slN d.length) (.int .i64 (i : Int)) .undef .undef .undef) [bI A] (.exit 0) (pol.keys 54) (spE d o f t (slN d.length) (.int .i64 (d.length : Int)) .undef .undef .undef) [bI (List.replicate d.length 1099511627776)] := by
  intro m
  induction m with
  | zero =>
    intro i A hi hA hq
    have : i = d.length := by omega
    subst this
    have e : A = List.replicate d.length 1099511627776 := by
      apply List.ext_getElem?
      intro q
      by_cases h : q < d.length
      · have := hq q h
        rw [List.getElem?_replicate, if_pos h, List.getElem?_eq_getElem (by omega)]
        simp only [List.getD, List.getElem?_eq_getElem (show q < A.length by omega), Option.getD_some] at this
        rw [this]
      · rw [List.getElem?_eq_none (by omega), List.getElem?_eq_none (by simp; omega)]
    rw [e]
    exact RunsTo.loop_out (sp_e_1 (d.map encR) (o.map HV.bool) f t d.length _ d.length (by omega)) (by simp) (by kernel_rfl) (by kernel_rfl)
  | succ m ih =>
    intro i A hi hA hq
    have s := sp_e_0 (d.map encR) (o.map HV.bool) f t d.length _ i _ (by omega) (ixb (by omega)) (stA hA (by omega) 1099511627776)
    rw [wrap_succ (by have := h.1; omega)] at s
    exact RunsTo.loop s (by kernel_rfl) rfl (ih (i + 1) _ (by omega) (by simp [hA]) fun q hq' => by
      rw [getD_set' _ _ _ _ (by omega)]
      split
      · rfl
      · exact hq q (by omega)) rfl (by kernel_rfl) (by kernel_rfl)
end
section
variable {d : List (List Int)} {o : List Bool} {f t : Nat}
theorem sp_row (h : okD d) (ho : o.length = d.length) {r x : Nat} (hx : x < d.length) : ∀ k y (A : List Int), y + k = d.length → BdA d.length A →
    RunsTo Try.prog pol 54 (sub [1, 1, 1, 1, 1, 0, 1, 0, 0, 1, 0, 0, 1, 0, 0, 1, 0, 0, 1, 0] B54) (spE d o f t (slN d.length) .undef (.int .i64 (r : Int)) (.int .i64 (x : Int)) (.int .i64 (y : Int))) [bI A] (.exit 6) (pol.keys 54) (spE d o f t (slN d.length) .undef (.int .i64 (r : Int)) (.int .i64 (x : Int)) (.int .i64 (d.length : Int))) [bI ((rowP (okO o) x k y).foldl (rl d) A)] := by
  have hn := h.1
  intro k
  induction k with
  | zero =>
    intro y A hy hA
    have : y = d.length := by omega
    subst this
    exact RunsTo.loop_out (sp_l_3 (d.map encR) (o.map HV.bool) f t d.length _ r x d.length (by omega)) (by simp) (by kernel_rfl) (by kernel_rfl)
  | succ k ih =>
    intro y A hy hA
    have gx' := ixB (o := o) (x := x) (by omega)
    have gy := ixB (o := o) (x := y) (by omega)
    rw [rowP]
    cases c1 : o.getD x false with
    | true =>
      rw [c1] at gx'
      have s := sp_l_0 (d.map encR) (o.map HV.bool) f t d.length [bI A] r x y (by omega) gx'
      rw [wrap_succ (by omega)] at s
      have e : ¬ okO o x y = true := by rw [okO, c1]; simp
      rw [if_neg e]
      exact RunsTo.loop s (by kernel_rfl) rfl (ih (y + 1) A (by omega) hA) rfl (by kernel_rfl) (by kernel_rfl)
    | false =>
      rw [c1] at gx'
      cases c2 : o.getD y false with
      | true =>
        rw [c2] at gy
        have s := sp_l_1 (d.map encR) (o.map HV.bool) f t d.length [bI A] r x y (by omega) gx' gy
        rw [wrap_succ (by omega)] at s
        have e : ¬ okO o x y = true := by rw [okO, c2]; simp
        rw [if_neg e]
        exact RunsTo.loop s (by kernel_rfl) rfl (ih (y + 1) A (by omega) hA) rfl (by kernel_rfl) (by kernel_rfl)
      | false =>
        rw [c2] at gy
        have b1 := hA.2 x hx
        have b2 := h.at hx (j := y) (by omega)
        have hw : IntKind.i64.wrap (A.getD x 0 + at2 d x y) = A.getD x 0 + at2 d x y := wrap_id (by omega) (by omega)
        have s := sp_l_2 (d.map encR) (o.map HV.bool) f t d.length [bI A] r x y _ _ _ _ _ (by omega) gx' gy (ixb (by omega)) (ldA hA.1 (by omega)) (ixb hx) (ldA hA.1 hx) (g22' hx) (g23' h hx (by omega)) (ixb (by omega)) (stA hA.1 (by omega) _)
        rw [wrap_succ (by omega), hw] at s
        have e : okO o x y = true := by rw [okO, c1, c2]; rfl
        rw [if_pos e, List.foldl_cons]
        exact RunsTo.loop s (by kernel_rfl) rfl (ih (y + 1) (rl d A (x, y)) (by omega) (hA.rl h hx (by show y < d.length; omega))) rfl (by kernel_rfl) (by kernel_rfl)
end
section
variable {d : List (List Int)} {o : List Bool} {f t : Nat}
theorem sp_all (h : okD d) (ho : o.length = d.length) {r : Nat} : ∀ k x (A : List Int), x + k = d.length → BdA d.length A →
    RunsTo Try.prog pol 54 (sub [1, 1, 1, 1, 1, 0, 1, 0, 0, 1, 0, 0, 1, 0] B54) (spE d o f t (slN d.length) .undef (.int .i64 (r : Int)) (.int .i64 (x : Int)) .undef) [bI A] (.exit 4) (pol.keys 54) (spE d o f t (slN d.length) .undef (.int .i64 (r : Int)) (.int .i64 (d.length : Int)) .undef) [bI ((allP (okO o) d.length k x).foldl (rl d) A)] := by
  have hn := h.1
  intro k
  induction k with
  | zero =>
    intro x A hx hA
    have : x = d.length := by omega
    subst this
    exact RunsTo.loop_out (RunsTo.seq_out (sp_j_1 (d.map encR) (o.map HV.bool) f t d.length [bI A] r d.length (by omega)) (by simp) (c := sub [1, 1, 1, 1, 1, 0, 1, 0, 0, 1, 0, 0, 1, 0, 0] B54) (b := sub [1, 1, 1, 1, 1, 0, 1, 0, 0, 1, 0, 0, 1, 0, 0, 1] B54) (by kernel_rfl)) (by simp) (by kernel_rfl) (by kernel_rfl)
  | succ k ih =>
    intro x A hx hA
    have s := sp_j_0 (d.map encR) (o.map HV.bool) f t d.length [bI A] r x (by omega)
    have s2 := sp_k_0 (d.map encR) (o.map HV.bool) f t d.length [bI A] r x
    have rr := sp_row (f := f) (t := t) h ho (r := r) (x := x) (by omega) d.length 0 A (by omega) hA
    have s3 := sp_m_0 (d.map encR) (o.map HV.bool) f t d.length [bI ((rowP (okO o) x d.length 0).foldl (rl d) A)] r x d.length
    rw [wrap_succ (by omega)] at s3
    have t1 := RunsTo.seq s2 (RunsTo.block_exit (c := sub [1, 1, 1, 1, 1, 0, 1, 0, 0, 1, 0, 0, 1, 0, 0, 1, 0, 0, 1] B54) rr (by kernel_rfl)) (c := sub [1, 1, 1, 1, 1, 0, 1, 0, 0, 1, 0, 0, 1, 0, 0, 1, 0, 0] B54) (by kernel_rfl) (by kernel_rfl)
    have t2 := RunsTo.block_normal (i := 5) (c := sub [1, 1, 1, 1, 1, 0, 1, 0, 0, 1, 0, 0, 1, 0, 0, 1, 0] B54) t1 (by kernel_rfl)
    have t3 := RunsTo.seq t2 s3 (c := sub [1, 1, 1, 1, 1, 0, 1, 0, 0, 1, 0, 0, 1, 0, 0, 1] B54) (by kernel_rfl) (by kernel_rfl)
    have t4 := RunsTo.seq s t3 (c := sub [1, 1, 1, 1, 1, 0, 1, 0, 0, 1, 0, 0, 1, 0, 0] B54) (by kernel_rfl) (by kernel_rfl)
    rw [allP, List.foldl_append]
    exact RunsTo.loop t4 (by kernel_rfl) rfl (ih (x + 1) _ (by omega) (BdA.fold h _ _ hA (rowP_in (by omega) d.length 0 (by omega)))) rfl (by kernel_rfl) (by kernel_rfl)
end
section
variable {d : List (List Int)} {o : List Bool} {f t : Nat}
theorem sp_rounds (h : okD d) (ho : o.length = d.length) : ∀ k r (A : List Int), r + k = d.length → BdA d.length A →
    RunsTo Try.prog pol 54 (sub [1, 1, 1, 1, 1, 0, 1, 0] B54) (spE d o f t (slN d.length) .undef (.int .i64 (r : Int)) .undef .undef) [bI A] (.exit 2) (pol.keys 54) (spE d o f t (slN d.length) .undef (.int .i64 (d.length : Int)) .undef .undef) [bI (rnds d (allP (okO o) d.length d.length 0) k A)] := by
  have hn := h.1
  intro k
  induction k with
  | zero =>
    intro r A hr hA
    have : r = d.length := by omega
    subst this
    exact RunsTo.loop_out (RunsTo.seq_out (sp_h_1 (d.map encR) (o.map HV.bool) f t d.length [bI A] d.length (by omega)) (by simp) (c := sub [1, 1, 1, 1, 1, 0, 1, 0, 0] B54) (b := sub [1, 1, 1, 1, 1, 0, 1, 0, 0, 1] B54) (by kernel_rfl)) (by simp) (by kernel_rfl) (by kernel_rfl)
  | succ k ih =>
    intro r A hr hA
    have s := sp_h_0 (d.map encR) (o.map HV.bool) f t d.length [bI A] r (by omega)
    have s2 := sp_i_0 (d.map encR) (o.map HV.bool) f t d.length [bI A] r
    have rr := sp_all (f := f) (t := t) h ho (r := r) d.length 0 A (by omega) hA
    have s3 := sp_n_0 (d.map encR) (o.map HV.bool) f t d.length [bI ((allP (okO o) d.length d.length 0).foldl (rl d) A)] r d.length
    rw [wrap_succ (by omega)] at s3
    have t1 := RunsTo.seq s2 (RunsTo.block_exit (c := sub [1, 1, 1, 1, 1, 0, 1, 0, 0, 1, 0, 0, 1] B54) rr (by kernel_rfl)) (c := sub [1, 1, 1, 1, 1, 0, 1, 0, 0, 1, 0, 0] B54) (by kernel_rfl) (by kernel_rfl)
    have t2 := RunsTo.block_normal (i := 3) (c := sub [1, 1, 1, 1, 1, 0, 1, 0, 0, 1, 0] B54) t1 (by kernel_rfl)
    have t3 := RunsTo.seq t2 s3 (c := sub [1, 1, 1, 1, 1, 0, 1, 0, 0, 1] B54) (by kernel_rfl) (by kernel_rfl)
    have t4 := RunsTo.seq s t3 (c := sub [1, 1, 1, 1, 1, 0, 1, 0, 0] B54) (by kernel_rfl) (by kernel_rfl)
    rw [rnds]
    exact RunsTo.loop t4 (by kernel_rfl) rfl (ih (r + 1) _ (by omega) (BdA.fold h _ _ hA (allP_in d.length 0 (by omega)))) rfl (by kernel_rfl) (by kernel_rfl)
end
theorem short_ok : PrimOk Try.prog 54 short54 := by
  refine primOk_pure (pol := pol) (fn := Try.f54) (cd := B54) follows_mixed sound (by kernel_rfl) (by kernel_rfl) (fnok pol.prim _ _ (by kernel_rfl)) (by kernel_rfl) ?_
  intro args res h
  obtain ⟨d, o, f0, t0, rfl, hq⟩ := roF_inv h
  clear h
  split at hq
  · rename_i hc
    cases hq
    obtain ⟨hd, ho, hf0, ht0⟩ := hc
    have hn := hd.1
    obtain ⟨f, rfl⟩ : ∃ f : Nat, f0 = (f : Int) := ⟨f0.toNat, by omega⟩
    obtain ⟨t, rfl⟩ : ∃ t : Nat, t0 = (t : Int) := ⟨t0.toNat, by omega⟩
    rw [Int.toNat_natCast, Int.toNat_natCast]
    have hf : f < d.length := by omega
    have ht : t < d.length := by omega
    have a := sp_a_0 (d.map encR) (o.map HV.bool) f t
    have b := sp_b_0 (d.map encR) (o.map HV.bool) f t
    rw [List.length_map] at b
    have mk := makeV_ok (P := Try.prog) (H := []) (t := 23) (n := (d.length : Int)) u23 info3m rfl rfl (by omega) (by omega) (by rw [show roomMax = 70368744177664 from rfl]; omega)
    rw [Int.toNat_natCast] at mk
    have eR : List.replicate d.length (HV.int IntKind.i64 0) = (List.replicate d.length (0 : Int)).map encI := by simp [encI]
    rw [eR] at mk
    have c := sp_c_0 (d.map encR) (o.map HV.bool) f t d.length [] _ mk
    have dd := sp_d_0 (d.map encR) (o.map HV.bool) f t d.length [bI (List.replicate d.length 0)]
    have e := sp_init hd (d := d) (o := o) (f := f) (t := t) d.length 0 (List.replicate d.length 0) (by omega) (by simp) (fun q hq => by omega)
    have ff := sp_f_0 (d.map encR) (o.map HV.bool) f t d.length [bI (List.replicate d.length 1099511627776)] d.length _ (ixb hf) (stA (by simp) hf 0)
    have g := sp_g_0 (d.map encR) (o.map HV.bool) f t d.length [bI ((List.replicate d.length 1099511627776).set f 0)] d.length
    have r := sp_rounds (f := f) (t := t) hd ho d.length 0 _ (by omega) (init_bd hf)
    have hB := BdA.rnds hd (allP_in (ok := okO o) d.length 0 (by omega)) d.length _ (init_bd hf)
    have z := sp_z_0 (d.map encR) (o.map HV.bool) f t d.length [bI (rnds d (allP (okO o) d.length d.length 0) d.length ((List.replicate d.length 1099511627776).set f 0))] d.length _ (ixb ht) (ldA hB.1 ht)
    have r' := RunsTo.loop_in (e0 := spE d o f t (slN d.length) (.int .i64 (d.length : Int)) (.int .i64 0) .undef .undef) r (b := sub [1, 1, 1, 1, 1, 0, 1, 0, 0] B54) (by kernel_rfl) (by kernel_rfl) (by kernel_rfl)
    have t1 := RunsTo.seq g (RunsTo.block_exit (c := sub [1, 1, 1, 1, 1, 0, 1] B54) r' (by kernel_rfl)) (c := sub [1, 1, 1, 1, 1, 0] B54) (by kernel_rfl) (by kernel_rfl)
    have t2 := RunsTo.seq t1 z (c := sub [1, 1, 1, 1, 1] B54) (by kernel_rfl) (by kernel_rfl)
    have t3 := RunsTo.seq ff t2 (c := sub [1, 1, 1, 1] B54) (by kernel_rfl) (by kernel_rfl)
    have t4 := RunsTo.seq dd (RunsTo.block_exit (c := sub [1, 1, 1, 0, 1] B54) e (by kernel_rfl)) (c := sub [1, 1, 1, 0] B54) (by kernel_rfl) (by kernel_rfl)
    have t5 := RunsTo.seq t4 t3 (c := sub [1, 1, 1] B54) (by kernel_rfl) (by kernel_rfl)
    have t6 := RunsTo.seq c t5 (c := sub [1, 1] B54) (by kernel_rfl) (by kernel_rfl)
    have t7 := RunsTo.seq a (RunsTo.seq b t6 (c := sub [1] B54) (by kernel_rfl) (by kernel_rfl)) (c := B54) (by kernel_rfl) (by kernel_rfl)
    exact ⟨_, _, _, .int .i64 (sh d o f t), t7, by simp, by simp only [resultsV, res54]; rfl, rfl⟩
  · cases hq
end Go.Proofs.Ytlendaofkmhgmaa
end
section
open Go Go.HL
namespace Go.Proofs.Ytlendaofkmhgmaa
theorem res53 : Try.f53.results.toList = [.tmp 7] := by kernel_rfl
abbrev ClK (g : FuncId) (args : List HV) (H : Heap) (r : HV) (H' : Heap) : Prop := CallsTo (P := Try.prog) (pol := polK) g args H r H'
abbrev ldArgs (v w : Nat) : List HV := [.agg [.int .i64 (v : Int), .int .i64 (w : Int)], .ptr 1 0 0 1, .ptr 6 0 0 1, .ptr 0 0 0 1, .ptr 3 0 0 1, .ptr 7 0 0 1]
def Good (d : List (List Int)) (fa : List Int) (to : Nat) (ks : List (Int × Int)) (g : Int × Int → Bool) (B : Nat) : Prop := ∀ q, q ∈ ks → q.2 < (B : Int) → g q = ldT d fa to q.1.toNat q.2.toNat
def Kept (ks ks' : List (Int × Int)) (g g' : Int × Int → Bool) (w : Nat) : Prop := ∀ q : Int × Int, (w : Int) < q.2 → (q ∈ ks' ↔ q ∈ ks) ∧ g' q = g q
def LdOk (d : List (List Int)) (fa : List Int) (to v w : Nat) : Prop := ∀ ks g H, WM d fa to ks g H → Good d fa to ks g (w + 1) → ∃ ks' g' H', ClK 53 (ldArgs v w) H (.bool (ldT d fa to v w)) H' ∧ WM d fa to ks' g' H' ∧ Good d fa to ks' g' (w + 1) ∧ Kept ks ks' g g' w ∧ FrW H H'
section
variable {d : List (List Int)} {fa : List Int} {to : Nat}
abbrev ldE (v w kb : Nat) (y9 y10 y26 y27 : HV) : Env := env53 (.agg [.int .i64 (v : Int), .int .i64 (w : Int)]) (.ptr 1 0 0 1) (.ptr 6 0 0 1) (.ptr 0 0 0 1) (.ptr 3 0 0 1) (.ptr 7 0 0 1) (.ptr kb 0 0 1) (.bool false) y9 y10 y26 y27
end
section
variable {d : List (List Int)} {fa : List Int} {to : Nat}
theorem ld_loop (hd : okD d) (hf : BdA d.length fa) {v w kb : Nat} (hv : v < d.length) (hw : w < 2 ^ d.length) (hR : ∀ u, w.testBit u = true → LdOk d fa to u (wo w u)) (hkb : 8 ≤ kb) :
    ∀ k i ks g H, i + k = d.length → WM d fa to ks g H → H[kb]? = some (boxK v w) → ((v : Int), (w : Int)) ∈ ks → Good d fa to ks g w →
    ∃ ks' g' H', RunsTo Try.prog polK 53 (sub [1, 1, 0, 1, 1, 0, 1, 1, 0] B53) (ldE v w kb .undef .undef (.int .i64 (d.length : Int)) (.int .i64 (i : Int))) H (.exit 0) (polK.keys 53) (ldE v w kb .undef .undef (.int .i64 (d.length : Int)) (.int .i64 (d.length : Int))) H' ∧
      WM d fa to ks' g' H' ∧ ((v : Int), (w : Int)) ∈ ks' ∧ g' ((v : Int), (w : Int)) = (g ((v : Int), (w : Int)) || anyF (fun u => w.testBit u && tight d fa v u && ldT d fa to u (wo w u)) k i) ∧ Good d fa to ks' g' w ∧
      (∀ q : Int × Int, (w : Int) ≤ q.2 → q ≠ ((v : Int), (w : Int)) → (q ∈ ks' ↔ q ∈ ks) ∧ g' q = g q) ∧ FrW H H' := by
  have hp := pow_le hd.1.2
  have hn := hd.1.2
  intro k
  induction k with
  | zero =>
    intro i ks g H hi hM hK hin hG
    have hi : i = d.length := by omega
    subst hi
    exact ⟨ks, g, H, RunsTo.loop_out (ld_l_4 0 (d.map encR) d.length v w to kb H d.length (by omega)) (by simp) (by kernel_rfl) (by kernel_rfl), hM, hin, by simp [anyF], hG, fun q _ _ => ⟨Iff.rfl, rfl⟩, FrW.refl _⟩
  | succ k ih =>
    intro i ks g H hi hM hK hin hG
    rw [anyF]
    have bs := bo_shr (L := w) (v := i) (by omega)
    have ba := bo_and (L := w) (v := i) (by omega) (by omega)
    by_cases c : w.testBit i = true
    · rw [if_pos c] at ba
      have b1 := hd.at hv (j := i) (by omega)
      have b2 := hf.2 i (by omega)
      have hwr : IntKind.i64.wrap (at2 d v i + fa.getD i 0) = at2 d v i + fa.getD i 0 := wrap_id (by omega) (by omega)
      by_cases c2 : at2 d v i + fa.getD i 0 = fa.getD v 0
      · have hti : tight d fa v i = true := decide_eq_true c2
        have hwl := wo_lt c
        obtain ⟨ks1, g1, H1, hcl, hM1, hG1, hK1, hF1⟩ := hR i c ks g H hM (fun q hq hq2 => hG q hq (by omega))
        obtain ⟨N, hN⟩ := CallsTo.from hcl
        have bl := bo_shl (v := i) (by omega)
        have bn := bo_andn (L := w) (v := i) (by omega) (by omega)
        have hK2 : H1[kb]? = some (boxK v w) := by rw [hF1.same _ (by omega)]; exact hK
        have kh := hK1 ((v : Int), (w : Int)) (by show ((wo w i : Nat) : Int) < (w : Int); omega)
        have hG1' : Good d fa to ks1 g1 w := fun q hq hq2 => by
          by_cases e : q.2 < ((wo w i + 1 : Nat) : Int)
          · exact hG1 q hq e
          · have := hK1 q (by omega)
            rw [this.2]
            exact hG q (this.1.1 hq) hq2
        have hkeep : ∀ q : Int × Int, (w : Int) ≤ q.2 → (q ∈ ks1 ↔ q ∈ ks) ∧ g1 q = g q := fun q hq => hK1 q (by omega)
        cases hb : ldT d fa to i (wo w i) with
        | true =>
          rw [hb] at hN
          obtain ⟨ks2, H2, hu, hM2, hF2, hin2⟩ := hM1.upd ((v : Int), (w : Int)) true
          have s := ld_l_0 N (d.map encR) d.length v w to kb H i _ _ _ _ _ _ _ _ H1 H2 (by omega) (ld_k1 hK) bs ba rfl hM.l0 (ld_k0 hK) (g22' hv) (g23' hd hv (by omega)) hM.l3 (ixF (by omega)) (hM.l2 hf.1 (by omega)) hM.l3 (ld_k0 hK) (ixF hv) (hM.l2 hf.1 hv) (by rw [hwr]; exact c2) hM.l6 (ld_k1 hK) bl bn hN hM1.l5 (ld_k hK2) hu
          rw [wrap_succ (by omega)] at s
          obtain ⟨ks', g', H', r, q1, q2, q3, q4, q5, q6⟩ := ih (i + 1) ks2 _ H2 (by omega) hM2 (by rw [hF2.same _ (by omega)]; exact hK2) ((hin2 _).2 (.inr rfl)) (fun q hq hq2 => by
            have hne : q ≠ ((v : Int), (w : Int)) := fun e => by subst e; exact absurd hq2 (Int.lt_irrefl _)
            have : put g1 ((v : Int), (w : Int)) true q = g1 q := if_neg hne
            rw [this]
            exact hG1' q (((hin2 q).1 hq).resolve_right hne) hq2)
          have hp : put g1 ((v : Int), (w : Int)) true ((v : Int), (w : Int)) = true := if_pos rfl
          rw [hp] at q3
          refine ⟨ks', g', H', RunsTo.loop s (by kernel_rfl) (gc_eq _ (hF2.len.trans hF1.len)) r rfl (by kernel_rfl) (by kernel_rfl), q1, q2, ?_, q4, fun q hq hne => ?_, hF1.trans (hF2.trans q6)⟩
          · rw [q3]; simp [c, hti, hb]
          · have h1 := q5 q hq hne
            have h2 : put g1 ((v : Int), (w : Int)) true q = g1 q := if_neg hne
            rw [h2] at h1
            have h3 := hkeep q hq
            refine ⟨⟨fun h => ?_, fun h => ?_⟩, h1.2.trans h3.2⟩
            · exact h3.1.1 (((hin2 q).1 (h1.1.1 h)).resolve_right hne)
            · exact h1.1.2 ((hin2 q).2 (.inl (h3.1.2 h)))
        | false =>
          rw [hb] at hN
          have s := ld_l_1 N (d.map encR) d.length v w to kb H i _ _ _ _ _ _ _ _ H1 (by omega) (ld_k1 hK) bs ba rfl hM.l0 (ld_k0 hK) (g22' hv) (g23' hd hv (by omega)) hM.l3 (ixF (by omega)) (hM.l2 hf.1 (by omega)) hM.l3 (ld_k0 hK) (ixF hv) (hM.l2 hf.1 hv) (by rw [hwr]; exact c2) hM.l6 (ld_k1 hK) bl bn hN
          rw [wrap_succ (by omega)] at s
          obtain ⟨ks', g', H', r, q1, q2, q3, q4, q5, q6⟩ := ih (i + 1) ks1 g1 H1 (by omega) hM1 hK2 (kh.1.2 hin) hG1'
          refine ⟨ks', g', H', RunsTo.loop s (by kernel_rfl) (gc_eq _ hF1.len) r rfl (by kernel_rfl) (by kernel_rfl), q1, q2, ?_, q4, fun q hq hne => ?_, hF1.trans q6⟩
          · rw [q3, kh.2]; simp [hb]
          · have h1 := q5 q hq hne
            have h3 := hkeep q hq
            exact ⟨h1.1.trans h3.1, h1.2.trans h3.2⟩
      · have hti : tight d fa v i = false := decide_eq_false c2
        have s := ld_l_2 0 (d.map encR) d.length v w to kb H i _ _ _ _ _ _ (by omega) (ld_k1 hK) bs ba rfl hM.l0 (ld_k0 hK) (g22' hv) (g23' hd hv (by omega)) hM.l3 (ixF (by omega)) (hM.l2 hf.1 (by omega)) hM.l3 (ld_k0 hK) (ixF hv) (hM.l2 hf.1 hv) (by rw [hwr]; exact c2)
        rw [wrap_succ (by omega)] at s
        obtain ⟨ks', g', H', r, q1, q2, q3, q4, q5, q6⟩ := ih (i + 1) ks g H (by omega) hM hK hin hG
        refine ⟨ks', g', H', RunsTo.loop s (by kernel_rfl) (gc_eq _ rfl) r rfl (by kernel_rfl) (by kernel_rfl), q1, q2, ?_, q4, q5, q6⟩
        rw [q3]; simp [hti]
    · rw [if_neg c] at ba
      have s := ld_l_3 0 (d.map encR) d.length v w to kb H i _ _ (by omega) (ld_k1 hK) bs ba (by omega)
      rw [wrap_succ (by omega)] at s
      obtain ⟨ks', g', H', r, q1, q2, q3, q4, q5, q6⟩ := ih (i + 1) ks g H (by omega) hM hK hin hG
      refine ⟨ks', g', H', RunsTo.loop s (by kernel_rfl) (gc_eq _ rfl) r rfl (by kernel_rfl) (by kernel_rfl), q1, q2, ?_, q4, q5, q6⟩
      rw [q3]; simp [nb_false c]
end
section
variable {d : List (List Int)} {fa : List Int} {to : Nat}
theorem ld_step (hd : okD d) (hf : BdA d.length fa) {v w : Nat} (hv : v < d.length) (hw : w < 2 ^ d.length) (hR : ∀ u, w.testBit u = true → LdOk d fa to u (wo w u)) : LdOk d fa to v w := by
  intro ks g H hM hG
  have h7 := hM.seven
  have a := ld_a_0 0 (d.map encR) d.length v w to H.length H _ (by rw [show (HV.agg [.i (v : Int), .i (w : Int)]) = encP ((v : Int), (w : Int)) from rfl, new_k])
  have hMa : WM d fa to ks g (H ++ [boxK v w]) := hM.app (same_box _ _) (Nat.zero_le _)
  have hla : (H ++ [boxK (v : Int) w]).length = H.length + 1 := by simp
  have hlow : ∀ j, j < H.length → (H ++ [boxK (v : Int) w])[j]? = H[j]? := fun j hj => List.getElem?_append_left hj
  have gK : (H ++ [boxK (v : Int) w])[H.length]? = some (boxK v w) := by
    rw [List.getElem?_append_right (Nat.le_refl _)]; simp
  generalize H ++ [boxK (v : Int) w] = Ha at a hMa hla hlow gK
  have done : ∀ (E : Env) (Hd : Heap) ks' g', RunsTo Try.prog polK 53 (sub [1] B53) (ldE v w H.length .undef .undef .undef .undef) Ha .ret (polK.keys 53) E Hd → E.get 7 = .bool (ldT d fa to v w) → WM d fa to ks' g' Hd → Good d fa to ks' g' (w + 1) → Kept ks ks' g g' w → FrW Ha Hd →
      ∃ ks' g' H', ClK 53 (ldArgs v w) H (.bool (ldT d fa to v w)) H' ∧ WM d fa to ks' g' H' ∧ Good d fa to ks' g' (w + 1) ∧ Kept ks ks' g g' w ∧ FrW H H' := by
    intro E Hd ks' g' t h7' hMd hGd hKd hFd
    have t2 := RunsTo.seq a t (c := B53) (by kernel_rfl) (by kernel_rfl)
    have hc := CallsTo.shared (P := Try.prog) (pol := polK) (g := 53) (fn := Try.f53) (cd := B53) (args := ldArgs v w) (v := .bool (ldT d fa to v w)) (by kernel_rfl) (by kernel_rfl) (by kernel_rfl) (by kernel_rfl) t2 (by kernel_rfl) (by simp) (by simp only [resultsV, res53, mapO, resultV, h7'])
    rw [hMd.gc h7] at hc
    have e : max H.length (bnd (.bool (ldT d fa to v w))) = H.length := by simp [bnd]
    rw [e] at hc
    refine ⟨ks', g', _, hc, hMd.take h7, hGd, hKd, by rw [List.length_take, hFd.len]; omega, fun k hk => ?_⟩
    rw [List.getElem?_take]
    split
    · rename_i hl
      rw [hFd.same k hk, hlow k hl]
    · rename_i hl
      rw [List.getElem?_eq_none (by omega)]
  have hstep := ldT_step d fa to v w
  by_cases ct : v = to
  · have b := ld_b_0 0 (d.map encR) d.length v w to H.length Ha (ld_k0 gK) hMa.l1 (by omega)
    have e : ldT d fa to v w = true := by rw [hstep]; simp [ct]
    exact done _ _ ks g (RunsTo.seq_out b (by simp) (c := sub [1] B53) (b := sub [1, 1] B53) (by kernel_rfl)) (by rw [e]; rfl) hMa hG (fun q _ => ⟨Iff.rfl, rfl⟩) (FrW.refl _)
  · have b := ld_b_1 0 (d.map encR) d.length v w to H.length Ha (ld_k0 gK) hMa.l1 (by omega)
    rw [decide_eq_false ct, Bool.false_or] at hstep
    have up : ∀ (E : Env) (Hd : Heap), RunsTo Try.prog polK 53 (sub [1, 1] B53) (ldE v w H.length .undef .undef .undef .undef) Ha .ret (polK.keys 53) E Hd → RunsTo Try.prog polK 53 (sub [1] B53) (ldE v w H.length .undef .undef .undef .undef) Ha .ret (polK.keys 53) E Hd := fun E Hd t => RunsTo.seq b t (c := sub [1] B53) (by kernel_rfl) (by kernel_rfl)
    have zz : ∀ (ks' : List (Int × Int)) (g' : Int × Int → Bool) (Hd : Heap) (y9 y10 y26 y27 : HV), WM d fa to ks' g' Hd → Hd[H.length]? = some (boxK v w) → ((v : Int), (w : Int)) ∈ ks' → g' ((v : Int), (w : Int)) = ldT d fa to v w →
        ∃ E, RunsTo Try.prog polK 53 (sub [1, 1, 1] B53) (ldE v w H.length y9 y10 y26 y27) Hd .ret (polK.keys 53) E Hd ∧ E.get 7 = .bool (ldT d fa to v w) := by
      intro ks' g' Hd y9 y10 y26 y27 hMd hKd hin hg
      have lk := (hMd.lkIn hin).2
      rw [hg] at lk
      cases hb : ldT d fa to v w with
      | true =>
        rw [hb] at lk
        exact ⟨_, ld_z_0 0 (d.map encR) d.length v w to H.length Hd y9 y10 y26 y27 hMd.l5 (ld_k hKd) lk, rfl⟩
      | false =>
        rw [hb] at lk
        exact ⟨_, ld_z_1 0 (d.map encR) d.length v w to H.length Hd y9 y10 y26 y27 hMd.l5 (ld_k hKd) lk, rfl⟩
    by_cases cin : ((v : Int), (w : Int)) ∈ ks
    · have hg : g ((v : Int), (w : Int)) = ldT d fa to v w := hG _ cin (by show (w : Int) < ((w + 1 : Nat) : Int); omega)
      have lk := (hMa.lkIn cin).1
      obtain ⟨E, z, h7'⟩ := zz ks g Ha (.bool true) .undef .undef .undef hMa gK cin hg
      have e := ld_dt_0 0 (d.map encR) d.length v w to H.length Ha
      have sk : RunsTo Try.prog polK 53 (sub [1, 1, 0, 1, 1, 1] B53) (ldE v w H.length (.bool true) .undef .undef .undef) Ha .normal (polK.keys 53) (ldE v w H.length (.bool true) .undef .undef .undef) Ha := RunsTo.hint 1 60 [] fun kf hk => by
        obtain ⟨kf, rfl⟩ : ∃ n, kf = n + 1 := ⟨kf - 1, by omega⟩
        exact ⟨[], by kernel_rfl, Obls.nil⟩
      have t1 := RunsTo.seq e (RunsTo.cond (y := .tmp 22) (t := false) (c := sub [1, 1, 0, 1, 1] B53) (a := sub [1, 1, 0, 1, 1, 0] B53) (b := sub [1, 1, 0, 1, 1, 1] B53) (by kernel_rfl) rfl sk) (c := sub [1, 1, 0, 1] B53) (by kernel_rfl) (by kernel_rfl)
      have c : RunsTo Try.prog polK 53 (sub [1, 1, 0, 0] B53) (ldE v w H.length .undef .undef .undef .undef) Ha .normal (polK.keys 53) (ldE v w H.length (.bool true) .undef .undef .undef) Ha := by
        cases hb : g ((v : Int), (w : Int)) with
        | true => rw [hb] at lk; exact ld_c_0 0 (d.map encR) d.length v w to H.length Ha hMa.l5 (ld_k gK) lk
        | false => rw [hb] at lk; exact ld_c_1 0 (d.map encR) d.length v w to H.length Ha hMa.l5 (ld_k gK) lk
      have t2 := RunsTo.seq (RunsTo.seq c t1 (c := sub [1, 1, 0] B53) (by kernel_rfl) (by kernel_rfl)) z (c := sub [1, 1] B53) (by kernel_rfl) (by kernel_rfl)
      exact done _ _ ks g (up _ _ t2) h7' hMa hG (fun q _ => ⟨Iff.rfl, rfl⟩) (FrW.refl _)
    · have lk := hMa.lkOut cin
      have c := ld_c_2 0 (d.map encR) d.length v w to H.length Ha hMa.l5 (ld_k gK) lk
      have e := ld_df_0 0 (d.map encR) d.length v w to H.length Ha
      obtain ⟨ks1, H1, hu, hM1, hF1, hin1⟩ := hMa.upd ((v : Int), (w : Int)) false
      have f := ld_e_0 0 (d.map encR) d.length v w to H.length Ha H1 hMa.l5 (ld_k gK) hu
      have gg := ld_f_0 0 (d.map encR) d.length v w to H.length H1 hM1.l0
      rw [List.length_map] at gg
      have hK1 : H1[H.length]? = some (boxK v w) := by rw [hF1.same _ (by omega)]; exact gK
      obtain ⟨ks', g', Hd, rl, q1, q2, q3, q4, q5, q6⟩ := ld_loop hd hf hv hw hR (kb := H.length) h7 d.length 0 ks1 _ H1 (by omega) hM1 hK1 ((hin1 _).2 (.inr rfl)) (fun q hq hq2 => by
        have hne : q ≠ ((v : Int), (w : Int)) := fun e => by subst e; exact absurd hq2 (Int.lt_irrefl _)
        have : put g ((v : Int), (w : Int)) false q = g q := if_neg hne
        rw [this]
        exact hG q (((hin1 q).1 hq).resolve_right hne) (by omega))
      have hp : put g ((v : Int), (w : Int)) false ((v : Int), (w : Int)) = false := if_pos rfl
      rw [hp, Bool.false_or, ← hstep] at q3
      have hKd : Hd[H.length]? = some (boxK v w) := by rw [q6.same _ (by omega)]; exact hK1
      obtain ⟨E, z, h7'⟩ := zz ks' g' Hd .undef .undef (.i (d.length : Int)) (.i (d.length : Int)) q1 hKd q2 q3
      have rl' := RunsTo.loop_in (e0 := ldE v w H.length (.bool false) .undef (.i (d.length : Int)) (.i 0)) rl (b := sub [1, 1, 0, 1, 1, 0, 1, 1, 0, 0] B53) (by kernel_rfl) (by kernel_rfl) (by kernel_rfl)
      have t1 := RunsTo.seq gg (RunsTo.block_exit (c := sub [1, 1, 0, 1, 1, 0, 1, 1] B53) rl' (by kernel_rfl)) (c := sub [1, 1, 0, 1, 1, 0, 1] B53) (by kernel_rfl) (by kernel_rfl)
      have t3 := RunsTo.seq f t1 (c := sub [1, 1, 0, 1, 1, 0] B53) (by kernel_rfl) (by kernel_rfl)
      have t4 := RunsTo.seq e (RunsTo.cond (y := .tmp 22) (t := true) (c := sub [1, 1, 0, 1, 1] B53) (a := sub [1, 1, 0, 1, 1, 0] B53) (b := sub [1, 1, 0, 1, 1, 1] B53) (by kernel_rfl) rfl t3) (c := sub [1, 1, 0, 1] B53) (by kernel_rfl) (by kernel_rfl)
      have t5 := RunsTo.seq (RunsTo.seq c t4 (c := sub [1, 1, 0] B53) (by kernel_rfl) (by kernel_rfl)) z (c := sub [1, 1] B53) (by kernel_rfl) (by kernel_rfl)
      have keep : ∀ q : Int × Int, (w : Int) ≤ q.2 → q ≠ ((v : Int), (w : Int)) → (q ∈ ks' ↔ q ∈ ks) ∧ g' q = g q := fun q hq hne => by
        have h1 := q5 q hq hne
        have h2 : put g ((v : Int), (w : Int)) false q = g q := if_neg hne
        rw [h2] at h1
        refine ⟨h1.1.trans ⟨fun h => ((hin1 q).1 h).resolve_right hne, fun h => (hin1 q).2 (.inl h)⟩, h1.2⟩
      refine done _ _ ks' g' (up _ _ t5) h7' q1 (fun q hq hq2 => ?_) (fun q hq => keep q (by omega) (fun e => by subst e; exact absurd hq (Int.lt_irrefl _))) (hF1.trans q6)
      by_cases c1 : q.2 < (w : Int)
      · exact q4 q hq c1
      · by_cases c2 : q = ((v : Int), (w : Int))
        · subst c2; exact q3
        · have := keep q (by omega) c2
          rw [this.2]
          exact hG q (this.1.1 hq) hq2
end
section
variable {d : List (List Int)} {fa : List Int} {to : Nat}
theorem ld_call (hd : okD d) (hf : BdA d.length fa) : ∀ (k v w : Nat), w ≤ k → v < d.length → w < 2 ^ d.length → LdOk d fa to v w := by
  intro k
  induction k with
  | zero =>
    intro v w hk hv hw
    have : w = 0 := by omega
    subst this
    exact ld_step hd hf hv hw fun u hu => by simp at hu
  | succ k ih =>
    intro v w hk hv hw
    refine ld_step hd hf hv hw fun u hu => ?_
    have := wo_lt hu
    exact ih u (wo w u) (by omega) (bit_lt hw hu) (by omega)
end
end Go.Proofs.Ytlendaofkmhgmaa
end
section
open Go Go.HL
namespace Go.Proofs.Ytlendaofkmhgmaa
theorem soundK (n : Nat) : CallSound Try.prog (callN Try.prog polK n) := sound_prim _ (fun g f h => by
  split at h
  · rename_i hg; cases h; rw [eq_of_beq hg]; exact miles_ok
  split at h
  · rename_i hg; cases h; rw [eq_of_beq hg]; exact within_ok
  split at h
  · rename_i hg; cases h; rw [eq_of_beq hg]; exact clone_ok
  · cases h) n
theorem res23 : Try.f23.results.toList = [.tmp 6, .tmp 7, .tmp 8] := by kernel_rfl
def okW (d : List (List Int)) (fa : List Int) (to v L u : Nat) : Bool := L.testBit u && tight d fa v u && ldT d fa to u (wo L u)
def wyF (d : List (List Int)) (fa : List Int) (to : Nat) : Nat → Nat → Nat → List Int
  | 0, _, _ => []
  | k + 1, v, L => if v = to then [] else match pck (okW d fa to v L) d.length 0 with | some u => (u : Int) :: wyF d fa to k u (wo L u) | none => []
def wayL (d : List (List Int)) (fr to : Nat) : List Int := (fr : Int) :: wyF d (farL d to) to (2 ^ d.length) fr (wo (2 ^ d.length - 1) fr)
def wayF (f : List (List Int) → Int → Int → Option HV) : List HV → Option HV
  | [.imm .arg 1 rw, .int .i64 a, .int .i64 b] => (match mapO decR rw with | some R => f R a b | none => none)
  | _ => none
theorem wayF_inv {f : List (List Int) → Int → Int → Option HV} {args : List HV} {res : HV} (h : wayF f args = some res) : ∃ R a b, args = [.imm .arg 1 (R.map encR), .int .i64 a, .int .i64 b] ∧ f R a b = some res := by
  unfold wayF at h
  split at h
  · rename_i rw a b
    split at h
    · rename_i R hR
      exact ⟨R, a, b, by rw [mapO_inv decR_inv hR], h⟩
    · cases h
  · cases h
open Classical in
noncomputable def way23 : List HV → Option HV := wayF fun R a b => if R.length ≤ 1000 ∧ (R.all fun r => decide (r.length ≤ 1000)) = true then
  (if okD R ∧ (0 ≤ a ∧ a < R.length) ∧ 0 ≤ b ∧ b < R.length then (if ldT R (farL R b.toNat) b.toNat a.toNat (wo (2 ^ R.length - 1) a.toNat) = true ∧ (wayL R a.toNat b.toNat).length ≤ 500 then some (.tuple [.own 1 ((wayL R a.toNat b.toNat).map encI), .int .i64 ((farL R b.toNat).getD a.toNat 0), .int .i64 0]) else none)
    else some (.tuple [.own 1 [], .int .i64 0, .int .i64 2])) else none
section
variable {d : List (List Int)} {fa : List Int} {to : Nat}
abbrev waE0 (d : List (List Int)) (a b : Int) : Env := env23 (.imm .arg 1 (d.map encR)) (.int .i64 a) (.int .i64 b) (.ptr 0 0 0 1) (.ptr 1 0 0 1) (.imm .lit 1 []) (.int .i64 0) (.int .i64 0) .undef .undef .undef .undef .undef .undef .undef .undef .undef .undef .undef .undef .undef .undef .undef .undef .undef
end
section
variable {d : List (List Int)} {fa : List Int} {to : Nat}
theorem Good.mono {ks : List (Int × Int)} {g : Int × Int → Bool} {B B' : Nat} (h : Good d fa to ks g B) (hB : B' ≤ B) : Good d fa to ks g B' := fun q hq hq2 => h q hq (by omega)
end
section
variable {d : List (List Int)} {fa : List Int} {to : Nat}
theorem Good.step {ks ks' : List (Int × Int)} {g g' : Int × Int → Bool} {B w : Nat} (h : Good d fa to ks g B) (h' : Good d fa to ks' g' (w + 1)) (hk : Kept ks ks' g g' w) : Good d fa to ks' g' B := fun q hq hq2 => by
  by_cases c : q.2 < ((w + 1 : Nat) : Int)
  · exact h' q hq c
  · have := hk q (by omega)
    rw [this.2]
    exact h q (this.1.1 hq) hq2
end
section
variable {d : List (List Int)} {fa : List Int} {to : Nat}
abbrev waE (d : List (List Int)) (fr : Int) (to : Nat) (v9 v10 v11 v12 v13 v14 v15 v16 v17 v43 v44 v47 v48 v52 v53 v97 v98 : HV) : Env := env23 (.imm .arg 1 (d.map encR)) (.int .i64 fr) (.int .i64 (to : Int)) (.ptr 0 0 0 1) (.ptr 1 0 0 1) (.imm .lit 1 []) (.int .i64 0) (.int .i64 0) v9 v10 v11 v12 v13 v14 v15 v16 v17 v43 v44 v47 v48 v52 v53 v97 v98
end
section
variable {d : List (List Int)} {fa : List Int} {to : Nat}
abbrev WH (d : List (List Int)) (to : Nat) (A : List Int) : Heap := [.arr 1 [.imm .arg 1 (d.map encR)] true 0, .arr 1 [.int .i64 (to : Int)] true 0, bI A, .arr 1 [.sl 2 0 d.length none d.length 1] true 5, .arr 1 [] true 0]
end
section
variable {d : List (List Int)} {fa : List Int} {to : Nat}
theorem wh0 (A : List Int) : loadV Try.prog (WH d to A) 22 (.ptr 0 0 0 1) = some (.imm .arg 1 (d.map encR)) := load_elem (b := 0) rfl rfl rfl rfl a22 i22
end
section
variable {d : List (List Int)} {fa : List Int} {to : Nat}
theorem wh3 (A : List Int) : loadV Try.prog (WH d to A) 23 (.ptr 3 0 0 1) = some (.sl 2 0 d.length none d.length 1) := load_elem (b := 3) rfl rfl rfl rfl a23 i23
end
section
variable {d : List (List Int)} {fa : List Int} {to : Nat}
theorem wh2 {A : List Int} (hA : A.length = d.length) {v : Nat} (hv : v < d.length) : loadV Try.prog (WH d to A) 3 (.ptr 2 v 0 d.length) = some (.int .i64 (A.getD v 0)) := by
  rw [← hA]
  exact load_out (k := 2) rfl (by omega)
end
section
variable {d : List (List Int)} {fa : List Int} {to : Nat}
theorem whs {A : List Int} (hA : A.length = d.length) {v : Nat} (hv : v < d.length) (x : Int) : storeV Try.prog (WH d to A) 3 (.ptr 2 v 0 d.length) (.int .i64 x) = some (WH d to (A.set v x)) := by
  have := store_out (k := 2) (H := WH d to A) (o := A) rfl (y := v) (by omega) x
  rw [hA] at this
  exact this
end
section
variable {d : List (List Int)} {fa : List Int} {to : Nat}
theorem wl_k (h : okD d) {fr : Int} {i j : Nat} (hj : j < d.length) : ∀ m k (A : List Int), k + m = d.length → BdA d.length A →
    RunsTo Try.prog polK 23 (sub [1, 1, 1, 0, 1, 0, 0, 1, 1, 0, 0, 1, 0, 0, 1, 1, 0, 0, 1, 1, 0] B23) (waE d fr to (.ptr 3 0 0 1) (.int .i64 (j : Int)) .undef .undef .undef .undef .undef .undef .undef (.int .i64 (d.length : Int)) (.int .i64 (i : Int)) (.int .i64 (d.length : Int)) (.int .i64 (j : Int)) (.int .i64 (d.length : Int)) (.int .i64 (k : Int)) .undef .undef) (WH d to A) (.exit 4) (polK.keys 23)
      (waE d fr to (.ptr 3 0 0 1) (.int .i64 (j : Int)) .undef .undef .undef .undef .undef .undef .undef (.int .i64 (d.length : Int)) (.int .i64 (i : Int)) (.int .i64 (d.length : Int)) (.int .i64 (j : Int)) (.int .i64 (d.length : Int)) (.int .i64 (d.length : Int)) .undef .undef) (WH d to ((rowQ j m k).foldl (rl d) A)) := by
  intro m
  induction m with
  | zero =>
    intro k A hk hA
    have : k = d.length := by omega
    subst this
    exact RunsTo.loop_out (wa_l_1 0 (d.map encR) [] d.length fr to (WH d to A) i j d.length (by omega)) (by simp) (by kernel_rfl) (by kernel_rfl)
  | succ m ih =>
    intro k A hk hA
    have b1 := hA.2 k (by omega)
    have b2 := h.at hj (j := k) (by omega)
    have hw : IntKind.i64.wrap (at2 d j k + A.getD k 0) = at2 d j k + A.getD k 0 := wrap_id (by omega) (by omega)
    have s := wa_l_0 0 (d.map encR) [] d.length fr to (WH d to A) i j k _ _ _ _ _ (by omega) (wh3 A) (wh3 A) (ixF hj) (wh2 hA.1 hj) (wh0 A) (g22' hj) (g23' h hj (by omega)) (wh3 A) (ixF (by omega)) (wh2 hA.1 (by omega)) (ixF hj) (whs hA.1 hj _)
    rw [wrap_succ (by have := h.1; omega), hw] at s
    have e : A.set j (min (A.getD j 0) (at2 d j k + A.getD k 0)) = rl d A (k, j) := by
      unfold rl
      show _ = A.set j (min (A.getD j 0) (A.getD k 0 + at2 d k j))
      rw [(h.2.2 j hj k (by omega)).2.1, Int.add_comm]
    rw [e] at s
    rw [rowQ, List.foldl_cons]
    exact RunsTo.loop s (by kernel_rfl) rfl (ih (k + 1) _ (by omega) (hA.rl h (by show k < d.length; omega) hj)) rfl (by kernel_rfl) (by kernel_rfl)
end
section
variable {d : List (List Int)} {fa : List Int} {to : Nat}
theorem wl_j (h : okD d) {fr : Int} {i : Nat} : ∀ m j (A : List Int), j + m = d.length → BdA d.length A →
    RunsTo Try.prog polK 23 (sub [1, 1, 1, 0, 1, 0, 0, 1, 1, 0, 0, 1, 0] B23) (waE d fr to (.ptr 3 0 0 1) .undef .undef .undef .undef .undef .undef .undef .undef (.int .i64 (d.length : Int)) (.int .i64 (i : Int)) (.int .i64 (d.length : Int)) (.int .i64 (j : Int)) .undef .undef .undef .undef) (WH d to A) (.exit 2) (polK.keys 23)
      (waE d fr to (.ptr 3 0 0 1) .undef .undef .undef .undef .undef .undef .undef .undef (.int .i64 (d.length : Int)) (.int .i64 (i : Int)) (.int .i64 (d.length : Int)) (.int .i64 (d.length : Int)) .undef .undef .undef .undef) (WH d to ((allQ d.length m j).foldl (rl d) A)) := by
  intro m
  induction m with
  | zero =>
    intro j A hj hA
    have : j = d.length := by omega
    subst this
    have s := wa_h_1 0 (d.map encR) [] d.length fr to (WH d to A) i d.length (by omega)
    have s2 := wa_if_0 0 (d.map encR) [] d.length fr to (WH d to A) i d.length
    exact RunsTo.loop_out (RunsTo.seq s (RunsTo.seq_out s2 (by simp) (c := sub [1, 1, 1, 0, 1, 0, 0, 1, 1, 0, 0, 1, 0, 0, 1] B23) (b := sub [1, 1, 1, 0, 1, 0, 0, 1, 1, 0, 0, 1, 0, 0, 1, 1] B23) (by kernel_rfl)) (c := sub [1, 1, 1, 0, 1, 0, 0, 1, 1, 0, 0, 1, 0, 0] B23) (by kernel_rfl) (by kernel_rfl)) (by simp) (by kernel_rfl) (by kernel_rfl)
  | succ m ih =>
    intro j A hj hA
    have s := wa_h_0 0 (d.map encR) [] d.length fr to (WH d to A) i j (by omega)
    have s2 := wa_it_0 0 (d.map encR) [] d.length fr to (WH d to A) i j
    have s3 := wa_j_0 0 (d.map encR) [] d.length fr to (WH d to A) i j
    have s4 := wa_k_0 0 (d.map encR) [] d.length fr to (WH d to A) i j (wh0 A)
    rw [List.length_map] at s4
    have r := wl_k (to := to) h (fr := fr) (i := i) (j := j) (by omega) d.length 0 A (by omega) hA
    have r' := RunsTo.loop_in (e0 := waE d fr to (.ptr 3 0 0 1) (.int .i64 (j : Int)) .undef .undef .undef .undef .undef .undef .undef (.int .i64 (d.length : Int)) (.int .i64 (i : Int)) (.int .i64 (d.length : Int)) (.int .i64 (j : Int)) (.int .i64 (d.length : Int)) (.int .i64 0) .undef .undef) r (b := sub [1, 1, 1, 0, 1, 0, 0, 1, 1, 0, 0, 1, 0, 0, 1, 1, 0, 0, 1, 1, 0, 0] B23) (by kernel_rfl) (by kernel_rfl) (by kernel_rfl)
    have n1 := wa_m_0 0 (d.map encR) [] d.length fr to (WH d to ((rowQ j d.length 0).foldl (rl d) A)) i j d.length
    rw [wrap_succ (by have := h.1; omega)] at n1
    have t1 := RunsTo.seq s4 (RunsTo.block_exit (c := sub [1, 1, 1, 0, 1, 0, 0, 1, 1, 0, 0, 1, 0, 0, 1, 1, 0, 0, 1, 1] B23) r' (by kernel_rfl)) (c := sub [1, 1, 1, 0, 1, 0, 0, 1, 1, 0, 0, 1, 0, 0, 1, 1, 0, 0, 1] B23) (by kernel_rfl) (by kernel_rfl)
    have t2 := RunsTo.seq s3 t1 (c := sub [1, 1, 1, 0, 1, 0, 0, 1, 1, 0, 0, 1, 0, 0, 1, 1, 0, 0] B23) (by kernel_rfl) (by kernel_rfl)
    have t3 := RunsTo.block_normal (i := 3) (c := sub [1, 1, 1, 0, 1, 0, 0, 1, 1, 0, 0, 1, 0, 0, 1, 1, 0] B23) t2 (by kernel_rfl)
    have t4 := RunsTo.seq t3 n1 (c := sub [1, 1, 1, 0, 1, 0, 0, 1, 1, 0, 0, 1, 0, 0, 1, 1] B23) (by kernel_rfl) (by kernel_rfl)
    have t5 := RunsTo.seq s2 t4 (c := sub [1, 1, 1, 0, 1, 0, 0, 1, 1, 0, 0, 1, 0, 0, 1] B23) (by kernel_rfl) (by kernel_rfl)
    have t6 := RunsTo.seq s t5 (c := sub [1, 1, 1, 0, 1, 0, 0, 1, 1, 0, 0, 1, 0, 0] B23) (by kernel_rfl) (by kernel_rfl)
    rw [allQ, List.foldl_append]
    exact RunsTo.loop t6 (by kernel_rfl) rfl (ih (j + 1) _ (by omega) (BdA.fold h _ _ hA (rowQ_in (by omega) d.length 0 (by omega)))) rfl (by kernel_rfl) (by kernel_rfl)
end
section
variable {d : List (List Int)} {fa : List Int} {to : Nat}
theorem wl_i (h : okD d) {fr : Int} : ∀ m i (A : List Int), i + m = d.length → BdA d.length A →
    RunsTo Try.prog polK 23 (sub [1, 1, 1, 0, 1, 0] B23) (waE d fr to (.ptr 3 0 0 1) .undef .undef .undef .undef .undef .undef .undef .undef (.int .i64 (d.length : Int)) (.int .i64 (i : Int)) .undef .undef .undef .undef .undef .undef) (WH d to A) (.exit 0) (polK.keys 23)
      (waE d fr to (.ptr 3 0 0 1) .undef .undef .undef .undef .undef .undef .undef .undef (.int .i64 (d.length : Int)) (.int .i64 (d.length : Int)) .undef .undef .undef .undef .undef .undef) (WH d to (rnds d (allQ d.length d.length 0) m A)) := by
  intro m
  induction m with
  | zero =>
    intro i A hi hA
    have : i = d.length := by omega
    subst this
    have s := wa_e_1 0 (d.map encR) [] d.length fr to (WH d to A) d.length (by omega)
    have s2 := wa_ff_0 0 (d.map encR) [] d.length fr to (WH d to A) d.length
    exact RunsTo.loop_out (RunsTo.seq s (RunsTo.seq_out s2 (by simp) (c := sub [1, 1, 1, 0, 1, 0, 0, 1] B23) (b := sub [1, 1, 1, 0, 1, 0, 0, 1, 1] B23) (by kernel_rfl)) (c := sub [1, 1, 1, 0, 1, 0, 0] B23) (by kernel_rfl) (by kernel_rfl)) (by simp) (by kernel_rfl) (by kernel_rfl)
  | succ m ih =>
    intro i A hi hA
    have s := wa_e_0 0 (d.map encR) [] d.length fr to (WH d to A) i (by omega)
    have s2 := wa_ft_0 0 (d.map encR) [] d.length fr to (WH d to A) i
    have s3 := wa_g_0 0 (d.map encR) [] d.length fr to (WH d to A) i (wh0 A)
    rw [List.length_map] at s3
    have r := wl_j (to := to) h (fr := fr) (i := i) d.length 0 A (by omega) hA
    have n1 := wa_n_0 0 (d.map encR) [] d.length fr to (WH d to ((allQ d.length d.length 0).foldl (rl d) A)) i d.length
    rw [wrap_succ (by have := h.1; omega)] at n1
    have t1 := RunsTo.seq s3 (RunsTo.block_exit (c := sub [1, 1, 1, 0, 1, 0, 0, 1, 1, 0, 0, 1] B23) r (by kernel_rfl)) (c := sub [1, 1, 1, 0, 1, 0, 0, 1, 1, 0, 0] B23) (by kernel_rfl) (by kernel_rfl)
    have t3 := RunsTo.block_normal (i := 1) (c := sub [1, 1, 1, 0, 1, 0, 0, 1, 1, 0] B23) t1 (by kernel_rfl)
    have t4 := RunsTo.seq t3 n1 (c := sub [1, 1, 1, 0, 1, 0, 0, 1, 1] B23) (by kernel_rfl) (by kernel_rfl)
    have t5 := RunsTo.seq s2 t4 (c := sub [1, 1, 1, 0, 1, 0, 0, 1] B23) (by kernel_rfl) (by kernel_rfl)
    have t6 := RunsTo.seq s t5 (c := sub [1, 1, 1, 0, 1, 0, 0] B23) (by kernel_rfl) (by kernel_rfl)
    rw [rnds]
    exact RunsTo.loop t6 (by kernel_rfl) rfl (ih (i + 1) _ (by omega) (BdA.fold h _ _ hA (allQ_in d.length 0 (by omega)))) rfl (by kernel_rfl) (by kernel_rfl)
end
section
variable {d : List (List Int)} {fa : List Int} {to : Nat}
abbrev tvW (m : Nat) : HV := .sl 11 0 m none m 1
end
section
variable {d : List (List Int)} {fa : List Int} {to : Nat}
structure BW (d : List (List Int)) (fa : List Int) (to v w : Nat) (o : List Int) (tv : HV) (H : Heap) : Prop where
  mem : ∃ ks g, WM d fa to ks g H ∧ Good d fa to ks g (w + 1)
  box : H[8]? = some (boxK v w)
  st : (tv = .sl 9 0 1 (some 1) 1 1 ∧ o.length = 1 ∧ H.length = 10 ∧ H[9]? = some (bI o)) ∨ (tv = tvW o.length ∧ H.length = 12 ∧ H[11]? = some (bI o))
end
section
variable {d : List (List Int)} {fa : List Int} {to : Nat}
theorem BW.len {v w : Nat} {o : List Int} {tv : HV} {H : Heap} (h : BW d fa to v w o tv H) : 10 ≤ H.length ∧ H.length ≤ 12 ∧ bnd tv ≤ H.length := by
  rcases h.st with ⟨h1, _, h3, _⟩ | ⟨h1, h3, _⟩ <;> rw [h1, h3] <;> simp [bnd]
end
section
variable {d : List (List Int)} {fa : List Int} {to : Nat}
theorem BW.app {v w : Nat} {o : List Int} {tv : HV} {H H3 : Heap} {ks : List (Int × Int)} {g : Int × Int → Bool} (h : BW d fa to v w o tv H) (hM : WM d fa to ks g H3) (hl : H3.length = H.length + 1) (hs : ∀ k, 9 ≤ k → k < H.length → H3[k]? = H[k]?) (ho : o.length ≤ 500) (x : Int) :
    ∃ H4, appV H3 1 8 tv [.int .i64 x] = some (tvW (o.length + 1), H4) ∧ WM d fa to ks g H4 ∧ H4[8]? = H3[8]? ∧ H4[11]? = some (bI (o ++ [x])) ∧ 12 ≤ H4.length := by
  rcases h.st with ⟨h1, h2, h3, h4⟩ | ⟨h1, h3, h4⟩
  · have e := hs 9 (by omega) (by omega)
    rw [h4] at e
    obtain ⟨y, rfl⟩ : ∃ y, o = [y] := by
      match o, h2 with
      | [y], _ => exact ⟨y, rfl⟩
    subst h1
    refine ⟨H3 ++ [bI ([y] ++ [x])], ?_, hM.app (same_bI _) (Nat.zero_le _), List.getElem?_append_left (by omega), ?_, by simp; omega⟩
    · have e4 : H3.length = 11 := by omega
      simp only [appV, e, e4]
      simp [roomMax, bnd, bndL, encI]
    · rw [List.getElem?_append_right (by omega)]; simp [hl, h3]
  · have e := hs 11 (by omega) (by omega)
    rw [h4] at e
    subst h1
    have ap := app_ints (xs := [x]) e (by simp; omega) (by simp)
    rw [show (o ++ [x]).length = o.length + 1 by simp] at ap
    exact ⟨_, ap, hM.set (by omega) (same_bI _) (Nat.zero_le _), List.getElem?_set_ne (by omega), List.getElem?_set_self (by omega), by simp; omega⟩
end
section
variable {d : List (List Int)} {fa : List Int} {to : Nat}
abbrev wvE (d : List (List Int)) (fr : Int) (to : Nat) (tv y16 y17 y97 y98 : HV) : Env := waE d fr to (.ptr 3 0 0 1) .undef .undef .undef (.ptr 7 0 0 1) (.ptr 8 0 0 1) tv y16 y17 .undef .undef .undef .undef .undef .undef y97 y98
end
section
variable {d : List (List Int)} {fa : List Int} {to : Nat}
theorem wv_in (hd : okD d) (hf : BdA d.length fa) {fr : Int} {v w : Nat} {o : List Int} {tv : HV} (hv : v < d.length) (hw : w < 2 ^ d.length) (ho : o.length ≤ 500) : ∀ k i H u, i + k = d.length → BW d fa to v w o tv H → pck (okW d fa to v w) k i = some u →
    ∃ y16 y17 y97 y98 H', RunsTo Try.prog polK 23 (sub [1, 1, 1, 1, 1, 1, 1, 1, 1, 0, 0, 0, 1, 0, 1, 0] B23) (wvE d fr to tv .undef .undef (.int .i64 (d.length : Int)) (.int .i64 (i : Int))) H
      (.exit 8) (polK.keys 23) (wvE d fr to (tvW (o.length + 1)) y16 y17 y97 y98) H' ∧ (∃ ks g, WM d fa to ks g H' ∧ Good d fa to ks g (w + 1)) ∧ H'[8]? = some (boxK u (wo w u : Nat)) ∧ H'[11]? = some (bI (o ++ [(u : Int)])) ∧ 12 ≤ H'.length := by
  have hp := pow_le hd.1.2
  have hn := hd.1.2
  intro k
  induction k with
  | zero => intro i H u _ _ h; cases h
  | succ k ih =>
    intro i H u hi hB hq
    rw [pck] at hq
    obtain ⟨ks, g, hM, hG⟩ := hB.mem
    have bl := bo_shl (v := i) (by omega)
    have bn := bo_andn (L := w) (v := i) (by omega) (by omega)
    have hl := hB.len
    have g4 : some (newV (.agg [.int .i64 0, .int .i64 0]) H) = some (.ptr H.length 0 0 1, H ++ [boxK 0 0]) := by
      rw [show (HV.agg [.int .i64 0, .int .i64 0]) = encP ((0 : Int), (0 : Int)) from rfl, new_k]
    have gn0 : (H ++ [boxK 0 0])[H.length]? = some (boxK 0 0) := by rw [List.getElem?_append_right (Nat.le_refl _)]; simp
    have g5 : storeV Try.prog (H ++ [boxK 0 0]) 77 (.ptr H.length 0 0 1) (.agg [.int .i64 (i : Int), .int .i64 ((wo w i : Nat) : Int)]) = some (H ++ [boxK i (wo w i : Nat)]) := by
      have := st_k (x := (i : Int)) (y := ((wo w i : Nat) : Int)) gn0
      rw [List.set_append_right _ _ (Nat.le_refl _), Nat.sub_self] at this
      exact this
    have hM0 : WM d fa to ks g (H ++ [boxK 0 0]) := hM.app (same_box _ _) (Nat.zero_le _)
    have l0 : loadV Try.prog (H ++ [boxK 0 0]) 3 (.ptr 8 0 1 1) = some (.int .i64 (w : Int)) := ld_k1 (by rw [List.getElem?_append_left (by omega)]; exact hB.box)
    have gS : (recL ((loadV Try.prog H 3 (.ptr 8 0 1 1)).map (fun v => (v, (H : Heap)))) ((loadV Try.prog (H ++ [boxK 0 0]) 3 (.ptr 8 0 1 1)).map (fun v => (v, ((H ++ [boxK 0 0]) : Heap)))) H (H ++ [boxK 0 0]) && true) = true := by
      rw [ld_k1 hB.box, l0]
      simp only [Option.map, recL, hM.rf, hM0.rf]
      simp [same]
    have hM1 : WM d fa to ks g (H ++ [boxK i (wo w i : Nat)]) := hM.app (same_box _ _) (Nat.zero_le _)
    have low : ∀ k, k < H.length → (H ++ [boxK (i : Int) (wo w i : Nat)])[k]? = H[k]? := fun k hk => List.getElem?_append_left hk
    have x1 : (H ++ [boxK i (wo w i : Nat)])[8]? = some (boxK v w) := by rw [low 8 (by omega)]; exact hB.box
    have x3 : (H ++ [boxK (i : Int) (wo w i : Nat)])[H.length]? = some (boxK i (wo w i : Nat)) := by rw [List.getElem?_append_right (Nat.le_refl _)]; simp
    have ll : (H ++ [boxK (i : Int) (wo w i : Nat)]).length = H.length + 1 := by simp
    have cut : ∀ (H' : Heap) ks' g', WM d fa to ks' g' H' → gc H.length (bndE (wvE d fr to tv .undef .undef (.int .i64 (d.length : Int)) (.int .i64 ((i + 1 : Nat) : Int)))) H' = H'.take H.length := fun H' ks' g' hM' => by
      rw [hM'.gc (by omega)]
      congr 1
      simp only [bndE, bnd, bndL]
      omega
    by_cases c : w.testBit i = true
    · have hne : ¬ ((w : Int) = ((wo w i : Nat) : Int)) := by have := wo_lt c; omega
      have hwl := wo_lt c
      have b1 := hd.at hv (j := i) (by omega)
      have b2 := hf.2 i (by omega)
      have hwr : IntKind.i64.wrap (at2 d v i + fa.getD i 0) = at2 d v i + fa.getD i 0 := wrap_id (by omega) (by omega)
      by_cases c2 : at2 d v i + fa.getD i 0 = fa.getD v 0
      · have hti : tight d fa v i = true := decide_eq_true c2
        obtain ⟨ks2, g2, H2, hcl, hM2, hG2, hK2, hF⟩ := ld_call hd hf w i (wo w i) (wo_le _ _) (by omega) (by omega) ks g _ hM1 (hG.mono (by omega))
        obtain ⟨N, hN⟩ := CallsTo.from hcl
        have hG3 := hG.step hG2 hK2
        have y1 : H2[8]? = some (boxK v w) := by rw [hF.same _ (by omega)]; exact x1
        have y3 : H2[H.length]? = some (boxK i (wo w i : Nat)) := by rw [hF.same _ (by omega)]; exact x3
        have l2 := lt_of_get y1
        cases hb : ldT d fa to i (wo w i) with
        | true =>
          rw [hb] at hN
          have hok : okW d fa to v w i = true := by rw [okW, c, hti, hb]; rfl
          rw [if_pos hok] at hq
          cases hq
          have s3 := st_k (x := (i : Int)) (y := ((wo w i : Nat) : Int)) y1
          obtain ⟨H4, ap, hM4, z1, z4, z5⟩ := hB.app (H3 := H2.set 8 (boxK i (wo w i : Nat))) (hM2.set (by omega) (same_box _ _) (Nat.zero_le _)) (by simp [hF.len]) (fun k h2 hk => by rw [List.getElem?_set_ne (by omega), hF.same _ (by omega), low _ hk]) ho (i : Int)
          have s := wa_v_1 N (d.map encR) [] d.length fr to H tv v w i H.length ((wo w i : Nat) : Int) _ _ _ _ _ _ _ _ H2 _ _ _ (by omega) (ld_k1 hB.box) bl bn g4 g5 gS (ld_k1 x1) (ld_k1 x3) hne hM1.l0 (ld_k0 x1) (g22' hv) (g23' hd hv (by omega)) hM1.l3 (ixF (by omega)) (hM1.l2 hf.1 (by omega)) hM1.l3 (ld_k0 x1) (ixF hv) (hM1.l2 hf.1 hv) (by rw [hwr]; exact c2) hM1.l6 (ld_k x3) hN (ld_k y3) s3 ap
          refine ⟨_, _, _, _, _, RunsTo.loop_out s (by simp) (by kernel_rfl) (by kernel_rfl), ⟨ks2, g2, hM4, hG3⟩, ?_, z4, z5⟩
          rw [z1, List.getElem?_set_self (by omega)]
        | false =>
          rw [hb] at hN
          have hok : ¬ okW d fa to v w i = true := by rw [okW, hb]; simp
          rw [if_neg hok] at hq
          have s := wa_v_2 N (d.map encR) [] d.length fr to H tv v w i H.length ((wo w i : Nat) : Int) _ _ _ _ _ _ _ _ H2 (by omega) (ld_k1 hB.box) bl bn g4 g5 gS (ld_k1 x1) (ld_k1 x3) hne hM1.l0 (ld_k0 x1) (g22' hv) (g23' hd hv (by omega)) hM1.l3 (ixF (by omega)) (hM1.l2 hf.1 (by omega)) hM1.l3 (ld_k0 x1) (ixF hv) (hM1.l2 hf.1 hv) (by rw [hwr]; exact c2) hM1.l6 (ld_k x3) hN
          rw [wrap_succ (by omega)] at s
          have tl : (H2.take H.length).length = H.length := by rw [List.length_take, hF.len, ll]; omega
          have tk : ∀ k, k ≠ 5 → k < H.length → (H2.take H.length)[k]? = H[k]? := fun k h0 hk => by rw [List.getElem?_take, if_pos hk, hF.same _ h0, low _ hk]
          have hB2 : BW d fa to v w o tv (H2.take H.length) := by
            refine ⟨⟨ks2, g2, hM2.take (by omega), hG3⟩, by rw [tk 8 (by omega) (by omega)]; exact hB.box, ?_⟩
            rcases hB.st with ⟨h1, h2, h3, h4⟩ | ⟨h1, h3, h4⟩
            · exact .inl ⟨h1, h2, tl.trans h3, by rw [tk 9 (by omega) (by omega)]; exact h4⟩
            · exact .inr ⟨h1, tl.trans h3, by rw [tk 11 (by omega) (by omega)]; exact h4⟩
          obtain ⟨y16, y17, y97, y98, H', r, r2⟩ := ih (i + 1) _ u (by omega) hB2 hq
          exact ⟨y16, y17, y97, y98, H', RunsTo.loop s (by kernel_rfl) (cut _ _ _ hM2) r rfl (by kernel_rfl) (by kernel_rfl), r2⟩
      · have hti : tight d fa v i = false := decide_eq_false c2
        have hok : ¬ okW d fa to v w i = true := by rw [okW, hti]; simp
        rw [if_neg hok] at hq
        have s := wa_v_3 0 (d.map encR) [] d.length fr to H tv v w i H.length ((wo w i : Nat) : Int) _ _ _ _ _ _ _ _ (by omega) (ld_k1 hB.box) bl bn g4 g5 gS (ld_k1 x1) (ld_k1 x3) hne hM1.l0 (ld_k0 x1) (g22' hv) (g23' hd hv (by omega)) hM1.l3 (ixF (by omega)) (hM1.l2 hf.1 (by omega)) hM1.l3 (ld_k0 x1) (ixF hv) (hM1.l2 hf.1 hv) (by rw [hwr]; exact c2)
        rw [wrap_succ (by omega)] at s
        have ec := cut _ _ _ hM1
        have et : (H ++ [boxK (i : Int) (wo w i : Nat)]).take H.length = H := by rw [List.take_append_of_le_length (Nat.le_refl _), List.take_of_length_le (Nat.le_refl _)]
        rw [et] at ec
        obtain ⟨y16, y17, y97, y98, H', r, r2⟩ := ih (i + 1) _ u (by omega) hB hq
        exact ⟨y16, y17, y97, y98, H', RunsTo.loop s (by kernel_rfl) ec r rfl (by kernel_rfl) (by kernel_rfl), r2⟩
    · have hok : ¬ okW d fa to v w i = true := by rw [okW, nb_false c]; simp
      rw [if_neg hok] at hq
      have e : wo w i = w := by unfold wo; rw [if_neg c]
      rw [e] at bn g5 hM1 x1 x3
      have s := wa_v_0 0 (d.map encR) [] d.length fr to H tv v w i H.length (w : Int) _ _ _ _ (by omega) (ld_k1 hB.box) bl bn g4 g5 gS (ld_k1 x1) (ld_k1 x3) rfl
      rw [wrap_succ (by omega)] at s
      have ec := cut _ _ _ hM1
      have et : (H ++ [boxK (i : Int) (w : Int)]).take H.length = H := by rw [List.take_append_of_le_length (Nat.le_refl _), List.take_of_length_le (Nat.le_refl _)]
      rw [et] at ec
      obtain ⟨y16, y17, y97, y98, H', r, r2⟩ := ih (i + 1) _ u (by omega) hB hq
      exact ⟨y16, y17, y97, y98, H', RunsTo.loop s (by kernel_rfl) ec r rfl (by kernel_rfl) (by kernel_rfl), r2⟩
end
section
variable {d : List (List Int)} {fa : List Int} {to : Nat}
theorem pckW_ok {v w : Nat} (hvt : v ≠ to) (hl : ldT d fa to v w = true) : ∃ u, pck (okW d fa to v w) d.length 0 = some u ∧ u < d.length ∧ w.testBit u = true ∧ tight d fa v u = true ∧ ldT d fa to u (wo w u) = true := by
  rw [ldT_step, decide_eq_false hvt, Bool.false_or, anyF_iff] at hl
  obtain ⟨u, h1, h2⟩ := hl
  cases hp : pck (okW d fa to v w) d.length 0 with
  | none =>
    have := pck_none _ _ hp u h1.1 h1.2
    rw [okW] at this
    rw [this] at h2
    cases h2
  | some x =>
    obtain ⟨h3, h4, _⟩ := pck_some _ _ hp
    simp only [okW, Bool.and_eq_true] at h4
    exact ⟨x, rfl, by omega, h4.1.1, h4.1.2, h4.2⟩
end
section
variable {d : List (List Int)} {fa : List Int} {to : Nat}
theorem wv_loop (hd : okD d) (hf : BdA d.length fa) {fr : Int} : ∀ (k v w : Nat) (o : List Int) (tv : HV) (H : Heap), w ≤ k → v < d.length → w < 2 ^ d.length → ldT d fa to v w = true → BW d fa to v w o tv H → o.length + (wyF d fa to (k + 1) v w).length ≤ 500 →
    ∃ tb cap H', RunsTo Try.prog polK 23 (sub [1, 1, 1, 1, 1, 1, 1, 1, 1, 0, 0] B23) (wvE d fr to tv .undef .undef .undef .undef) H (.exit 6) (polK.keys 23) (wvE d fr to (.sl tb 0 (o ++ wyF d fa to (k + 1) v w).length cap (o ++ wyF d fa to (k + 1) v w).length 1) .undef .undef .undef .undef) H' ∧ H'[tb]? = some (bI (o ++ wyF d fa to (k + 1) v w)) ∧ ∃ ks g, WM d fa to ks g H' := by
  have h0 : ∀ (w : Nat) (o : List Int) (tv : HV) (H : Heap), BW d fa to to w o tv H → ∃ tb cap H', RunsTo Try.prog polK 23 (sub [1, 1, 1, 1, 1, 1, 1, 1, 1, 0, 0] B23) (wvE d fr to tv .undef .undef .undef .undef) H (.exit 6) (polK.keys 23) (wvE d fr to (.sl tb 0 (o ++ []).length cap (o ++ []).length 1) .undef .undef .undef .undef) H' ∧ H'[tb]? = some (bI (o ++ [])) ∧ ∃ ks g, WM d fa to ks g H' := fun w o tv H hB => by
    rw [List.append_nil]
    obtain ⟨ks, g, hM, hG⟩ := hB.mem
    have f := wa_t_0 0 (d.map encR) [] d.length fr to H tv to w (ld_k0 hB.box) hM.l1 rfl
    have r := RunsTo.loop_out (RunsTo.seq_out f (by simp) (c := sub [1, 1, 1, 1, 1, 1, 1, 1, 1, 0, 0, 0] B23) (b := sub [1, 1, 1, 1, 1, 1, 1, 1, 1, 0, 0, 0, 1] B23) (by kernel_rfl)) (by simp) (c := sub [1, 1, 1, 1, 1, 1, 1, 1, 1, 0, 0] B23) (by kernel_rfl) (by kernel_rfl)
    rcases hB.st with ⟨h1, h2, h3, h4⟩ | ⟨h1, h3, h4⟩
    · subst h1
      rw [h2]
      exact ⟨9, some 1, H, r, h4, ks, g, hM⟩
    · subst h1
      exact ⟨11, none, H, r, h4, ks, g, hM⟩
  intro k
  induction k with
  | zero =>
    intro v w o tv H hk hv _ hl hB _
    have : w = 0 := by omega
    subst this
    have hvt : v = to := by
      unfold ldT ldF at hl
      exact of_decide_eq_true hl
    subst hvt
    rw [wyF, if_pos rfl]
    exact h0 0 o tv H hB
  | succ k ih =>
    intro v w o tv H hk hv hw hl hB hlen
    by_cases cv : v = to
    · subst cv
      rw [wyF, if_pos rfl]
      exact h0 w o tv H hB
    · obtain ⟨u, p1, p2, p3, p4, p5⟩ := pckW_ok cv hl
      have eg : wyF d fa to (k + 1 + 1) v w = (u : Int) :: wyF d fa to (k + 1) u (wo w u) := by rw [wyF, if_neg cv, p1]
      rw [eg] at hlen ⊢
      rw [List.length_cons] at hlen
      obtain ⟨ks, g, hM, hG⟩ := hB.mem
      have f := wa_t_1 0 (d.map encR) [] d.length fr to H tv v w (ld_k0 hB.box) hM.l1 (by omega)
      have gu := wa_u_0 0 (d.map encR) [] d.length fr to H tv v w hM.l0
      rw [List.length_map] at gu
      obtain ⟨y16, y17, y97, y98, H2, r, ⟨ks1, g1, r1, r1'⟩, r2, r3, r4⟩ := wv_in (fr := fr) hd hf hv hw (by omega) d.length 0 H u (by omega) hB p1
      have t1 := RunsTo.seq gu (RunsTo.block_exit (c := sub [1, 1, 1, 1, 1, 1, 1, 1, 1, 0, 0, 0, 1, 0, 1] B23) r (by kernel_rfl)) (c := sub [1, 1, 1, 1, 1, 1, 1, 1, 1, 0, 0, 0, 1, 0] B23) (by kernel_rfl) (by kernel_rfl)
      have t3 := RunsTo.block_normal (i := 7) (c := sub [1, 1, 1, 1, 1, 1, 1, 1, 1, 0, 0, 0, 1] B23) t1 (by kernel_rfl)
      have t4 := RunsTo.seq f t3 (c := sub [1, 1, 1, 1, 1, 1, 1, 1, 1, 0, 0, 0] B23) (by kernel_rfl) (by kernel_rfl)
      have hwl := wo_lt p3
      have hB2 : BW d fa to u (wo w u) (o ++ [(u : Int)]) (tvW (o.length + 1)) (H2.take 12) := by
        refine ⟨⟨ks1, g1, r1.take (by omega), r1'.mono (by omega)⟩, ?_, .inr ⟨by simp, by rw [List.length_take]; omega, ?_⟩⟩
        · rw [List.getElem?_take, if_pos (by omega)]; exact r2
        · rw [List.getElem?_take, if_pos (by omega)]; exact r3
      have ec : gc H.length (bndE (wvE d fr to (tvW (o.length + 1)) .undef .undef .undef .undef)) H2 = H2.take 12 := by
        have := hB.len
        rw [r1.gc (by omega)]
        congr 1
        simp only [bndE, bnd, bndL]
        omega
      obtain ⟨tb, cap, H', q1, q2, q3⟩ := ih u (wo w u) (o ++ [(u : Int)]) _ (H2.take 12) (by omega) p2 (by omega) p5 hB2 (by simp; omega)
      rw [List.append_assoc] at q1 q2
      exact ⟨tb, cap, H', RunsTo.loop t4 (by kernel_rfl) ec q1 rfl (by kernel_rfl) (by kernel_rfl), q2, q3⟩
end
section
variable {d : List (List Int)} {fa : List Int} {to : Nat}
theorem lit_one (x : Int) (H : Heap) : litV Try.prog true true 23 1 [(0, .int .i64 x)] H = some (.sl H.length 0 1 (some 1) 1 1, H ++ [bI [x]]) := by kernel_rfl
end
section
variable {d : List (List Int)} {fa : List Int} {to : Nat}
theorem all1_lt {n : Nat} : 2 ^ n - 1 < 2 ^ n := by
  have := Nat.two_pow_pos n
  omega
end
theorem way_ok : PrimOk Try.prog 23 way23 := by
  refine primOk_pure (pol := polK) (fn := Try.f23) (cd := B23) follows_mixed soundK (by kernel_rfl) (by kernel_rfl) (fnok polK.prim _ _ (by kernel_rfl)) (by kernel_rfl) ?_
  intro args res h
  obtain ⟨d, a0, b0, rfl, hq⟩ := wayF_inv h
  clear h
  split at hq
  · rename_i hc
    have wa := wa_a_0 0 (d.map encR) a0 b0 [] [.arr 1 [.imm .arg 1 (d.map encR)] true 0] [.arr 1 [.imm .arg 1 (d.map encR)] true 0, .arr 1 [.int .i64 b0] true 0] rfl rfl
    have l0 : loadV Try.prog [.arr 1 [.imm .arg 1 (d.map encR)] true 0, .arr 1 [.int .i64 b0] true 0] 22 (.ptr 0 0 0 1) = some (.imm .arg 1 (d.map encR)) := load_elem (b := 0) rfl rfl rfl rfl a22 i22
    have l1 : loadV Try.prog [.arr 1 [.imm .arg 1 (d.map encR)] true 0, .arr 1 [.int .i64 b0] true 0] 3 (.ptr 1 0 0 1) = some (.int .i64 b0) := load_elem (b := 1) rfl rfl rfl rfl a3 i3
    have wl : IntKind.i64.wrap (((d.map encR).length : Int) - 1) = (d.length : Int) - 1 := by rw [List.length_map, wrapI64]; omega
    split at hq
    · rename_i hin
      obtain ⟨hd, ha, hb⟩ := hin
      have hn := hd.1
      have hp := pow_le hd.1.2
      obtain ⟨fr, rfl⟩ : ∃ x : Nat, a0 = (x : Int) := ⟨a0.toNat, by omega⟩
      obtain ⟨to, rfl⟩ : ∃ x : Nat, b0 = (x : Int) := ⟨b0.toNat, by omega⟩
      simp only [Int.toNat_natCast] at hq
      have hfr : fr < d.length := by omega
      have hto : to < d.length := by omega
      split at hq
      · rename_i hld
        obtain ⟨hld, hlen⟩ := hld
        cases hq
        have m1 := prim_miles (pol' := polK) (by kernel_rfl) hc.1 hc.2 [.arr 1 [.imm .arg 1 (d.map encR)] true 0, .arr 1 [.int .i64 (to : Int)] true 0] true (okB_true hd)
        have b := wa_b_0 0 (d.map encR) fr to _ _ l0 (fun kf _ => m1 kf) l0 (by rw [wl]; omega) l1 l0 (by rw [wl]; omega)
        have hrow := row_bd hd hto
        have c52 : ∀ kf, 0 ≤ kf → callN Try.prog polK (kf + 1) 52 [.imm .arg 1 ((d.getD to []).map encI)] [.arr 1 [.imm .arg 1 (d.map encR)] true 0, .arr 1 [.int .i64 (to : Int)] true 0] = some (.sl 2 0 d.length none d.length 1, [.arr 1 [.imm .arg 1 (d.map encR)] true 0, .arr 1 [.int .i64 (to : Int)] true 0, bI (d.getD to [])]) := fun kf _ => by
          rw [prim_call (pol := polK) (g := 52) (F := clone52) (by kernel_rfl) (rs := [.imm .arg 1 ((d.getD to []).map encI)]) (by simp only [mapO, arg_li]) (res := .own 1 ((d.getD to []).map encI)) (by simp only [clone52, liF, mapO_map decI_enc]; rw [if_pos (by rw [hrow.1]; omega)]), recv_ints, hrow.1]
          rfl
        have st3 : storeV Try.prog [.arr 1 [.imm .arg 1 (d.map encR)] true 0, .arr 1 [.int .i64 (to : Int)] true 0, bI (d.getD to []), .arr 1 [.sl 4 0 0 none 0 1] true 5, .arr 1 [] true 0] 23 (.ptr 3 0 0 1) (.sl 2 0 d.length none d.length 1) = some (WH d to (d.getD to [])) := by kernel_rfl
        have c := wa_c_0 0 (d.map encR) [] d.length fr to _ _ _ _ _ l0 l1 (g22' hto) c52 rfl st3
        have dd := wa_d_0 0 (d.map encR) [] d.length fr to (WH d to (d.getD to [])) (wh0 _)
        rw [List.length_map] at dd
        have r0 := wl_i (to := to) hd (fr := (fr : Int)) d.length 0 (d.getD to []) (by omega) hrow
        have r0' := RunsTo.loop_in (e0 := waE d fr to (.ptr 3 0 0 1) .undef .undef .undef .undef .undef .undef .undef .undef (.int .i64 (d.length : Int)) (.int .i64 0) .undef .undef .undef .undef .undef .undef) r0 (b := sub [1, 1, 1, 0, 1, 0, 0] B23) (by kernel_rfl) (by kernel_rfl) (by kernel_rfl)
        have hfb : BdA d.length (farL d to) := BdA.rnds hd (allQ_in d.length 0 (by omega)) d.length _ hrow
        have hfe : rnds d (allQ d.length d.length 0) d.length (d.getD to []) = farL d to := rfl
        rw [hfe] at r0'
        have o := wa_o_0 0 (d.map encR) [] d.length fr to (WH d to (farL d to)) d.length _ _ (WH d to (farL d to) ++ [.map [] [] 0, .arr 1 [.map 5] true 6]) rfl rfl (by kernel_rfl)
        have p := wa_p_0 0 (d.map encR) [] d.length fr to (WH d to (farL d to) ++ [.map [] [] 0, .arr 1 [.map 5] true 6]) d.length _ rfl
        have q := wa_q_0 0 (d.map encR) [] d.length fr to (WH d to (farL d to) ++ [.map [] [] 0, .arr 1 [.map 5] true 6] ++ [.arr 1 [.nilFunc] true 0]) d.length (WH d to (farL d to) ++ [.map [] [] 0, .arr 1 [.map 5] true 6, .arr 1 [fnK] true 8]) (by kernel_rfl)
        have hW : WM d (farL d to) to [] (fun _ => false) (WH d to (farL d to) ++ [.map [] [] 0, .arr 1 [.map 5] true 6, .arr 1 [fnK] true 8]) := by
          refine ⟨rfl, rfl, rfl, rfl, rfl, rfl, rfl, List.nodup_nil, ?_, by simp [mxs, Blk.mx]⟩
          have e1 : sameL (d.map encR) (d.map encR) = true := sameL_all fun v hv => by
            obtain ⟨k, _, rfl⟩ := List.mem_map.1 hv
            exact same_imm k
          refine sameH_cons (same_arr fun v hv => by rw [List.mem_singleton] at hv; subst hv; simp [same, e1]) (sameH_cons (same_arr fun v hv => by rw [List.mem_singleton] at hv; subst hv; simp [same]) (sameH_cons (same_bI _) (sameH_cons (same_arr fun v hv => by rw [List.mem_singleton] at hv; subst hv; simp [same]) ?_)))
          rfl
        have h2 : 1 ≤ 2 ^ d.length := Nat.two_pow_pos _
        have ew : IntKind.i64.wrap (((2 ^ d.length : Nat) : Int) - 1) = ((2 ^ d.length - 1 : Nat) : Int) := by
          generalize 2 ^ d.length = x at hp h2
          rw [wrap_id (by omega) (by omega)]; omega
        have bl := bo_shl (v := d.length) (by omega)
        have bl2 := bo_shl (v := fr) (by omega)
        have bn := bo_andn (L := 2 ^ d.length - 1) (v := fr) (by omega) (by omega)
        generalize hHq : WH d to (farL d to) ++ [.map [] [] 0, .arr 1 [.map 5] true 6, .arr 1 [fnK] true 8] = Hq at q hW
        have hql : Hq.length = 8 := by rw [← hHq]; rfl
        have hWb : WM d (farL d to) to [] (fun _ => false) (Hq ++ [boxK 0 0]) := hW.app (same_box _ _) (Nat.zero_le _)
        have gn0 : (Hq ++ [boxK 0 0])[8]? = some (boxK 0 0) := by rw [List.getElem?_append_right (by omega), hql]; rfl
        have st8 := st_k (x := (fr : Int)) (y := ((wo (2 ^ d.length - 1) fr : Nat) : Int)) gn0
        have e8 : (Hq ++ [boxK 0 0]).set 8 (boxK fr (wo (2 ^ d.length - 1) fr : Nat)) = Hq ++ [boxK fr (wo (2 ^ d.length - 1) fr : Nat)] := by
          rw [List.set_append_right _ _ (by omega), hql]; rfl
        rw [e8] at st8
        have rr := wa_r_0 0 (d.map encR) [] d.length fr to Hq d.length _ _ _ _ _ hW.l0 (by rw [List.length_map]; exact bl) bl2 (by rw [ew]; exact bn) (by rw [show (HV.agg [.int .i64 0, .int .i64 0]) = encP ((0 : Int), (0 : Int)) from rfl, new_k, hql]) st8 (by
          rw [hW.l0, hWb.l0]
          have e1 : same (.imm .arg 1 (d.map encR)) (.imm .arg 1 (d.map encR)) = true := by
            have e1 : sameL (d.map encR) (d.map encR) = true := sameL_all fun v hv => by
              obtain ⟨k, _, rfl⟩ := List.mem_map.1 hv
              exact same_imm k
            simp [same, e1]
          simp only [Option.map, recL, hW.rf, hWb.rf, e1]
          simp [same])
        have hWc : WM d (farL d to) to [] (fun _ => false) (Hq ++ [boxK fr (wo (2 ^ d.length - 1) fr : Nat)]) := hW.app (same_box _ _) (Nat.zero_le _)
        have s := wa_s_0 0 (d.map encR) [] d.length fr to (Hq ++ [boxK fr (wo (2 ^ d.length - 1) fr : Nat)]) d.length _ _ (lit_one _ _)
        have hcl : (Hq ++ [boxK (fr : Int) (wo (2 ^ d.length - 1) fr : Nat)]).length = 9 := by simp [hql]
        rw [hcl] at s
        have hB : BW d (farL d to) to fr (wo (2 ^ d.length - 1) fr) [(fr : Int)] (.sl 9 0 1 (some 1) 1 1) (Hq ++ [boxK (fr : Int) (wo (2 ^ d.length - 1) fr : Nat)] ++ [bI [(fr : Int)]]) := by
          refine ⟨⟨[], fun _ => false, hWc.app (same_bI _) (Nat.zero_le _), fun q hq => by cases hq⟩, ?_, .inl ⟨rfl, rfl, by simp [hql], ?_⟩⟩
          · rw [List.getElem?_append_left (by omega), List.getElem?_append_right (by omega), hql]; rfl
          · rw [List.getElem?_append_right (by omega), hcl]; rfl
        obtain ⟨Kp, hKp⟩ : ∃ Kp, 2 ^ d.length = Kp + 1 := ⟨2 ^ d.length - 1, by omega⟩
        have hwl := wo_le (2 ^ d.length - 1) fr
        have ewy : wayL d fr to = [(fr : Int)] ++ wyF d (farL d to) to (Kp + 1) fr (wo (2 ^ d.length - 1) fr) := by rw [← hKp]; rfl
        obtain ⟨tb, cap, H', q1, q2, ks, g, hWf⟩ := wv_loop (to := to) hd hfb (fr := (fr : Int)) Kp fr (wo (2 ^ d.length - 1) fr) [(fr : Int)] _ _ (by omega) hfr (by omega) hld hB (by rw [ewy, List.length_append] at hlen; exact hlen)
        rw [← ewy] at q1 q2
        have q1' := RunsTo.loop_in (e0 := waE d fr to (.ptr 3 0 0 1) .undef .undef (.ptr 6 0 0 1) (.ptr 7 0 0 1) (.ptr 8 0 0 1) (.sl 9 0 1 (some 1) 1 1) .undef .undef (.int .i64 (d.length : Int)) (.int .i64 (d.length : Int)) .undef .undef .undef .undef .undef .undef) q1 (b := sub [1, 1, 1, 1, 1, 1, 1, 1, 1, 0, 0, 0] B23) (by kernel_rfl) (by kernel_rfl) (by kernel_rfl)
        have z := wa_z_0 0 (d.map encR) [] d.length fr to H' (.sl tb 0 (wayL d fr to).length cap (wayL d fr to).length 1) 0 0 .undef .undef .undef .undef _ hWf.l3 (ixF hfr) (hWf.l2 hfb.1 hfr)
        have t1 := RunsTo.seq (RunsTo.block_exit (c := sub [1, 1, 1, 1, 1, 1, 1, 1, 1, 0] B23) q1' (by kernel_rfl)) z (c := sub [1, 1, 1, 1, 1, 1, 1, 1, 1] B23) (by kernel_rfl) (by kernel_rfl)
        have t2 := RunsTo.seq s t1 (c := sub [1, 1, 1, 1, 1, 1, 1, 1] B23) (by kernel_rfl) (by kernel_rfl)
        have t3 := RunsTo.seq rr t2 (c := sub [1, 1, 1, 1, 1, 1, 1] B23) (by kernel_rfl) (by kernel_rfl)
        have t4 := RunsTo.seq q t3 (c := sub [1, 1, 1, 1, 1, 1] B23) (by kernel_rfl) (by kernel_rfl)
        have t5 := RunsTo.seq p t4 (c := sub [1, 1, 1, 1, 1] B23) (by kernel_rfl) (by kernel_rfl)
        have t6 := RunsTo.seq o t5 (c := sub [1, 1, 1, 1] B23) (by kernel_rfl) (by kernel_rfl)
        have t7 := RunsTo.seq dd (RunsTo.block_exit (c := sub [1, 1, 1, 0, 1] B23) r0' (by kernel_rfl)) (c := sub [1, 1, 1, 0] B23) (by kernel_rfl) (by kernel_rfl)
        have t8 := RunsTo.seq t7 t6 (c := sub [1, 1, 1] B23) (by kernel_rfl) (by kernel_rfl)
        have t9 := RunsTo.seq c t8 (c := sub [1, 1] B23) (by kernel_rfl) (by kernel_rfl)
        have t10 := RunsTo.seq wa (RunsTo.seq b t9 (c := sub [1] B23) (by kernel_rfl) (by kernel_rfl)) (c := B23) (by kernel_rfl) (by kernel_rfl)
        exact ⟨_, _, _, .tuple [.sl tb 0 (wayL d fr to).length cap (wayL d fr to).length 1, .int .i64 ((farL d to).getD fr 0), .int .i64 0], t10, by simp, by simp only [resultsV, res23]; rfl, toRes_li2 q2 rfl _ 0⟩
      · cases hq
    · rename_i hin
      cases hq
      have out : ∀ E Hd, RunsTo Try.prog polK 23 (sub [1, 0] B23) (waE0 d a0 b0) [.arr 1 [.imm .arg 1 (d.map encR)] true 0, .arr 1 [.int .i64 b0] true 0] .ret (polK.keys 23) E Hd → E.get 6 = .imm .lit 1 [] → E.get 7 = .int .i64 0 → E.get 8 = .int .i64 2 →
          ∃ x E H' v, RunsTo Try.prog polK 23 B23 (args0 [.imm .arg 1 (d.map encR), .int .i64 a0, .int .i64 b0]) [] x (polK.keys 23) E H' ∧ (∀ i, x ≠ .exit i) ∧ resultsV Try.prog Try.f23 E H' = some v ∧ toRes H' (polK.deep 23) v = some (.tuple [.own 1 [], .int .i64 0, .int .i64 2]) := by
        intro E Hd t h6 h7 h8
        exact ⟨_, _, _, .tuple [.imm .lit 1 [], .int .i64 0, .int .i64 2], RunsTo.seq wa (RunsTo.seq_out t (by simp) (c := sub [1] B23) (b := sub [1, 1] B23) (by kernel_rfl)) (c := B23) (by kernel_rfl) (by kernel_rfl), by simp, by simp only [resultsV, res23, mapO, resultV, h6, h7, h8], rfl⟩
      by_cases c1 : okD d
      · have m1 := prim_miles (pol' := polK) (by kernel_rfl) hc.1 hc.2 [.arr 1 [.imm .arg 1 (d.map encR)] true 0, .arr 1 [.int .i64 b0] true 0] true (okB_true c1)
        by_cases c2 : (0 : Int) ≤ a0 ∧ a0 ≤ (d.length : Int) - 1
        · have c3 : ¬ ((0 : Int) ≤ b0 ∧ b0 ≤ (d.length : Int) - 1) := fun h => hin ⟨c1, by omega, by omega⟩
          exact out _ _ (wa_b_1 0 (d.map encR) a0 b0 _ _ l0 (fun kf _ => m1 kf) l0 (by rw [wl]; exact c2) l1 l0 (by rw [wl]; exact c3)) rfl rfl rfl
        · exact out _ _ (wa_b_2 0 (d.map encR) a0 b0 _ _ l0 (fun kf _ => m1 kf) l0 (by rw [wl]; exact c2)) rfl rfl rfl
      · have m1 := prim_miles (pol' := polK) (by kernel_rfl) hc.1 hc.2 [.arr 1 [.imm .arg 1 (d.map encR)] true 0, .arr 1 [.int .i64 b0] true 0] false (okB_false c1)
        exact out _ _ (wa_b_3 0 (d.map encR) a0 b0 _ _ l0 (fun kf _ => m1 kf)) rfl rfl rfl
  · cases hq
end Go.Proofs.Ytlendaofkmhgmaa
end
