/- A part of the proof. -/
import Derived.Test.YtlendaofkmhgmaaP11A
set_option linter.unusedVariables false
set_option linter.unusedSimpArgs false
section
open Go Go.HL
namespace Go.Proofs.Ytlendaofkmhgmaa
set_option maxRecDepth 100000
noncomputable def B29 : Code := Try.f29.body.getD .skip
abbrev env29 (v0 v2 v3 v4 v5 v6 v7 v8 v9 v10 v29 v30 : HV) : Env := [(0, v0), (2, v2), (3, v3), (4, v4), (5, v5), (6, v6), (7, v7), (8, v8), (9, v9), (10, v10), (29, v29), (30, v30)]
theorem bs_a_0 (N : Nat) (rw : List HV) : RunsTo Try.prog polI 29 (sub [0] B29) [(0, .imm .arg 1 rw)] [] .normal (polI.keys 29) (env29 (.imm .arg 1 rw) (.imm .lit 1 []) (.i 0) (.i 0) .undef .undef .undef .undef .undef .undef .undef .undef) [] :=
  RunsTo.hin N 60 [] fun kf hk => ⟨_, by kernel_rfl, .nil⟩
theorem bs_b_0 (N : Nat) (rw : List HV)(g0 : ∀ kf, callN Try.prog polI (kf + 1) 46 [.imm .arg 1 rw] [] = some (.bool true, [])) : RunsTo Try.prog polI 29 (sub [1, 0] B29) (env29 (.imm .arg 1 rw) (.imm .lit 1 []) (.i 0) (.i 0) .undef .undef .undef .undef .undef .undef .undef .undef) [] .normal (polI.keys 29) (env29 (.imm .arg 1 rw) (.imm .lit 1 []) (.i 0) (.i 0) .undef .undef .undef .undef .undef .undef .undef .undef) [] :=
  RunsTo.hin N 60 [⟨1, 1, .bool true, []⟩] fun kf hk => ⟨_, by kernel_rfl, (oC (g0 kf) .nil)⟩
theorem bs_b_1 (N : Nat) (rw : List HV)(g0 : ∀ kf, callN Try.prog polI (kf + 1) 46 [.imm .arg 1 rw] [] = some (.bool false, [])) : RunsTo Try.prog polI 29 (sub [1, 0] B29) (env29 (.imm .arg 1 rw) (.imm .lit 1 []) (.i 0) (.i 0) .undef .undef .undef .undef .undef .undef .undef .undef) [] .ret (polI.keys 29) (env29 (.imm .arg 1 rw) (.imm .lit 1 []) (.i 0) (.i 2) .undef .undef .undef .undef .undef .undef .undef .undef) [] :=
  RunsTo.hin N 60 [⟨1, 1, .bool false, []⟩] fun kf hk => ⟨_, by kernel_rfl, (oC (g0 kf) .nil)⟩
theorem bs_c_0 (N : Nat) (rw : List HV) (H : Heap) (H0 : Heap) (g0 : some (HV.map H.length, H ++ [Blk.map [] [] 0]) = some (.map 0, H0)) : RunsTo Try.prog polI 29 (sub [1, 1, 0] B29) (env29 (.imm .arg 1 rw) (.imm .lit 1 []) (.i 0) (.i 0) .undef .undef .undef .undef .undef .undef .undef .undef) H .normal (polI.keys 29) (env29 (.imm .arg 1 rw) (.imm .lit 1 []) (.i 0) (.i 0) (.map 0) .undef .undef .undef .undef .undef .undef .undef) H0 :=
  RunsTo.hin N 60 [⟨3, 0, .map 0, H0⟩] fun kf hk => ⟨_, by kernel_rfl, (oC (g0) .nil)⟩
theorem bs_d_0 (N : Nat) (rw : List HV) (H : Heap) (h0 : Int) (H0 : Heap) (H1 : Heap) (g0 : binV Try.prog .shl 3 (.i 1) (.i (rw.length : Int)) = some (.i h0)) (g1 : some (newV (.agg [.i 0, .i 0]) H) = some (.ptr 1 0 0 1, H0)) (g2 : storeV Try.prog H0 77 (.ptr 1 0 0 1) (.agg [.i 0, .i (IntKind.i64.wrap (h0 - 2))]) = some H1) : RunsTo Try.prog polI 29 (sub [1, 1, 1, 0] B29) (env29 (.imm .arg 1 rw) (.imm .lit 1 []) (.i 0) (.i 0) (.map 0) .undef .undef .undef .undef .undef .undef .undef) H .normal (polI.keys 29) (env29 (.imm .arg 1 rw) (.imm .lit 1 []) (.i 0) (.i 0) (.map 0) (.ptr 1 0 0 1) .undef .undef .undef .undef .undef .undef) H1 :=
  RunsTo.hin N 60 [⟨4, 2, .i h0, H⟩, ⟨4, 5, .ptr 1 0 0 1, H0⟩, ⟨4, 6, .tuple [], H1⟩] fun kf hk => ⟨_, by kernel_rfl, (oP H g0 (oC (g1) (oS g2 .nil)))⟩
theorem bs_e_0 (N : Nat) (rw : List HV) (tv : HV) (H : Heap) (H0 : Heap) (g0 : litV Try.prog true true 23 1 [(0, .i 0)] H = some (tv, H0)) : RunsTo Try.prog polI 29 (sub [1, 1, 1, 1, 0] B29) (env29 (.imm .arg 1 rw) (.imm .lit 1 []) (.i 0) (.i 0) (.map 0) (.ptr 1 0 0 1) .undef .undef .undef .undef .undef .undef) H .normal (polI.keys 29) (env29 (.imm .arg 1 rw) (.imm .lit 1 []) (.i 0) (.i 0) (.map 0) (.ptr 1 0 0 1) tv .undef .undef .undef .undef .undef) H0 :=
  RunsTo.hin N 60 [⟨5, 0, tv, H0⟩] fun kf hk => ⟨_, by kernel_rfl, (oC (g0) .nil)⟩
theorem bs_f_0 (N : Nat) (rw : List HV) (tv : HV) (v w : Nat) (H : Heap)(g0 : loadV Try.prog H 3 (.ptr 1 0 1 1) = some (.i (w : Int))) (g1 : 0 < (w : Int)) : RunsTo Try.prog polI 29 (sub [1, 1, 1, 1, 1, 0, 0, 0, 0] B29) (env29 (.imm .arg 1 rw) (.imm .lit 1 []) (.i 0) (.i 0) (.map 0) (.ptr 1 0 0 1) tv .undef .undef .undef .undef .undef) H .normal (polI.keys 29) (env29 (.imm .arg 1 rw) (.imm .lit 1 []) (.i 0) (.i 0) (.map 0) (.ptr 1 0 0 1) tv .undef .undef .undef .undef .undef) H :=
  RunsTo.hin N 60 [⟨6, 1, .i (w : Int), H⟩, ⟨6, 2, .bool true, H⟩] fun kf hk => ⟨_, by kernel_rfl, (oP H g0 (oB H (decide_eq_true g1) .nil))⟩
theorem bs_f_1 (N : Nat) (rw : List HV) (tv : HV) (v w : Nat) (H : Heap)(g0 : loadV Try.prog H 3 (.ptr 1 0 1 1) = some (.i (w : Int))) (g1 : ¬ (0 < (w : Int))) : RunsTo Try.prog polI 29 (sub [1, 1, 1, 1, 1, 0, 0, 0, 0] B29) (env29 (.imm .arg 1 rw) (.imm .lit 1 []) (.i 0) (.i 0) (.map 0) (.ptr 1 0 0 1) tv .undef .undef .undef .undef .undef) H (.exit 0) (polI.keys 29) (env29 (.imm .arg 1 rw) (.imm .lit 1 []) (.i 0) (.i 0) (.map 0) (.ptr 1 0 0 1) tv .undef .undef .undef .undef .undef) H :=
  RunsTo.hin N 60 [⟨6, 1, .i (w : Int), H⟩, ⟨6, 2, .bool false, H⟩] fun kf hk => ⟨_, by kernel_rfl, (oP H g0 (oB H (decide_eq_false g1) .nil))⟩
theorem bs_g_0 (N : Nat) (rw : List HV) (tv : HV) (v w : Nat) (H : Heap) (s : Int) (H0 : Heap) (g0 : loadV Try.prog H 77 (.ptr 1 0 0 1) = some (.agg [.i (v : Int), .i (w : Int)])) (g1 : ∀ kf, N ≤ kf → callN Try.prog polI (kf + 1) 55 [.imm .arg 1 rw, .map 0, .agg [.i (v : Int), .i (w : Int)]] H = some (.i s, H0)) : RunsTo Try.prog polI 29 (sub [1, 1, 1, 1, 1, 0, 0, 0, 1, 0, 0] B29) (env29 (.imm .arg 1 rw) (.imm .lit 1 []) (.i 0) (.i 0) (.map 0) (.ptr 1 0 0 1) tv .undef .undef .undef .undef .undef) H .normal (polI.keys 29) (env29 (.imm .arg 1 rw) (.imm .lit 1 []) (.i 0) (.i 0) (.map 0) (.ptr 1 0 0 1) tv (.i s) .undef .undef .undef .undef) H0 :=
  RunsTo.hin N 60 [⟨7, 2, .agg [.i (v : Int), .i (w : Int)], H⟩, ⟨7, 3, .i s, H0⟩] fun kf hk => ⟨_, by kernel_rfl, (oP H g0 (oC (g1 kf (by omega)) .nil))⟩
theorem bs_h_0 (N : Nat) (rw : List HV) (tv : HV) (v w : Nat) (H : Heap) (mo : Int) : RunsTo Try.prog polI 29 (sub [1, 1, 1, 1, 1, 0, 0, 0, 1, 0, 1, 0] B29) (env29 (.imm .arg 1 rw) (.imm .lit 1 []) (.i 0) (.i 0) (.map 0) (.ptr 1 0 0 1) tv (.i mo) .undef .undef .undef .undef) H .normal (polI.keys 29) (env29 (.imm .arg 1 rw) (.imm .lit 1 []) (.i 0) (.i 0) (.map 0) (.ptr 1 0 0 1) tv (.i mo) .undef .undef (.i (rw.length : Int)) (.i 0)) H :=
  RunsTo.hin N 60 [] fun kf hk => ⟨_, by kernel_rfl, .nil⟩
theorem bs_l_0 (N : Nat) (rw : List HV) (tv : HV) (v w : Nat) (H : Heap) (mo : Int) (n i : Nat) (nb : Nat) (w2 : Int) (h0 : Int) (h1 : Int) (H0 : Heap) (H1 : Heap) (g0 : (i : Int) < (n : Int)) (g1 : loadV Try.prog H 3 (.ptr 1 0 1 1) = some (.i (w : Int))) (g2 : binV Try.prog .shl 3 (.i 1) (.i (i : Int)) = some (.i h0)) (g3 : binV Try.prog .andNot 3 (.i (w : Int)) (.i h0) = some (.i h1)) (g4 : some (newV (.agg [.i 0, .i 0]) H) = some (.ptr nb 0 0 1, H0)) (g5 : storeV Try.prog H0 77 (.ptr nb 0 0 1) (.agg [.i (i : Int), .i h1]) = some H1) (gS11 : (recL ((loadV Try.prog H 3 (.ptr 1 0 1 1)).map (fun v => (v, (H : Heap)))) ((loadV Try.prog H0 3 (.ptr 1 0 1 1)).map (fun v => (v, (H0 : Heap)))) H H0 && true) = true) (g7 : loadV Try.prog H1 3 (.ptr 1 0 1 1) = some (.i (w : Int))) (g8 : loadV Try.prog H1 3 (.ptr nb 0 1 1) = some (.i w2)) (g9 : (w : Int) = w2) (gS12 : (true && (true && (true && true))) = true) : RunsTo Try.prog polI 29 (sub [1, 1, 1, 1, 1, 0, 0, 0, 1, 0, 1, 1, 0, 0] B29) (env29 (.imm .arg 1 rw) (.imm .lit 1 []) (.i 0) (.i 0) (.map 0) (.ptr 1 0 0 1) tv (.i mo) .undef .undef (.i (n : Int)) (.i (i : Int))) H .normal (polI.keys 29) (env29 (.imm .arg 1 rw) (.imm .lit 1 []) (.i 0) (.i 0) (.map 0) (.ptr 1 0 0 1) tv (.i mo) (.i (i : Int)) (.ptr nb 0 0 1) (.i (n : Int)) (.i (IntKind.i64.wrap ((i : Int) + 1)))) H1 :=
  RunsTo.hin N 60 [⟨9, 0, .bool true, H⟩, ⟨11, 2, .i (w : Int), H⟩, ⟨11, 4, .i h0, H⟩, ⟨11, 5, .i h1, H⟩, ⟨11, 7, .ptr nb 0 0 1, H0⟩, ⟨11, 8, .tuple [], H1⟩, ⟨12, 1, .i (w : Int), H1⟩, ⟨12, 3, .i w2, H1⟩, ⟨12, 4, .bool false, H1⟩] fun kf hk => ⟨_, by kernel_rfl, (oB H (decide_eq_true g0) (oC (gS11) (oP H g1 (oP H g2 (oP H g3 (oC (g4) (oS g5 (oC (gS12) (oP H1 g7 (oP H1 g8 (oB H1 (congrArg not (decide_eq_true g9)) .nil)))))))))))⟩
theorem bs_l_1 (N : Nat) (rw : List HV) (tv : HV) (v w : Nat) (H : Heap) (mo : Int) (n i : Nat) (nb : Nat) (w2 : Int) (h0 : Int) (h1 : Int) (H0 : Heap) (H1 : Heap) (l0 : List HV) (x0 : Int) (s : Int) (H2 : Heap) (H3 : Heap) (H4 : Heap) (v0 : HV) (g0 : (i : Int) < (n : Int)) (g1 : loadV Try.prog H 3 (.ptr 1 0 1 1) = some (.i (w : Int))) (g2 : binV Try.prog .shl 3 (.i 1) (.i (i : Int)) = some (.i h0)) (g3 : binV Try.prog .andNot 3 (.i (w : Int)) (.i h0) = some (.i h1)) (g4 : some (newV (.agg [.i 0, .i 0]) H) = some (.ptr nb 0 0 1, H0)) (g5 : storeV Try.prog H0 77 (.ptr nb 0 0 1) (.agg [.i (i : Int), .i h1]) = some H1) (gS11 : (recL ((loadV Try.prog H 3 (.ptr 1 0 1 1)).map (fun v => (v, (H : Heap)))) ((loadV Try.prog H0 3 (.ptr 1 0 1 1)).map (fun v => (v, (H0 : Heap)))) H H0 && true) = true) (g7 : loadV Try.prog H1 3 (.ptr 1 0 1 1) = some (.i (w : Int))) (g8 : loadV Try.prog H1 3 (.ptr nb 0 1 1) = some (.i w2)) (g9 : ¬ ((w : Int) = w2)) (g10 : loadV Try.prog H1 3 (.ptr 1 0 0 1) = some (.i (v : Int))) (g11 : idxV Try.prog 22 (.imm .arg 1 rw) (.i (v : Int)) = some (.vptr (.imm .arg 1 l0))) (g12 : idxV Try.prog 23 (.imm .arg 1 l0) (.i (i : Int)) = some (.vptr (.i x0))) (g13 : loadV Try.prog H1 77 (.ptr nb 0 0 1) = some (.agg [.i (i : Int), .i w2])) (g14 : ∀ kf, N ≤ kf → callN Try.prog polI (kf + 1) 55 [.imm .arg 1 rw, .map 0, .agg [.i (i : Int), .i w2]] H1 = some (.i s, H2)) (g15 : IntKind.i64.wrap (x0 + s) = mo) (gS12 : (recL ((loadV Try.prog H1 3 (.ptr 1 0 0 1)).map (fun v => (v, (H1 : Heap)))) ((loadV Try.prog H2 3 (.ptr 1 0 0 1)).map (fun v => (v, (H2 : Heap)))) H1 H2 && ((same (.imm .arg 1 l0) (.imm .arg 1 l0) && sameH (H1 : Heap) H1 && sameH (H2 : Heap) H2) && ((same (.i x0) (.i x0) && sameH (H1 : Heap) H1 && sameH (H2 : Heap) H2) && true))) = true) (g17 : loadV Try.prog H2 77 (.ptr nb 0 0 1) = some (.agg [.i (i : Int), .i w2])) (g18 : storeV Try.prog H2 77 (.ptr 1 0 0 1) (.agg [.i (i : Int), .i w2]) = some H3) (g19 : appV H3 1 8 (tv) [.i (i : Int)] = some (v0, H4)) : RunsTo Try.prog polI 29 (sub [1, 1, 1, 1, 1, 0, 0, 0, 1, 0, 1, 1, 0, 0] B29) (env29 (.imm .arg 1 rw) (.imm .lit 1 []) (.i 0) (.i 0) (.map 0) (.ptr 1 0 0 1) tv (.i mo) .undef .undef (.i (n : Int)) (.i (i : Int))) H (.exit 2) (polI.keys 29) (env29 (.imm .arg 1 rw) (.imm .lit 1 []) (.i 0) (.i 0) (.map 0) (.ptr 1 0 0 1) v0 (.i mo) (.i (i : Int)) (.ptr nb 0 0 1) (.i (n : Int)) (.i (i : Int))) H4 :=
  RunsTo.hin N 60 [⟨9, 0, .bool true, H⟩, ⟨11, 2, .i (w : Int), H⟩, ⟨11, 4, .i h0, H⟩, ⟨11, 5, .i h1, H⟩, ⟨11, 7, .ptr nb 0 0 1, H0⟩, ⟨11, 8, .tuple [], H1⟩, ⟨12, 1, .i (w : Int), H1⟩, ⟨12, 3, .i w2, H1⟩, ⟨12, 4, .bool true, H1⟩, ⟨12, 8, .i (v : Int), H1⟩, ⟨12, 9, .vptr (.imm .arg 1 l0), H1⟩, ⟨12, 12, .vptr (.i x0), H1⟩, ⟨12, 16, .agg [.i (i : Int), .i w2], H1⟩, ⟨12, 17, .i s, H2⟩, ⟨12, 20, .bool true, H2⟩, ⟨13, 0, .agg [.i (i : Int), .i w2], H2⟩, ⟨13, 1, .tuple [], H3⟩, ⟨14, 3, v0, H4⟩] fun kf hk => ⟨_, by kernel_rfl, (oB H (decide_eq_true g0) (oC (gS11) (oP H g1 (oP H g2 (oP H g3 (oC (g4) (oS g5 (oC (gS12) (oP H1 g7 (oP H1 g8 (oB H1 (congrArg not (decide_eq_false g9)) (oP H1 g10 (oP H1 g11 (oP H1 g12 (oP H1 g13 (oC (g14 kf (by omega)) (oB H2 (decide_eq_true g15) (oP H2 g17 (oS g18 (oC (g19) .nil))))))))))))))))))))⟩
theorem bs_l_2 (N : Nat) (rw : List HV) (tv : HV) (v w : Nat) (H : Heap) (mo : Int) (n i : Nat) (nb : Nat) (w2 : Int) (h0 : Int) (h1 : Int) (H0 : Heap) (H1 : Heap) (l0 : List HV) (x0 : Int) (s : Int) (H2 : Heap) (g0 : (i : Int) < (n : Int)) (g1 : loadV Try.prog H 3 (.ptr 1 0 1 1) = some (.i (w : Int))) (g2 : binV Try.prog .shl 3 (.i 1) (.i (i : Int)) = some (.i h0)) (g3 : binV Try.prog .andNot 3 (.i (w : Int)) (.i h0) = some (.i h1)) (g4 : some (newV (.agg [.i 0, .i 0]) H) = some (.ptr nb 0 0 1, H0)) (g5 : storeV Try.prog H0 77 (.ptr nb 0 0 1) (.agg [.i (i : Int), .i h1]) = some H1) (gS11 : (recL ((loadV Try.prog H 3 (.ptr 1 0 1 1)).map (fun v => (v, (H : Heap)))) ((loadV Try.prog H0 3 (.ptr 1 0 1 1)).map (fun v => (v, (H0 : Heap)))) H H0 && true) = true) (g7 : loadV Try.prog H1 3 (.ptr 1 0 1 1) = some (.i (w : Int))) (g8 : loadV Try.prog H1 3 (.ptr nb 0 1 1) = some (.i w2)) (g9 : ¬ ((w : Int) = w2)) (g10 : loadV Try.prog H1 3 (.ptr 1 0 0 1) = some (.i (v : Int))) (g11 : idxV Try.prog 22 (.imm .arg 1 rw) (.i (v : Int)) = some (.vptr (.imm .arg 1 l0))) (g12 : idxV Try.prog 23 (.imm .arg 1 l0) (.i (i : Int)) = some (.vptr (.i x0))) (g13 : loadV Try.prog H1 77 (.ptr nb 0 0 1) = some (.agg [.i (i : Int), .i w2])) (g14 : ∀ kf, N ≤ kf → callN Try.prog polI (kf + 1) 55 [.imm .arg 1 rw, .map 0, .agg [.i (i : Int), .i w2]] H1 = some (.i s, H2)) (g15 : ¬ (IntKind.i64.wrap (x0 + s) = mo)) (gS12 : (recL ((loadV Try.prog H1 3 (.ptr 1 0 0 1)).map (fun v => (v, (H1 : Heap)))) ((loadV Try.prog H2 3 (.ptr 1 0 0 1)).map (fun v => (v, (H2 : Heap)))) H1 H2 && ((same (.imm .arg 1 l0) (.imm .arg 1 l0) && sameH (H1 : Heap) H1 && sameH (H2 : Heap) H2) && ((same (.i x0) (.i x0) && sameH (H1 : Heap) H1 && sameH (H2 : Heap) H2) && true))) = true) : RunsTo Try.prog polI 29 (sub [1, 1, 1, 1, 1, 0, 0, 0, 1, 0, 1, 1, 0, 0] B29) (env29 (.imm .arg 1 rw) (.imm .lit 1 []) (.i 0) (.i 0) (.map 0) (.ptr 1 0 0 1) tv (.i mo) .undef .undef (.i (n : Int)) (.i (i : Int))) H .normal (polI.keys 29) (env29 (.imm .arg 1 rw) (.imm .lit 1 []) (.i 0) (.i 0) (.map 0) (.ptr 1 0 0 1) tv (.i mo) (.i (i : Int)) (.ptr nb 0 0 1) (.i (n : Int)) (.i (IntKind.i64.wrap ((i : Int) + 1)))) H2 :=
  RunsTo.hin N 60 [⟨9, 0, .bool true, H⟩, ⟨11, 2, .i (w : Int), H⟩, ⟨11, 4, .i h0, H⟩, ⟨11, 5, .i h1, H⟩, ⟨11, 7, .ptr nb 0 0 1, H0⟩, ⟨11, 8, .tuple [], H1⟩, ⟨12, 1, .i (w : Int), H1⟩, ⟨12, 3, .i w2, H1⟩, ⟨12, 4, .bool true, H1⟩, ⟨12, 8, .i (v : Int), H1⟩, ⟨12, 9, .vptr (.imm .arg 1 l0), H1⟩, ⟨12, 12, .vptr (.i x0), H1⟩, ⟨12, 16, .agg [.i (i : Int), .i w2], H1⟩, ⟨12, 17, .i s, H2⟩, ⟨12, 20, .bool false, H2⟩] fun kf hk => ⟨_, by kernel_rfl, (oB H (decide_eq_true g0) (oC (gS11) (oP H g1 (oP H g2 (oP H g3 (oC (g4) (oS g5 (oC (gS12) (oP H1 g7 (oP H1 g8 (oB H1 (congrArg not (decide_eq_false g9)) (oP H1 g10 (oP H1 g11 (oP H1 g12 (oP H1 g13 (oC (g14 kf (by omega)) (oB H2 (decide_eq_false g15) .nil)))))))))))))))))⟩
theorem bs_z_0 (N : Nat) (rw : List HV) (tv : HV) (H : Heap) (y8 y9 y10 y29 y30 : HV) (sm : Int) (H0 : Heap) (g0 : ∀ kf, callN Try.prog polI (kf + 1) 56 [.imm .arg 1 rw, tv] H = some (.i sm, H0)) : RunsTo Try.prog polI 29 (sub [1, 1, 1, 1, 1, 1] B29) (env29 (.imm .arg 1 rw) (.imm .lit 1 []) (.i 0) (.i 0) (.map 0) (.ptr 1 0 0 1) tv y8 y9 y10 y29 y30) H .ret (polI.keys 29) (env29 (.imm .arg 1 rw) tv (.i sm) (.i 0) (.map 0) (.ptr 1 0 0 1) tv y8 y9 y10 y29 y30) H0 :=
  RunsTo.hin N 60 [⟨16, 3, .i sm, H0⟩] fun kf hk => ⟨_, by kernel_rfl, (oC (g0 kf) .nil)⟩
end Go.Proofs.Ytlendaofkmhgmaa
end
section
open Go Go.HL
namespace Go.Proofs.Ytlendaofkmhgmaa
section
variable {d : List (List Int)}
abbrev imE (d : List (List Int)) (v4 v5 v6 v7 v8 v13 v14 v15 v29 v30 v31 v36 v37 v38 : HV) : Env := env46 (.imm .arg 1 (d.map encR)) (.bool false) v4 v5 v6 v7 v8 v13 v14 v15 v29 v30 v31 v36 v37 v38
end
section
variable {d : List (List Int)}
abbrev imA (d : List (List Int)) (i : Nat) : Env := imE d .undef .undef .undef .undef .undef (.imm .arg 1 (d.map encR)) (.int .i64 (d.length : Int)) (.int .i64 (i : Int)) .undef .undef .undef .undef .undef .undef
end
section
variable {d : List (List Int)}
abbrev imB (d : List (List Int)) (i : Nat) : Env := imE d .undef .undef .undef .undef .undef .undef .undef .undef (.imm .arg 1 (d.map encR)) (.int .i64 (d.length : Int)) (.int .i64 (i : Int)) .undef .undef .undef
end
section
variable {d : List (List Int)}
abbrev imC (d : List (List Int)) (i : Nat) (l : List Int) (j : Nat) : Env := imE d .undef (.int .i64 (i : Int)) .undef .undef .undef .undef .undef .undef (.imm .arg 1 (d.map encR)) (.int .i64 (d.length : Int)) (.int .i64 (i : Int)) (.imm .arg 1 (l.map encI)) (.int .i64 (l.length : Int)) (.int .i64 (j : Int))
end
section
variable {d : List (List Int)}
def rowOk (d : List (List Int)) (i : Nat) : Prop := rowLen d i ∧ ∀ v, v ∈ d.getD i [] → mi v
end
section
variable {d : List (List Int)}
open Classical in
theorem im_rows (hd : d.length ≤ 1000) (hw : ∀ r, r ∈ d → r.length ≤ 1000) : ∀ (k i : Nat), i + k = d.length →
    ∃ x E, RunsTo Try.prog polM 46 (sub [1, 1, 0, 1, 0] B46) (imA d i) [] x (polM.keys 46) E [] ∧
      ((x = .exit 0 ∧ E = imA d d.length ∧ ∀ a, i ≤ a → a < d.length → rowOk d a) ∨ (x = .ret ∧ E.get 2 = .bool false ∧ ¬ ∀ a, a < d.length → rowOk d a)) := by
  intro k
  induction k with
  | zero =>
    intro i hi
    have hi : i = d.length := by omega
    subst hi
    have s1 := im_l_3 0 (d.map encR) d.length [] [] (by rw [List.length_map]; omega)
    rw [List.length_map] at s1
    exact ⟨_, _, RunsTo.loop_out s1 (by simp) (by kernel_rfl) (by kernel_rfl), .inl ⟨rfl, rfl, fun a h1 h2 => by omega⟩⟩
  | succ k ih =>
    intro i hi
    have hil : i < d.length := by omega
    have hg := gri' hil
    by_cases c : (d.getD i []).length = d.length
    · have hr9 : (d.getD i []).length ≤ 1000 := by omega
      have hcf := cf_call (d.getD i []) [] hr9
      obtain ⟨N, hN⟩ := CallsTo.from hcf
      by_cases c2 : ∀ v, v ∈ d.getD i [] → mi v
      · rw [decide_eq_false (fun h => h c2)] at hN
        have s1 := im_l_1 N (d.map encR) i [] [] _ [] (by rw [List.length_map]; omega) hg (by rw [List.length_map, List.length_map]; omega) hN
        rw [wrap_succ (by omega), List.length_map] at s1
        obtain ⟨x, E, h1, h2⟩ := ih (i + 1) (by omega)
        refine ⟨x, E, RunsTo.loop s1 (by kernel_rfl) rfl h1 rfl (by kernel_rfl) (by kernel_rfl), ?_⟩
        rcases h2 with ⟨k1, k2, k3⟩ | h2
        · exact .inl ⟨k1, k2, fun a h1 h2 => by
            by_cases e : a = i
            · rw [e]; exact ⟨c, c2⟩
            · exact k3 a (by omega) h2⟩
        · exact .inr h2
      · rw [decide_eq_true c2] at hN
        have s1 := im_l_0 N (d.map encR) i [] [] _ [] (by rw [List.length_map]; omega) hg (by rw [List.length_map, List.length_map]; omega) hN
        rw [List.length_map] at s1
        exact ⟨_, _, RunsTo.loop_out s1 (by simp) (by kernel_rfl) (by kernel_rfl), .inr ⟨rfl, rfl, fun h => c2 (h i hil).2⟩⟩
    · have s1 := im_l_2 0 (d.map encR) i [] [] _ (by rw [List.length_map]; omega) hg (by rw [List.length_map, List.length_map]; omega)
      rw [List.length_map] at s1
      exact ⟨_, _, RunsTo.loop_out s1 (by simp) (by kernel_rfl) (by kernel_rfl), .inr ⟨rfl, rfl, fun h => c (h i hil).1⟩⟩
end
section
variable {d : List (List Int)}
theorem im_cells (hd : d.length ≤ 1000) (hr : ∀ a, a < d.length → rowLen d a) {i : Nat} (hi : i < d.length) : ∀ (k j : Nat), j + k = d.length →
    ∃ x E, RunsTo Try.prog polM 46 (sub [1, 1, 1, 0, 1, 0, 0, 1, 1, 0, 0, 1, 1, 0] B46) (imC d i (d.getD i []) j) [] x (polM.keys 46) E [] ∧
      ((x = .exit 4 ∧ E = imC d i (d.getD i []) d.length ∧ ∀ a, j ≤ a → a < d.length → symAt d i a) ∨ (x = .ret ∧ E.get 2 = .bool false ∧ ¬ ∀ a, a < d.length → symAt d i a)) := by
  intro k
  have hl : ((d.getD i []).map encI).length = d.length := by rw [List.length_map]; exact hr i hi
  induction k with
  | zero =>
    intro j hj
    have hj : j = d.length := by omega
    subst hj
    have s1 := im_k_4 0 (d.map encR) i [] ((d.getD i []).map encI) d.length (by rw [hl]; omega)
    rw [List.length_map, List.length_map] at s1
    exact ⟨_, _, RunsTo.loop_out s1 (by simp) (by kernel_rfl) (by kernel_rfl), .inl ⟨rfl, rfl, fun a h1 h2 => by omega⟩⟩
  | succ k ih =>
    intro j hj
    have hjl : j < d.length := by omega
    have bad : ∀ E, RunsTo Try.prog polM 46 (sub [1, 1, 1, 0, 1, 0, 0, 1, 1, 0, 0, 1, 1, 0, 0] B46) (imC d i (d.getD i []) j) [] .ret (polM.keys 46) E [] → E.get 2 = .bool false → ¬ symAt d i j → _ := fun E t hE hc =>
      (⟨_, E, RunsTo.loop_out t (by simp) (by kernel_rfl) (by kernel_rfl), .inr ⟨rfl, hE, fun h => hc (h j hjl)⟩⟩ : ∃ x E, RunsTo Try.prog polM 46 (sub [1, 1, 1, 0, 1, 0, 0, 1, 1, 0, 0, 1, 1, 0] B46) (imC d i (d.getD i []) j) [] x (polM.keys 46) E [] ∧
      ((x = .exit 4 ∧ E = imC d i (d.getD i []) d.length ∧ ∀ a, j ≤ a → a < d.length → symAt d i a) ∨ (x = .ret ∧ E.get 2 = .bool false ∧ ¬ ∀ a, a < d.length → symAt d i a)))
    have good : ∀ v7 v8, symAt d i j → RunsTo Try.prog polM 46 (sub [1, 1, 1, 0, 1, 0, 0, 1, 1, 0, 0, 1, 1, 0, 0] B46) (imC d i (d.getD i []) j) [] .normal (polM.keys 46) (imE d .undef (.int .i64 (i : Int)) .undef v7 v8 .undef .undef .undef (.imm .arg 1 (d.map encR)) (.int .i64 (d.length : Int)) (.int .i64 (i : Int)) (.imm .arg 1 ((d.getD i []).map encI)) (.int .i64 ((d.getD i []).length : Int)) (.int .i64 (IntKind.i64.wrap ((j : Int) + 1)))) [] → _ := fun v7 v8 hc t => (by
      rw [wrap_succ (by omega)] at t
      obtain ⟨x, E, h1, h2⟩ := ih (j + 1) (by omega)
      refine ⟨x, E, RunsTo.loop t (by kernel_rfl) rfl h1 rfl (by kernel_rfl) (by kernel_rfl), ?_⟩
      rcases h2 with ⟨k1, k2, k3⟩ | h2
      · exact .inl ⟨k1, k2, fun a h1 h2 => by
          by_cases e : a = j
          · rw [e]; exact hc
          · exact k3 a (by omega) h2⟩
      · exact .inr h2 : ∃ x E, RunsTo Try.prog polM 46 (sub [1, 1, 1, 0, 1, 0, 0, 1, 1, 0, 0, 1, 1, 0] B46) (imC d i (d.getD i []) j) [] x (polM.keys 46) E [] ∧
      ((x = .exit 4 ∧ E = imC d i (d.getD i []) d.length ∧ ∀ a, j ≤ a → a < d.length → symAt d i a) ∨ (x = .ret ∧ E.get 2 = .bool false ∧ ¬ ∀ a, a < d.length → symAt d i a)))
    have gj := gri' hjl
    have g1 := gat (hr i hi) hjl
    have g2 := gat (hr j hjl) hi
    have hjm : (j : Int) < ((((d.getD i []).map encI).length : Nat) : Int) := by rw [hl]; omega
    by_cases c3 : at2 d i j = at2 d j i
    · by_cases c4 : i = j
      · by_cases c5 : at2 d i j = 0
        · have s := im_k_0 0 (d.map encR) i [] ((d.getD i []).map encI) j _ _ _ hjm g1 gj g2 c3 (by omega) c5
          rw [List.length_map, List.length_map] at s
          exact good _ _ ⟨c3, fun _ => c5⟩ s
        · have s := im_k_1 0 (d.map encR) i [] ((d.getD i []).map encI) j _ _ _ hjm g1 gj g2 c3 (by omega) c5
          rw [List.length_map, List.length_map] at s
          exact bad _ s rfl fun h => c5 (h.2 c4)
      · have s := im_k_2 0 (d.map encR) i [] ((d.getD i []).map encI) j _ _ _ hjm g1 gj g2 c3 (by omega)
        rw [List.length_map, List.length_map] at s
        exact good _ _ ⟨c3, fun h => absurd h c4⟩ s
    · have s := im_k_3 0 (d.map encR) i [] ((d.getD i []).map encI) j _ _ _ hjm g1 gj g2 c3
      rw [List.length_map, List.length_map] at s
      exact bad _ s rfl fun h => c3 h.1
end
section
variable {d : List (List Int)}
theorem im_outer (hd : d.length ≤ 1000) (hr : ∀ a, a < d.length → rowLen d a) : ∀ (k i : Nat), i + k = d.length →
    ∃ x E, RunsTo Try.prog polM 46 (sub [1, 1, 1, 0, 1, 0] B46) (imB d i) [] x (polM.keys 46) E [] ∧
      ((x = .exit 2 ∧ E = imB d d.length ∧ ∀ b, i ≤ b → b < d.length → ∀ a, a < d.length → symAt d b a) ∨ (x = .ret ∧ E.get 2 = .bool false ∧ ¬ ∀ b, b < d.length → ∀ a, a < d.length → symAt d b a)) := by
  intro k
  induction k with
  | zero =>
    intro i hi
    have hi : i = d.length := by omega
    subst hi
    have s1 := im_e_1 0 (d.map encR) d.length [] (by rw [List.length_map]; omega)
    have s2 := im_ff_0 0 (d.map encR) d.length []
    rw [List.length_map] at s1 s2
    have t1 := RunsTo.seq_out s2 (by simp) (c := sub [1, 1, 1, 0, 1, 0, 0, 1] B46) (b := sub [1, 1, 1, 0, 1, 0, 0, 1, 1] B46) (by kernel_rfl)
    have t2 := RunsTo.seq s1 t1 (c := sub [1, 1, 1, 0, 1, 0, 0] B46) (by kernel_rfl) (by kernel_rfl)
    exact ⟨_, _, RunsTo.loop_out t2 (by simp) (by kernel_rfl) (by kernel_rfl), .inl ⟨rfl, rfl, fun a h1 h2 => by omega⟩⟩
  | succ k ih =>
    intro i hi
    have hil : i < d.length := by omega
    have s1 := im_e_0 0 (d.map encR) i [] (by rw [List.length_map]; omega)
    have s2 := im_ft_0 0 (d.map encR) i []
    have g1 := im_g_0 0 (d.map encR) i [] [] _ (gri' hil)
    have g2 := im_h_0 0 (d.map encR) i [] ((d.getD i []).map encI)
    rw [List.length_map] at s1 s2 g1
    rw [List.length_map, List.length_map] at g2
    obtain ⟨x, E, h1, h2⟩ := im_cells hd hr hil d.length 0 (by omega)
    have h1' := RunsTo.loop_in (e0 := imE d .undef (.int .i64 (i : Int)) (.imm .arg 1 ((d.getD i []).map encI)) .undef .undef .undef .undef .undef (.imm .arg 1 (d.map encR)) (.int .i64 (d.length : Int)) (.int .i64 (i : Int)) (.imm .arg 1 ((d.getD i []).map encI)) (.int .i64 ((d.getD i []).length : Int)) (.int .i64 0)) h1 (b := sub [1, 1, 1, 0, 1, 0, 0, 1, 1, 0, 0, 1, 1, 0, 0] B46) (by kernel_rfl) (by kernel_rfl) (by kernel_rfl)
    rcases h2 with ⟨rfl, rfl, k3⟩ | ⟨rfl, k2, k3⟩
    · have n1 := im_n_0 0 (d.map encR) i [] ((d.getD i []).map encI) d.length
      rw [wrap_succ (by omega), List.length_map, List.length_map] at n1
      have t1 := RunsTo.seq g2 (RunsTo.block_exit (c := sub [1, 1, 1, 0, 1, 0, 0, 1, 1, 0, 0, 1, 1] B46) h1' (by kernel_rfl)) (c := sub [1, 1, 1, 0, 1, 0, 0, 1, 1, 0, 0, 1] B46) (by kernel_rfl) (by kernel_rfl)
      have t2 := RunsTo.block_normal (i := 3) (c := sub [1, 1, 1, 0, 1, 0, 0, 1, 1, 0] B46) (RunsTo.seq g1 t1 (c := sub [1, 1, 1, 0, 1, 0, 0, 1, 1, 0, 0] B46) (by kernel_rfl) (by kernel_rfl)) (by kernel_rfl)
      have t3 := RunsTo.seq s2 (RunsTo.seq t2 n1 (c := sub [1, 1, 1, 0, 1, 0, 0, 1, 1] B46) (by kernel_rfl) (by kernel_rfl)) (c := sub [1, 1, 1, 0, 1, 0, 0, 1] B46) (by kernel_rfl) (by kernel_rfl)
      have t4 := RunsTo.seq s1 t3 (c := sub [1, 1, 1, 0, 1, 0, 0] B46) (by kernel_rfl) (by kernel_rfl)
      obtain ⟨x, E, r1, r2⟩ := ih (i + 1) (by omega)
      refine ⟨x, E, RunsTo.loop t4 (by kernel_rfl) rfl r1 rfl (by kernel_rfl) (by kernel_rfl), ?_⟩
      rcases r2 with ⟨q1, q2, q3⟩ | r2
      · exact .inl ⟨q1, q2, fun b h1 h2 => by
          by_cases e : b = i
          · rw [e]; exact fun a ha => k3 a (by omega) ha
          · exact q3 b (by omega) h2⟩
      · exact .inr r2
    · have t1 := RunsTo.seq g2 (RunsTo.block_ret (c := sub [1, 1, 1, 0, 1, 0, 0, 1, 1, 0, 0, 1, 1] B46) (i := 4) h1' (by kernel_rfl)) (c := sub [1, 1, 1, 0, 1, 0, 0, 1, 1, 0, 0, 1] B46) (by kernel_rfl) (by kernel_rfl)
      have t2 := RunsTo.block_ret (i := 3) (c := sub [1, 1, 1, 0, 1, 0, 0, 1, 1, 0] B46) (RunsTo.seq g1 t1 (c := sub [1, 1, 1, 0, 1, 0, 0, 1, 1, 0, 0] B46) (by kernel_rfl) (by kernel_rfl)) (by kernel_rfl)
      have t3 := RunsTo.seq s2 (RunsTo.seq_out t2 (by simp) (c := sub [1, 1, 1, 0, 1, 0, 0, 1, 1] B46) (b := sub [1, 1, 1, 0, 1, 0, 0, 1, 1, 1] B46) (by kernel_rfl)) (c := sub [1, 1, 1, 0, 1, 0, 0, 1] B46) (by kernel_rfl) (by kernel_rfl)
      have t4 := RunsTo.seq s1 t3 (c := sub [1, 1, 1, 0, 1, 0, 0] B46) (by kernel_rfl) (by kernel_rfl)
      exact ⟨_, E, RunsTo.loop_out t4 (by simp) (by kernel_rfl) (by kernel_rfl), .inr ⟨rfl, k2, fun h => k3 (h i hil)⟩⟩
end
section
variable {d : List (List Int)}
theorem okD_iff2 : okD d ↔ (1 ≤ d.length ∧ d.length ≤ 11) ∧ (∀ a, a < d.length → rowOk d a) ∧ ∀ b, b < d.length → ∀ a, a < d.length → symAt d b a := by
  rw [okD_iff]
  constructor
  · rintro ⟨h1, h2, h3⟩
    refine ⟨h1, fun a ha => ⟨h2 a ha, fun v hv => ?_⟩, fun b hb a ha => (h3 b hb a ha).2⟩
    obtain ⟨j, hj, rfl⟩ := List.getElem_of_mem hv
    have hjd : j < d.length := by have := h2 a ha; unfold rowLen at this; omega
    have := (h3 a ha j hjd).1
    unfold at2 at this
    rw [getD_at hj] at this
    exact this
  · rintro ⟨h1, h2, h3⟩
    refine ⟨h1, fun a ha => (h2 a ha).1, fun b hb a ha => ⟨?_, h3 b hb a ha⟩⟩
    have hl : a < (d.getD b []).length := by have := (h2 b hb).1; unfold rowLen at this; omega
    have := (h2 b hb).2 _ (List.getElem_mem hl)
    unfold at2
    rw [getD_at hl]
    exact this
end
theorem res46 : Try.f46.results.toList = [.tmp 2] := by kernel_rfl
theorem miles_ok : PrimOk Try.prog 46 miles46 := by
  refine primOk_pure (pol := polM) (fn := Try.f46) (cd := B46) follows_mixed soundM (by kernel_rfl) (by kernel_rfl) (fnok polM.prim _ _ (by kernel_rfl)) (by kernel_rfl) ?_
  intro args res h
  obtain ⟨d, rfl, hq⟩ := rwF_inv h
  clear h
  split at hq
  · rename_i hc
    cases hq
    have hw : ∀ r, r ∈ d → r.length ≤ 1000 := fun r hr => by simpa using List.all_eq_true.1 hc.2 r hr
    have a1 := im_a_0 0 (d.map encR)
    have fin : ∀ b E, RunsTo Try.prog polM 46 (sub [1] B46) (imE d .undef .undef .undef .undef .undef .undef .undef .undef .undef .undef .undef .undef .undef .undef) [] .ret (polM.keys 46) E [] → E.get 2 = .bool b → okB d = b →
        ∃ x E H' v, RunsTo Try.prog polM 46 B46 (args0 [.imm .arg 1 (d.map encR)]) [] x (polM.keys 46) E H' ∧ (∀ i, x ≠ .exit i) ∧ resultsV Try.prog Try.f46 E H' = some v ∧ toRes H' (polM.deep 46) v = some (.bool (okB d)) := by
      intro b E t hE hb
      exact ⟨_, E, [], .bool b, RunsTo.seq a1 t (c := B46) (by kernel_rfl) (by kernel_rfl), by simp, by simp only [resultsV, res46, mapO, resultV, hE], by rw [hb]; rfl⟩
    by_cases c1 : (1 : Int) ≤ (((d.map encR).length : Nat) : Int) ∧ (((d.map encR).length : Nat) : Int) ≤ 11
    · have b1 := im_b_0 0 (d.map encR) c1
      have cc := im_c_0 0 (d.map encR)
      rw [List.length_map] at c1 cc
      obtain ⟨x, E, h1, h2⟩ := im_rows hc.1 hw d.length 0 (by omega)
      rcases h2 with ⟨rfl, rfl, k3⟩ | ⟨rfl, k2, k3⟩
      · have hr : ∀ a, a < d.length → rowLen d a := fun a ha => (k3 a (Nat.zero_le _) ha).1
        have d1 := im_d_0 0 (d.map encR) d.length [] .undef
        rw [List.length_map] at d1
        obtain ⟨x, E, r1, r2⟩ := im_outer hc.1 hr d.length 0 (by omega)
        have r1' := RunsTo.loop_in (e0 := imE d .undef .undef .undef .undef .undef (.imm .arg 1 (d.map encR)) (.int .i64 (d.length : Int)) (.int .i64 (d.length : Int)) (.imm .arg 1 (d.map encR)) (.int .i64 (d.length : Int)) (.int .i64 0) .undef .undef .undef) r1 (b := sub [1, 1, 1, 0, 1, 0, 0] B46) (by kernel_rfl) (by kernel_rfl) (by kernel_rfl)
        have t1 := RunsTo.seq cc (RunsTo.block_exit (c := sub [1, 1, 0, 1] B46) h1 (by kernel_rfl)) (c := sub [1, 1, 0] B46) (by kernel_rfl) (by kernel_rfl)
        rcases r2 with ⟨rfl, rfl, q3⟩ | ⟨rfl, q2, q3⟩
        · have z1 := im_z_0 0 (d.map encR) d.length []
          rw [List.length_map] at z1
          have t2 := RunsTo.seq d1 (RunsTo.block_exit (c := sub [1, 1, 1, 0, 1] B46) r1' (by kernel_rfl)) (c := sub [1, 1, 1, 0] B46) (by kernel_rfl) (by kernel_rfl)
          have t3 := RunsTo.seq t1 (RunsTo.seq t2 z1 (c := sub [1, 1, 1] B46) (by kernel_rfl) (by kernel_rfl)) (c := sub [1, 1] B46) (by kernel_rfl) (by kernel_rfl)
          exact fin true _ (RunsTo.seq b1 t3 (c := sub [1] B46) (by kernel_rfl) (by kernel_rfl)) rfl (okB_true (okD_iff2.2 ⟨⟨by omega, by omega⟩, fun a ha => k3 a (Nat.zero_le _) ha, fun b hb => q3 b (Nat.zero_le _) hb⟩))
        · have t2 := RunsTo.seq d1 (RunsTo.block_ret (c := sub [1, 1, 1, 0, 1] B46) (i := 2) r1' (by kernel_rfl)) (c := sub [1, 1, 1, 0] B46) (by kernel_rfl) (by kernel_rfl)
          have t3 := RunsTo.seq t1 (RunsTo.seq_out t2 (by simp) (c := sub [1, 1, 1] B46) (b := sub [1, 1, 1, 1] B46) (by kernel_rfl)) (c := sub [1, 1] B46) (by kernel_rfl) (by kernel_rfl)
          exact fin false _ (RunsTo.seq b1 t3 (c := sub [1] B46) (by kernel_rfl) (by kernel_rfl)) q2 (okB_false fun h => q3 (okD_iff2.1 h).2.2)
      · have t1 := RunsTo.seq cc (RunsTo.block_ret (c := sub [1, 1, 0, 1] B46) (i := 0) h1 (by kernel_rfl)) (c := sub [1, 1, 0] B46) (by kernel_rfl) (by kernel_rfl)
        have t3 := RunsTo.seq b1 (RunsTo.seq_out t1 (by simp) (c := sub [1, 1] B46) (b := sub [1, 1, 1] B46) (by kernel_rfl)) (c := sub [1] B46) (by kernel_rfl) (by kernel_rfl)
        exact fin false _ t3 k2 (okB_false fun h => k3 (okD_iff2.1 h).2.1)
    · have b1 := im_b_1 0 (d.map encR) c1
      rw [List.length_map] at c1
      exact fin false _ (RunsTo.seq_out b1 (by simp) (c := sub [1] B46) (b := sub [1, 1] B46) (by kernel_rfl)) rfl (okB_false fun h => c1 ⟨by have := h.1.1; omega, by have := h.1.2; omega⟩)
  · cases hq
end Go.Proofs.Ytlendaofkmhgmaa
end
section
open Go Go.HL
namespace Go.Proofs.Ytlendaofkmhgmaa
set_option maxRecDepth 100000
noncomputable def B57 : Code := Try.f57.body.getD .skip
abbrev env57 (v0 v1 v4 v5 v6 v18 v19 v20 : HV) : Env := [(0, v0), (1, v1), (4, v4), (5, v5), (6, v6), (18, v18), (19, v19), (20, v20)]
theorem it_a_0 (rw la : List HV) : RunsTo Try.prog polT 57 (sub [0] B57) [(0, .imm .arg 1 rw), (1, .imm .arg 1 la)] [] .normal (polT.keys 57) (env57 (.imm .arg 1 rw) (.imm .arg 1 la) (.bool false) .undef .undef .undef .undef .undef) [] :=
  RunsTo.hin 0 60 [] fun kf hk => ⟨_, by kernel_rfl, .nil⟩
theorem it_b_0 (rw la : List HV) (x0 : Int) (g0 : (la.length : Int) = (rw.length : Int)) (g1 : idxV Try.prog 23 (.imm .arg 1 la) (.i 0) = some (.vptr (.i x0))) (g2 : x0 = 0) : RunsTo Try.prog polT 57 (sub [1, 0] B57) (env57 (.imm .arg 1 rw) (.imm .arg 1 la) (.bool false) .undef .undef .undef .undef .undef) [] .normal (polT.keys 57) (env57 (.imm .arg 1 rw) (.imm .arg 1 la) (.bool false) .undef .undef .undef .undef .undef) [] :=
  RunsTo.hin 0 60 [⟨1, 4, .bool false, []⟩, ⟨1, 7, .vptr (.i x0), []⟩, ⟨1, 9, .bool false, []⟩] fun kf hk => ⟨_, by kernel_rfl, (oB [] (congrArg not (decide_eq_true g0)) (oP [] g1 (oB [] (congrArg not (decide_eq_true g2)) .nil)))⟩
theorem it_b_1 (rw la : List HV) (x0 : Int) (g0 : (la.length : Int) = (rw.length : Int)) (g1 : idxV Try.prog 23 (.imm .arg 1 la) (.i 0) = some (.vptr (.i x0))) (g2 : ¬ (x0 = 0)) : RunsTo Try.prog polT 57 (sub [1, 0] B57) (env57 (.imm .arg 1 rw) (.imm .arg 1 la) (.bool false) .undef .undef .undef .undef .undef) [] .ret (polT.keys 57) (env57 (.imm .arg 1 rw) (.imm .arg 1 la) (.bool false) .undef .undef .undef .undef .undef) [] :=
  RunsTo.hin 0 60 [⟨1, 4, .bool false, []⟩, ⟨1, 7, .vptr (.i x0), []⟩, ⟨1, 9, .bool true, []⟩] fun kf hk => ⟨_, by kernel_rfl, (oB [] (congrArg not (decide_eq_true g0)) (oP [] g1 (oB [] (congrArg not (decide_eq_false g2)) .nil)))⟩
theorem it_b_2 (rw la : List HV)(g0 : ¬ ((la.length : Int) = (rw.length : Int))) : RunsTo Try.prog polT 57 (sub [1, 0] B57) (env57 (.imm .arg 1 rw) (.imm .arg 1 la) (.bool false) .undef .undef .undef .undef .undef) [] .ret (polT.keys 57) (env57 (.imm .arg 1 rw) (.imm .arg 1 la) (.bool false) .undef .undef .undef .undef .undef) [] :=
  RunsTo.hin 0 60 [⟨1, 4, .bool true, []⟩] fun kf hk => ⟨_, by kernel_rfl, (oB [] (congrArg not (decide_eq_false g0)) .nil)⟩
theorem it_c_0 (rw la : List HV) : RunsTo Try.prog polT 57 (sub [1, 1, 0, 0] B57) (env57 (.imm .arg 1 rw) (.imm .arg 1 la) (.bool false) .undef .undef .undef .undef .undef) [] .normal (polT.keys 57) (env57 (.imm .arg 1 rw) (.imm .arg 1 la) (.bool false) .undef .undef (.imm .arg 1 la) (.i (la.length : Int)) (.i 0)) [] :=
  RunsTo.hin 0 60 [] fun kf hk => ⟨_, by kernel_rfl, .nil⟩
theorem it_l_0 (rw la : List HV) (j : Nat) (x0 : Int) (g0 : (j : Int) < (la.length : Int)) (g1 : idxV Try.prog 23 (.imm .arg 1 la) (.i (j : Int)) = some (.vptr (.i x0))) (g2 : (0 : Int) ≤ x0 ∧ x0 ≤ IntKind.i64.wrap ((rw.length : Int) - 1)) (g3 : sliceV Try.prog 23 (.imm .arg 1 la) none (some (.i (j : Int))) none = some (.imm .arg 1 (la.take j))) (g4 : ∀ kf, callN Try.prog polT (kf + 1) 60 [.imm .arg 1 (la.take j), .i x0] [] = some (.bool true, [])) : RunsTo Try.prog polT 57 (sub [1, 1, 0, 1, 0, 0] B57) (env57 (.imm .arg 1 rw) (.imm .arg 1 la) (.bool false) .undef .undef (.imm .arg 1 la) (.i (la.length : Int)) (.i (j : Int))) [] .ret (polT.keys 57) (env57 (.imm .arg 1 rw) (.imm .arg 1 la) (.bool false) (.i (j : Int)) (.i x0) (.imm .arg 1 la) (.i (la.length : Int)) (.i (j : Int))) [] :=
  RunsTo.hin 0 60 [⟨4, 0, .bool true, []⟩, ⟨5, 1, .vptr (.i x0), []⟩, ⟨6, 4, .bool true, []⟩, ⟨6, 9, .imm .arg 1 (la.take j), []⟩, ⟨6, 11, .bool true, []⟩] fun kf hk => ⟨_, by kernel_rfl, (oB [] (decide_eq_true g0) (oP [] g1 (oB [] (decide_eq_true g2) (oP [] g3 (oC (g4 kf) .nil)))))⟩
theorem it_l_1 (rw la : List HV) (j : Nat) (x0 : Int) (g0 : (j : Int) < (la.length : Int)) (g1 : idxV Try.prog 23 (.imm .arg 1 la) (.i (j : Int)) = some (.vptr (.i x0))) (g2 : (0 : Int) ≤ x0 ∧ x0 ≤ IntKind.i64.wrap ((rw.length : Int) - 1)) (g3 : sliceV Try.prog 23 (.imm .arg 1 la) none (some (.i (j : Int))) none = some (.imm .arg 1 (la.take j))) (g4 : ∀ kf, callN Try.prog polT (kf + 1) 60 [.imm .arg 1 (la.take j), .i x0] [] = some (.bool false, [])) : RunsTo Try.prog polT 57 (sub [1, 1, 0, 1, 0, 0] B57) (env57 (.imm .arg 1 rw) (.imm .arg 1 la) (.bool false) .undef .undef (.imm .arg 1 la) (.i (la.length : Int)) (.i (j : Int))) [] .normal (polT.keys 57) (env57 (.imm .arg 1 rw) (.imm .arg 1 la) (.bool false) (.i (j : Int)) (.i x0) (.imm .arg 1 la) (.i (la.length : Int)) (.i (IntKind.i64.wrap ((j : Int) + 1)))) [] :=
  RunsTo.hin 0 60 [⟨4, 0, .bool true, []⟩, ⟨5, 1, .vptr (.i x0), []⟩, ⟨6, 4, .bool true, []⟩, ⟨6, 9, .imm .arg 1 (la.take j), []⟩, ⟨6, 11, .bool false, []⟩] fun kf hk => ⟨_, by kernel_rfl, (oB [] (decide_eq_true g0) (oP [] g1 (oB [] (decide_eq_true g2) (oP [] g3 (oC (g4 kf) .nil)))))⟩
theorem it_l_2 (rw la : List HV) (j : Nat) (x0 : Int) (g0 : (j : Int) < (la.length : Int)) (g1 : idxV Try.prog 23 (.imm .arg 1 la) (.i (j : Int)) = some (.vptr (.i x0))) (g2 : ¬ ((0 : Int) ≤ x0 ∧ x0 ≤ IntKind.i64.wrap ((rw.length : Int) - 1))) : RunsTo Try.prog polT 57 (sub [1, 1, 0, 1, 0, 0] B57) (env57 (.imm .arg 1 rw) (.imm .arg 1 la) (.bool false) .undef .undef (.imm .arg 1 la) (.i (la.length : Int)) (.i (j : Int))) [] .ret (polT.keys 57) (env57 (.imm .arg 1 rw) (.imm .arg 1 la) (.bool false) (.i (j : Int)) (.i x0) (.imm .arg 1 la) (.i (la.length : Int)) (.i (j : Int))) [] :=
  RunsTo.hin 0 60 [⟨4, 0, .bool true, []⟩, ⟨5, 1, .vptr (.i x0), []⟩, ⟨6, 4, .bool false, []⟩] fun kf hk => ⟨_, by kernel_rfl, (oB [] (decide_eq_true g0) (oP [] g1 (oB [] (decide_eq_false g2) .nil)))⟩
theorem it_l_3 (rw la : List HV) (j : Nat)(g0 : ¬ ((j : Int) < (la.length : Int))) : RunsTo Try.prog polT 57 (sub [1, 1, 0, 1, 0, 0] B57) (env57 (.imm .arg 1 rw) (.imm .arg 1 la) (.bool false) .undef .undef (.imm .arg 1 la) (.i (la.length : Int)) (.i (j : Int))) [] (.exit 0) (polT.keys 57) (env57 (.imm .arg 1 rw) (.imm .arg 1 la) (.bool false) .undef .undef (.imm .arg 1 la) (.i (la.length : Int)) (.i (j : Int))) [] :=
  RunsTo.hin 0 60 [⟨4, 0, .bool false, []⟩] fun kf hk => ⟨_, by kernel_rfl, (oB [] (decide_eq_false g0) .nil)⟩
theorem it_z_0 (rw la : List HV) (j : Nat) : RunsTo Try.prog polT 57 (sub [1, 1, 1] B57) (env57 (.imm .arg 1 rw) (.imm .arg 1 la) (.bool false) .undef .undef (.imm .arg 1 la) (.i (la.length : Int)) (.i (j : Int))) [] .ret (polT.keys 57) (env57 (.imm .arg 1 rw) (.imm .arg 1 la) (.bool true) .undef .undef (.imm .arg 1 la) (.i (la.length : Int)) (.i (j : Int))) [] :=
  RunsTo.hin 0 60 [] fun kf hk => ⟨_, by kernel_rfl, .nil⟩
noncomputable def B34 : Code := Try.f34.body.getD .skip
abbrev env34 (v0 v1 v4 v5 : HV) : Env := [(0, v0), (1, v1), (4, v4), (5, v5)]
theorem le_0 (rw la : List HV) (sm : Int) (g0 : ∀ kf, callN Try.prog polN (kf + 1) 46 [.imm .arg 1 rw] [] = some (.bool true, [])) (g1 : ∀ kf, callN Try.prog polN (kf + 1) 57 [.imm .arg 1 rw, .imm .arg 1 la] [] = some (.bool true, [])) (g2 : ∀ kf, callN Try.prog polN (kf + 1) 56 [.imm .arg 1 rw, .imm .arg 1 la] [] = some (.i sm, [])) : RunsTo Try.prog polN 34 (sub [] B34) [(0, .imm .arg 1 rw), (1, .imm .arg 1 la)] [] .ret (polN.keys 34) (env34 (.imm .arg 1 rw) (.imm .arg 1 la) (.i sm) (.i 0)) [] :=
  RunsTo.hin 0 60 [⟨1, 1, .bool true, []⟩, ⟨1, 6, .bool true, []⟩, ⟨3, 2, .i sm, []⟩] fun kf hk => ⟨_, by kernel_rfl, (oC (g0 kf) (oC (g1 kf) (oC (g2 kf) .nil)))⟩
theorem le_1 (rw la : List HV)(g0 : ∀ kf, callN Try.prog polN (kf + 1) 46 [.imm .arg 1 rw] [] = some (.bool true, [])) (g1 : ∀ kf, callN Try.prog polN (kf + 1) 57 [.imm .arg 1 rw, .imm .arg 1 la] [] = some (.bool false, [])) : RunsTo Try.prog polN 34 (sub [] B34) [(0, .imm .arg 1 rw), (1, .imm .arg 1 la)] [] .ret (polN.keys 34) (env34 (.imm .arg 1 rw) (.imm .arg 1 la) (.i 0) (.i 2)) [] :=
  RunsTo.hin 0 60 [⟨1, 1, .bool true, []⟩, ⟨1, 6, .bool false, []⟩] fun kf hk => ⟨_, by kernel_rfl, (oC (g0 kf) (oC (g1 kf) .nil))⟩
theorem le_2 (rw la : List HV)(g0 : ∀ kf, callN Try.prog polN (kf + 1) 46 [.imm .arg 1 rw] [] = some (.bool false, [])) : RunsTo Try.prog polN 34 (sub [] B34) [(0, .imm .arg 1 rw), (1, .imm .arg 1 la)] [] .ret (polN.keys 34) (env34 (.imm .arg 1 rw) (.imm .arg 1 la) (.i 0) (.i 2)) [] :=
  RunsTo.hin 0 60 [⟨1, 1, .bool false, []⟩] fun kf hk => ⟨_, by kernel_rfl, (oC (g0 kf) .nil)⟩
noncomputable def B52 : Code := Try.f52.body.getD .skip
abbrev env52 (v0 v2 : HV) : Env := [(0, v0), (2, v2)]
theorem cl_1 (l : List HV)(g0 : nilTest Try.prog .eql 23 (.imm .arg 1 l) = some (.bool false)) (g1 : appV [] 1 8 (.imm .lit 1 []) l = some (.sl 0 0 l.length none l.length 1, [.arr 1 l true 0])) : RunsTo Try.prog pol 52 (sub [] B52) [(0, .imm .arg 1 l)] [] .ret (pol.keys 52) (env52 (.imm .arg 1 l) (.sl 0 0 l.length none l.length 1)) [.arr 1 l true 0] :=
  RunsTo.hin 0 60 [⟨1, 1, .bool false, []⟩, ⟨3, 2, .sl 0 0 l.length none l.length 1, [.arr 1 l true 0]⟩] fun kf hk => ⟨_, by kernel_rfl, (oP [] g0 (oC (g1) .nil))⟩
noncomputable def B71 : Code := Try.f71.body.getD .skip
abbrev env71 (v0 v2 v3 : HV) : Env := [(0, v0), (2, v2), (3, v3)]
theorem rv_a_0 (b lo n tot : Nat) (H : Heap) : RunsTo Try.prog polV 71 (sub [0] B71) [(0, .sl b lo n none tot 1)] H .normal (polV.keys 71) (env71 (.sl b lo n none tot 1) (.i 0) (.i (IntKind.i64.wrap ((n : Int) - 1)))) H :=
  RunsTo.hin 0 60 [] fun kf hk => ⟨_, by kernel_rfl, .nil⟩
theorem rv_l_0 (b lo n tot : Nat) (H : Heap) (i j : Nat) (x0 : Int) (x1 : Int) (H0 : Heap) (H1 : Heap) (g0 : (i : Int) < (j : Int)) (g1 : idxV Try.prog 23 (.sl b lo n none tot 1) (.i (j : Int)) = some (.ptr b (lo + j) 0 tot)) (g2 : loadV Try.prog H 3 (.ptr b (lo + j) 0 tot) = some (.i x0)) (g3 : idxV Try.prog 23 (.sl b lo n none tot 1) (.i (i : Int)) = some (.ptr b (lo + i) 0 tot)) (g4 : loadV Try.prog H 3 (.ptr b (lo + i) 0 tot) = some (.i x1)) (g5 : idxV Try.prog 23 (.sl b lo n none tot 1) (.i (i : Int)) = some (.ptr b (lo + i) 0 tot)) (g6 : storeV Try.prog H 3 (.ptr b (lo + i) 0 tot) (.i x0) = some H0) (g7 : idxV Try.prog 23 (.sl b lo n none tot 1) (.i (j : Int)) = some (.ptr b (lo + j) 0 tot)) (g8 : storeV Try.prog H0 3 (.ptr b (lo + j) 0 tot) (.i x1) = some H1) : RunsTo Try.prog polV 71 (sub [1, 0, 0] B71) (env71 (.sl b lo n none tot 1) (.i (i : Int)) (.i (j : Int))) H .normal (polV.keys 71) (env71 (.sl b lo n none tot 1) (.i (IntKind.i64.wrap ((i : Int) + 1))) (.i (IntKind.i64.wrap ((j : Int) - 1)))) H1 :=
  RunsTo.hin 0 60 [⟨1, 2, .bool true, H⟩, ⟨3, 6, .ptr b (lo + j) 0 tot, H⟩, ⟨3, 7, .i x0, H⟩, ⟨3, 10, .ptr b (lo + i) 0 tot, H⟩, ⟨3, 11, .i x1, H⟩, ⟨3, 12, .ptr b (lo + i) 0 tot, H⟩, ⟨3, 13, .tuple [], H0⟩, ⟨3, 14, .ptr b (lo + j) 0 tot, H0⟩, ⟨3, 15, .tuple [], H1⟩] fun kf hk => ⟨_, by kernel_rfl, (oB H (decide_eq_true g0) (oP H g1 (oP H g2 (oP H g3 (oP H g4 (oP H g5 (oS g6 (oP H0 g7 (oS g8 .nil)))))))))⟩
theorem rv_l_1 (b lo n tot : Nat) (H : Heap) (i j : Nat)(g0 : ¬ ((i : Int) < (j : Int))) : RunsTo Try.prog polV 71 (sub [1, 0, 0] B71) (env71 (.sl b lo n none tot 1) (.i (i : Int)) (.i (j : Int))) H (.exit 0) (polV.keys 71) (env71 (.sl b lo n none tot 1) (.i (i : Int)) (.i (j : Int))) H :=
  RunsTo.hin 0 60 [⟨1, 2, .bool false, H⟩] fun kf hk => ⟨_, by kernel_rfl, (oB H (decide_eq_false g0) .nil)⟩
noncomputable def B58 : Code := Try.f58.body.getD .skip
abbrev env58 (v0 v1 v4 v5 v6 v7 v8 v9 : HV) : Env := [(0, v0), (1, v1), (4, v4), (5, v5), (6, v6), (7, v7), (8, v8), (9, v9)]
theorem sh_a_0 (N : Nat) (rw : List HV) (b n : Nat) (H : Heap) : RunsTo Try.prog polV 58 (sub [0] B58) [(0, .imm .arg 1 rw), (1, .sl b 0 n none n 1)] H .normal (polV.keys 58) (env58 (.imm .arg 1 rw) (.sl b 0 n none n 1) (.imm .lit 1 []) (.bool false) .undef .undef .undef .undef) H :=
  RunsTo.hin N 60 [] fun kf hk => ⟨_, by kernel_rfl, .nil⟩
theorem sh_b_0 (N : Nat) (rw : List HV) (b n : Nat) (H : Heap) (sm0 : Int) (H0 : Heap) (g0 : ∀ kf, N ≤ kf → callN Try.prog polV (kf + 1) 56 [.imm .arg 1 rw, .sl b 0 n none n 1] H = some (.i sm0, H0)) : RunsTo Try.prog polV 58 (sub [1, 0] B58) (env58 (.imm .arg 1 rw) (.sl b 0 n none n 1) (.imm .lit 1 []) (.bool false) .undef .undef .undef .undef) H .normal (polV.keys 58) (env58 (.imm .arg 1 rw) (.sl b 0 n none n 1) (.imm .lit 1 []) (.bool false) (.i sm0) .undef .undef .undef) H0 :=
  RunsTo.hin N 60 [⟨1, 2, .i sm0, H0⟩] fun kf hk => ⟨_, by kernel_rfl, (oC (g0 kf (by omega)) .nil)⟩
theorem sh_c_0 (N : Nat) (rw : List HV) (b n : Nat) (H : Heap) (mo : Int) : RunsTo Try.prog polV 58 (sub [1, 1, 0, 0] B58) (env58 (.imm .arg 1 rw) (.sl b 0 n none n 1) (.imm .lit 1 []) (.bool false) (.i mo) .undef .undef .undef) H .normal (polV.keys 58) (env58 (.imm .arg 1 rw) (.sl b 0 n none n 1) (.imm .lit 1 []) (.bool false) (.i mo) (.i 1) .undef .undef) H :=
  RunsTo.hin N 60 [] fun kf hk => ⟨_, by kernel_rfl, .nil⟩
theorem sh_d_0 (N : Nat) (rw : List HV) (b n : Nat) (H : Heap) (mo : Int) (i : Nat)(g0 : (i : Int) < (n : Int)) : RunsTo Try.prog polV 58 (sub [1, 1, 0, 1, 0, 0, 0] B58) (env58 (.imm .arg 1 rw) (.sl b 0 n none n 1) (.imm .lit 1 []) (.bool false) (.i mo) (.i (i : Int)) .undef .undef) H .normal (polV.keys 58) (env58 (.imm .arg 1 rw) (.sl b 0 n none n 1) (.imm .lit 1 []) (.bool false) (.i mo) (.i (i : Int)) .undef .undef) H :=
  RunsTo.hin N 60 [⟨3, 3, .bool true, H⟩] fun kf hk => ⟨_, by kernel_rfl, (oB H (decide_eq_true g0) .nil)⟩
theorem sh_d_1 (N : Nat) (rw : List HV) (b n : Nat) (H : Heap) (mo : Int) (i : Nat)(g0 : ¬ ((i : Int) < (n : Int))) : RunsTo Try.prog polV 58 (sub [1, 1, 0, 1, 0, 0, 0] B58) (env58 (.imm .arg 1 rw) (.sl b 0 n none n 1) (.imm .lit 1 []) (.bool false) (.i mo) (.i (i : Int)) .undef .undef) H (.exit 0) (polV.keys 58) (env58 (.imm .arg 1 rw) (.sl b 0 n none n 1) (.imm .lit 1 []) (.bool false) (.i mo) (.i (i : Int)) .undef .undef) H :=
  RunsTo.hin N 60 [⟨3, 3, .bool false, H⟩] fun kf hk => ⟨_, by kernel_rfl, (oB H (decide_eq_false g0) .nil)⟩
theorem sh_e_0 (N : Nat) (rw : List HV) (b n : Nat) (H : Heap) (mo : Int) (i : Nat) : RunsTo Try.prog polV 58 (sub [1, 1, 0, 1, 0, 0, 1, 0, 0, 0] B58) (env58 (.imm .arg 1 rw) (.sl b 0 n none n 1) (.imm .lit 1 []) (.bool false) (.i mo) (.i (i : Int)) .undef .undef) H .normal (polV.keys 58) (env58 (.imm .arg 1 rw) (.sl b 0 n none n 1) (.imm .lit 1 []) (.bool false) (.i mo) (.i (i : Int)) (.i (IntKind.i64.wrap ((i : Int) + 1))) .undef) H :=
  RunsTo.hin N 60 [] fun kf hk => ⟨_, by kernel_rfl, .nil⟩
theorem sh_l_0 (N : Nat) (rw : List HV) (b n : Nat) (H : Heap) (mo : Int) (i : Nat) (j cb : Nat) (H0 : Heap) (H1 : Heap) (sm0 : Int) (H2 : Heap) (g0 : (j : Int) < (n : Int)) (g1 : ∀ kf, N ≤ kf → callN Try.prog polV (kf + 1) 52 [.sl b 0 n none n 1] H = some (.sl cb 0 n none n 1, H0)) (g2 : sliceV Try.prog 23 (.sl cb 0 n none n 1) (some (.i (i : Int))) (some (.i (IntKind.i64.wrap ((j : Int) + 1)))) none = some (.sl cb i ((j + 1) - i) none n 1)) (g3 : ∀ kf, N ≤ kf → callN Try.prog polV (kf + 1) 71 [.sl cb i ((j + 1) - i) none n 1] H0 = some (.tuple [], H1)) (g4 : ∀ kf, N ≤ kf → callN Try.prog polV (kf + 1) 56 [.imm .arg 1 rw, .sl cb 0 n none n 1] H1 = some (.i sm0, H2)) (g5 : sm0 < mo) : RunsTo Try.prog polV 58 (sub [1, 1, 0, 1, 0, 0, 1, 0, 0, 1, 0, 0] B58) (env58 (.imm .arg 1 rw) (.sl b 0 n none n 1) (.imm .lit 1 []) (.bool false) (.i mo) (.i (i : Int)) (.i (j : Int)) .undef) H .ret (polV.keys 58) (env58 (.imm .arg 1 rw) (.sl b 0 n none n 1) (.sl cb 0 n none n 1) (.bool true) (.i mo) (.i (i : Int)) (.i (j : Int)) (.sl cb 0 n none n 1)) H2 :=
  RunsTo.hin N 60 [⟨6, 3, .bool true, H⟩, ⟨8, 1, .sl cb 0 n none n 1, H0⟩, ⟨9, 4, .sl cb i ((j + 1) - i) none n 1, H0⟩, ⟨9, 5, .tuple [], H1⟩, ⟨10, 2, .i sm0, H2⟩, ⟨10, 4, .bool true, H2⟩] fun kf hk => ⟨_, by kernel_rfl, (oB H (decide_eq_true g0) (oC (g1 kf (by omega)) (oP H0 g2 (oC (g3 kf (by omega)) (oC (g4 kf (by omega)) (oB H2 (decide_eq_true g5) .nil))))))⟩
theorem sh_l_1 (N : Nat) (rw : List HV) (b n : Nat) (H : Heap) (mo : Int) (i : Nat) (j cb : Nat) (H0 : Heap) (H1 : Heap) (sm0 : Int) (H2 : Heap) (g0 : (j : Int) < (n : Int)) (g1 : ∀ kf, N ≤ kf → callN Try.prog polV (kf + 1) 52 [.sl b 0 n none n 1] H = some (.sl cb 0 n none n 1, H0)) (g2 : sliceV Try.prog 23 (.sl cb 0 n none n 1) (some (.i (i : Int))) (some (.i (IntKind.i64.wrap ((j : Int) + 1)))) none = some (.sl cb i ((j + 1) - i) none n 1)) (g3 : ∀ kf, N ≤ kf → callN Try.prog polV (kf + 1) 71 [.sl cb i ((j + 1) - i) none n 1] H0 = some (.tuple [], H1)) (g4 : ∀ kf, N ≤ kf → callN Try.prog polV (kf + 1) 56 [.imm .arg 1 rw, .sl cb 0 n none n 1] H1 = some (.i sm0, H2)) (g5 : ¬ (sm0 < mo)) : RunsTo Try.prog polV 58 (sub [1, 1, 0, 1, 0, 0, 1, 0, 0, 1, 0, 0] B58) (env58 (.imm .arg 1 rw) (.sl b 0 n none n 1) (.imm .lit 1 []) (.bool false) (.i mo) (.i (i : Int)) (.i (j : Int)) .undef) H .normal (polV.keys 58) (env58 (.imm .arg 1 rw) (.sl b 0 n none n 1) (.imm .lit 1 []) (.bool false) (.i mo) (.i (i : Int)) (.i (IntKind.i64.wrap ((j : Int) + 1))) (.sl cb 0 n none n 1)) H2 :=
  RunsTo.hin N 60 [⟨6, 3, .bool true, H⟩, ⟨8, 1, .sl cb 0 n none n 1, H0⟩, ⟨9, 4, .sl cb i ((j + 1) - i) none n 1, H0⟩, ⟨9, 5, .tuple [], H1⟩, ⟨10, 2, .i sm0, H2⟩, ⟨10, 4, .bool false, H2⟩] fun kf hk => ⟨_, by kernel_rfl, (oB H (decide_eq_true g0) (oC (g1 kf (by omega)) (oP H0 g2 (oC (g3 kf (by omega)) (oC (g4 kf (by omega)) (oB H2 (decide_eq_false g5) .nil))))))⟩
theorem sh_l_2 (N : Nat) (rw : List HV) (b n : Nat) (H : Heap) (mo : Int) (i : Nat) (j cb : Nat)(g0 : ¬ ((j : Int) < (n : Int))) : RunsTo Try.prog polV 58 (sub [1, 1, 0, 1, 0, 0, 1, 0, 0, 1, 0, 0] B58) (env58 (.imm .arg 1 rw) (.sl b 0 n none n 1) (.imm .lit 1 []) (.bool false) (.i mo) (.i (i : Int)) (.i (j : Int)) .undef) H (.exit 2) (polV.keys 58) (env58 (.imm .arg 1 rw) (.sl b 0 n none n 1) (.imm .lit 1 []) (.bool false) (.i mo) (.i (i : Int)) (.i (j : Int)) .undef) H :=
  RunsTo.hin N 60 [⟨6, 3, .bool false, H⟩] fun kf hk => ⟨_, by kernel_rfl, (oB H (decide_eq_false g0) .nil)⟩
theorem sh_f_0 (N : Nat) (rw : List HV) (b n : Nat) (H : Heap) (mo : Int) (i : Nat) (j cb : Nat) : RunsTo Try.prog polV 58 (sub [1, 1, 0, 1, 0, 0, 1, 1] B58) (env58 (.imm .arg 1 rw) (.sl b 0 n none n 1) (.imm .lit 1 []) (.bool false) (.i mo) (.i (i : Int)) (.i (j : Int)) .undef) H .normal (polV.keys 58) (env58 (.imm .arg 1 rw) (.sl b 0 n none n 1) (.imm .lit 1 []) (.bool false) (.i mo) (.i (IntKind.i64.wrap ((i : Int) + 1))) (.i (j : Int)) .undef) H :=
  RunsTo.hin N 60 [] fun kf hk => ⟨_, by kernel_rfl, .nil⟩
theorem sh_z_0 (N : Nat) (rw : List HV) (b n : Nat) (H : Heap) (mo : Int) (i : Nat) : RunsTo Try.prog polV 58 (sub [1, 1, 1] B58) (env58 (.imm .arg 1 rw) (.sl b 0 n none n 1) (.imm .lit 1 []) (.bool false) (.i mo) (.i (i : Int)) .undef .undef) H .ret (polV.keys 58) (env58 (.imm .arg 1 rw) (.sl b 0 n none n 1) (.sl b 0 n none n 1) (.bool false) (.i mo) (.i (i : Int)) .undef .undef) H :=
  RunsTo.hin N 60 [] fun kf hk => ⟨_, by kernel_rfl, .nil⟩
noncomputable def B35 : Code := Try.f35.body.getD .skip
abbrev env35 (v0 v1 v4 v5 v6 v7 : HV) : Env := [(0, v0), (1, v1), (4, v4), (5, v5), (6, v6), (7, v7)]
theorem ip_a_0 (N : Nat) (rw la : List HV) : RunsTo Try.prog polV 35 (sub [0] B35) [(0, .imm .arg 1 rw), (1, .imm .arg 1 la)] [] .normal (polV.keys 35) (env35 (.imm .arg 1 rw) (.imm .arg 1 la) (.imm .lit 1 []) (.i 0) .undef .undef) [] :=
  RunsTo.hin N 60 [] fun kf hk => ⟨_, by kernel_rfl, .nil⟩
theorem ip_b_0 (N : Nat) (rw la : List HV)(g0 : ∀ kf, callN Try.prog polV (kf + 1) 46 [.imm .arg 1 rw] [] = some (.bool true, [])) (g1 : ∀ kf, callN Try.prog polV (kf + 1) 57 [.imm .arg 1 rw, .imm .arg 1 la] [] = some (.bool true, [])) : RunsTo Try.prog polV 35 (sub [1, 0] B35) (env35 (.imm .arg 1 rw) (.imm .arg 1 la) (.imm .lit 1 []) (.i 0) .undef .undef) [] .normal (polV.keys 35) (env35 (.imm .arg 1 rw) (.imm .arg 1 la) (.imm .lit 1 []) (.i 0) .undef .undef) [] :=
  RunsTo.hin N 60 [⟨1, 1, .bool true, []⟩, ⟨1, 6, .bool true, []⟩] fun kf hk => ⟨_, by kernel_rfl, (oC (g0 kf) (oC (g1 kf) .nil))⟩
theorem ip_b_1 (N : Nat) (rw la : List HV)(g0 : ∀ kf, callN Try.prog polV (kf + 1) 46 [.imm .arg 1 rw] [] = some (.bool true, [])) (g1 : ∀ kf, callN Try.prog polV (kf + 1) 57 [.imm .arg 1 rw, .imm .arg 1 la] [] = some (.bool false, [])) : RunsTo Try.prog polV 35 (sub [1, 0] B35) (env35 (.imm .arg 1 rw) (.imm .arg 1 la) (.imm .lit 1 []) (.i 0) .undef .undef) [] .ret (polV.keys 35) (env35 (.imm .arg 1 rw) (.imm .arg 1 la) (.imm .lit 1 []) (.i 2) .undef .undef) [] :=
  RunsTo.hin N 60 [⟨1, 1, .bool true, []⟩, ⟨1, 6, .bool false, []⟩] fun kf hk => ⟨_, by kernel_rfl, (oC (g0 kf) (oC (g1 kf) .nil))⟩
theorem ip_b_2 (N : Nat) (rw la : List HV)(g0 : ∀ kf, callN Try.prog polV (kf + 1) 46 [.imm .arg 1 rw] [] = some (.bool false, [])) : RunsTo Try.prog polV 35 (sub [1, 0] B35) (env35 (.imm .arg 1 rw) (.imm .arg 1 la) (.imm .lit 1 []) (.i 0) .undef .undef) [] .ret (polV.keys 35) (env35 (.imm .arg 1 rw) (.imm .arg 1 la) (.imm .lit 1 []) (.i 2) .undef .undef) [] :=
  RunsTo.hin N 60 [⟨1, 1, .bool false, []⟩] fun kf hk => ⟨_, by kernel_rfl, (oC (g0 kf) .nil)⟩
theorem ip_c_0 (N : Nat) (rw la : List HV) (n : Nat) (els : List HV) (g0 : ∀ kf, callN Try.prog polV (kf + 1) 52 [.imm .arg 1 la] [] = some (.sl 0 0 n none n 1, [.arr 1 els true 0])) : RunsTo Try.prog polV 35 (sub [1, 1, 0] B35) (env35 (.imm .arg 1 rw) (.imm .arg 1 la) (.imm .lit 1 []) (.i 0) .undef .undef) [] .normal (polV.keys 35) (env35 (.imm .arg 1 rw) (.imm .arg 1 la) (.imm .lit 1 []) (.i 0) (.sl 0 0 n none n 1) .undef) [.arr 1 els true 0] :=
  RunsTo.hin N 60 [⟨3, 1, .sl 0 0 n none n 1, [.arr 1 els true 0]⟩] fun kf hk => ⟨_, by kernel_rfl, (oC (g0 kf) .nil)⟩
theorem ip_d_0 (N : Nat) (rw la : List HV) (b n : Nat) (H : Heap) : RunsTo Try.prog polV 35 (sub [1, 1, 1, 0, 0] B35) (env35 (.imm .arg 1 rw) (.imm .arg 1 la) (.imm .lit 1 []) (.i 0) (.sl b 0 n none n 1) .undef) H .normal (polV.keys 35) (env35 (.imm .arg 1 rw) (.imm .arg 1 la) (.imm .lit 1 []) (.i 0) (.sl b 0 n none n 1) (.bool true)) H :=
  RunsTo.hin N 60 [] fun kf hk => ⟨_, by kernel_rfl, .nil⟩
theorem ip_lt_0 (N : Nat) (rw la : List HV) (b n : Nat) (H : Heap) (cb : Nat) (H0 : Heap) (g0 : ∀ kf, N ≤ kf → callN Try.prog polV (kf + 1) 58 [.imm .arg 1 rw, .sl b 0 n none n 1] H = some (.tuple [.sl cb 0 n none n 1, .bool true], H0)) : RunsTo Try.prog polV 35 (sub [1, 1, 1, 0, 1, 0, 0] B35) (env35 (.imm .arg 1 rw) (.imm .arg 1 la) (.imm .lit 1 []) (.i 0) (.sl b 0 n none n 1) (.bool true)) H .normal (polV.keys 35) (env35 (.imm .arg 1 rw) (.imm .arg 1 la) (.imm .lit 1 []) (.i 0) (.sl cb 0 n none n 1) (.bool true)) H0 :=
  RunsTo.hin N 60 [⟨6, 2, .tuple [.sl cb 0 n none n 1, .bool true], H0⟩] fun kf hk => ⟨_, by kernel_rfl, (oC (g0 kf (by omega)) .nil)⟩
theorem ip_lt_1 (N : Nat) (rw la : List HV) (b n : Nat) (H : Heap) (cb : Nat) (H0 : Heap) (g0 : ∀ kf, N ≤ kf → callN Try.prog polV (kf + 1) 58 [.imm .arg 1 rw, .sl b 0 n none n 1] H = some (.tuple [.sl cb 0 n none n 1, .bool false], H0)) : RunsTo Try.prog polV 35 (sub [1, 1, 1, 0, 1, 0, 0] B35) (env35 (.imm .arg 1 rw) (.imm .arg 1 la) (.imm .lit 1 []) (.i 0) (.sl b 0 n none n 1) (.bool true)) H .normal (polV.keys 35) (env35 (.imm .arg 1 rw) (.imm .arg 1 la) (.imm .lit 1 []) (.i 0) (.sl cb 0 n none n 1) (.bool false)) H0 :=
  RunsTo.hin N 60 [⟨6, 2, .tuple [.sl cb 0 n none n 1, .bool false], H0⟩] fun kf hk => ⟨_, by kernel_rfl, (oC (g0 kf (by omega)) .nil)⟩
theorem ip_lf_0 (N : Nat) (rw la : List HV) (b n : Nat) (H : Heap) : RunsTo Try.prog polV 35 (sub [1, 1, 1, 0, 1, 0, 0] B35) (env35 (.imm .arg 1 rw) (.imm .arg 1 la) (.imm .lit 1 []) (.i 0) (.sl b 0 n none n 1) (.bool false)) H (.exit 0) (polV.keys 35) (env35 (.imm .arg 1 rw) (.imm .arg 1 la) (.imm .lit 1 []) (.i 0) (.sl b 0 n none n 1) (.bool false)) H :=
  RunsTo.hin N 60 [] fun kf hk => ⟨_, by kernel_rfl, .nil⟩
theorem ip_z_0 (N : Nat) (rw la : List HV) (b n : Nat) (H : Heap) : RunsTo Try.prog polV 35 (sub [1, 1, 1, 1] B35) (env35 (.imm .arg 1 rw) (.imm .arg 1 la) (.imm .lit 1 []) (.i 0) (.sl b 0 n none n 1) (.bool false)) H .ret (polV.keys 35) (env35 (.imm .arg 1 rw) (.imm .arg 1 la) (.sl b 0 n none n 1) (.i 0) (.sl b 0 n none n 1) (.bool false)) H :=
  RunsTo.hin N 60 [] fun kf hk => ⟨_, by kernel_rfl, .nil⟩
noncomputable def B39 : Code := Try.f39.body.getD .skip
abbrev env39 (v0 v1 v2 v6 v7 v8 : HV) : Env := [(0, v0), (1, v1), (2, v2), (6, v6), (7, v7), (8, v8)]
theorem re_a_0 (la : List HV) (i j : Nat) : RunsTo Try.prog pol 39 (sub [0] B39) [(0, .imm .arg 1 la), (1, .i (i : Int)), (2, .i (j : Int))] [] .normal (pol.keys 39) (env39 (.imm .arg 1 la) (.i (i : Int)) (.i (j : Int)) (.imm .lit 1 []) .undef .undef) [] :=
  RunsTo.hin 0 60 [] fun kf hk => ⟨_, by kernel_rfl, .nil⟩
theorem re_b_0 (la : List HV) (i j : Nat) : RunsTo Try.prog pol 39 (sub [1, 0] B39) (env39 (.imm .arg 1 la) (.i (i : Int)) (.i (j : Int)) (.imm .lit 1 []) .undef .undef) [] .normal (pol.keys 39) (env39 (.imm .arg 1 la) (.i (i : Int)) (.i (j : Int)) (.imm .lit 1 []) (.sl 0 0 0 none 0 1) .undef) [.arr 1 [] true 0] :=
  RunsTo.hin 0 60 [] fun kf hk => ⟨_, by kernel_rfl, .nil⟩
theorem re_c_0 (la : List HV) (i j : Nat)(g0 : sliceV Try.prog 23 (.imm .arg 1 la) none (some (.i (i : Int))) none = some (.imm .arg 1 (la.take i))) (g1 : appV [.arr 1 [] true 0] 1 8 (.sl 0 0 0 none 0 1) (la.take i) = some (.sl 0 0 ((la.take i).length) none ((la.take i).length) 1, [.arr 1 (la.take i) true 0])) : RunsTo Try.prog pol 39 (sub [1, 1, 0] B39) (env39 (.imm .arg 1 la) (.i (i : Int)) (.i (j : Int)) (.imm .lit 1 []) (.sl 0 0 0 none 0 1) .undef) [.arr 1 [] true 0] .normal (pol.keys 39) (env39 (.imm .arg 1 la) (.i (i : Int)) (.i (j : Int)) (.imm .lit 1 []) (.sl 0 0 ((la.take i).length) none ((la.take i).length) 1) .undef) [.arr 1 (la.take i) true 0] :=
  RunsTo.hin 0 60 [⟨2, 3, .imm .arg 1 (la.take i), [.arr 1 [] true 0]⟩, ⟨2, 4, .sl 0 0 ((la.take i).length) none ((la.take i).length) 1, [.arr 1 (la.take i) true 0]⟩] fun kf hk => ⟨_, by kernel_rfl, (oP [.arr 1 [] true 0] g0 (oC (g1) .nil))⟩
theorem re_d_0 (la : List HV) (i j : Nat) (os : List HV) (p : Nat) : RunsTo Try.prog pol 39 (sub [1, 1, 1, 0, 0] B39) (env39 (.imm .arg 1 la) (.i (i : Int)) (.i (j : Int)) (.imm .lit 1 []) (.sl 0 0 p none p 1) .undef) [.arr 1 os true 0] .normal (pol.keys 39) (env39 (.imm .arg 1 la) (.i (i : Int)) (.i (j : Int)) (.imm .lit 1 []) (.sl 0 0 p none p 1) (.i (j : Int))) [.arr 1 os true 0] :=
  RunsTo.hin 0 60 [] fun kf hk => ⟨_, by kernel_rfl, .nil⟩
theorem re_l_0 (la : List HV) (i j : Nat) (os : List HV) (p : Nat) (d : Int) (x0 : Int) (g0 : (i : Int) ≤ d) (g1 : idxV Try.prog 23 (.imm .arg 1 la) (.i d) = some (.vptr (.i x0))) (g2 : appV [.arr 1 os true 0] 1 8 (.sl 0 0 p none p 1) [.i x0] = some (.sl 0 0 (p + 1) none (p + 1) 1, [.arr 1 (os ++ [.i x0]) true 0])) : RunsTo Try.prog pol 39 (sub [1, 1, 1, 0, 1, 0, 0] B39) (env39 (.imm .arg 1 la) (.i (i : Int)) (.i (j : Int)) (.imm .lit 1 []) (.sl 0 0 p none p 1) (.i d)) [.arr 1 os true 0] .normal (pol.keys 39) (env39 (.imm .arg 1 la) (.i (i : Int)) (.i (j : Int)) (.imm .lit 1 []) (.sl 0 0 (p + 1) none (p + 1) 1) (.i (IntKind.i64.wrap (d - 1)))) [.arr 1 (os ++ [.i x0]) true 0] :=
  RunsTo.hin 0 60 [⟨4, 2, .bool true, [.arr 1 os true 0]⟩, ⟨6, 3, .vptr (.i x0), [.arr 1 os true 0]⟩, ⟨6, 6, .sl 0 0 (p + 1) none (p + 1) 1, [.arr 1 (os ++ [.i x0]) true 0]⟩] fun kf hk => ⟨_, by kernel_rfl, (oB [.arr 1 os true 0] (decide_eq_true g0) (oP [.arr 1 os true 0] g1 (oC (g2) .nil)))⟩
theorem re_l_1 (la : List HV) (i j : Nat) (os : List HV) (p : Nat) (d : Int)(g0 : ¬ ((i : Int) ≤ d)) : RunsTo Try.prog pol 39 (sub [1, 1, 1, 0, 1, 0, 0] B39) (env39 (.imm .arg 1 la) (.i (i : Int)) (.i (j : Int)) (.imm .lit 1 []) (.sl 0 0 p none p 1) (.i d)) [.arr 1 os true 0] (.exit 0) (pol.keys 39) (env39 (.imm .arg 1 la) (.i (i : Int)) (.i (j : Int)) (.imm .lit 1 []) (.sl 0 0 p none p 1) (.i d)) [.arr 1 os true 0] :=
  RunsTo.hin 0 60 [⟨4, 2, .bool false, [.arr 1 os true 0]⟩] fun kf hk => ⟨_, by kernel_rfl, (oB [.arr 1 os true 0] (decide_eq_false g0) .nil)⟩
theorem re_z_0 (la : List HV) (i j : Nat) (os : List HV) (p : Nat) (d : Int)(g0 : sliceV Try.prog 23 (.imm .arg 1 la) (some (.i (IntKind.i64.wrap ((j : Int) + 1)))) none none = some (.imm .arg 1 (la.drop (j + 1)))) (g1 : appV [.arr 1 os true 0] 1 8 (.sl 0 0 p none p 1) (la.drop (j + 1)) = some (.sl 0 0 (p + (la.drop (j + 1)).length) none (p + (la.drop (j + 1)).length) 1, [.arr 1 (os ++ (la.drop (j + 1))) true 0])) : RunsTo Try.prog pol 39 (sub [1, 1, 1, 1] B39) (env39 (.imm .arg 1 la) (.i (i : Int)) (.i (j : Int)) (.imm .lit 1 []) (.sl 0 0 p none p 1) (.i d)) [.arr 1 os true 0] .ret (pol.keys 39) (env39 (.imm .arg 1 la) (.i (i : Int)) (.i (j : Int)) (.sl 0 0 (p + (la.drop (j + 1)).length) none (p + (la.drop (j + 1)).length) 1) (.sl 0 0 p none p 1) (.i d)) [.arr 1 (os ++ (la.drop (j + 1))) true 0] :=
  RunsTo.hin 0 60 [⟨7, 4, .imm .arg 1 (la.drop (j + 1)), [.arr 1 os true 0]⟩, ⟨7, 5, .sl 0 0 (p + (la.drop (j + 1)).length) none (p + (la.drop (j + 1)).length) 1, [.arr 1 (os ++ (la.drop (j + 1))) true 0]⟩] fun kf hk => ⟨_, by kernel_rfl, (oP [.arr 1 os true 0] g0 (oC (g1) .nil))⟩
end Go.Proofs.Ytlendaofkmhgmaa
end
section
open Go Go.HL
namespace Go.Proofs.Ytlendaofkmhgmaa
theorem soundT (n : Nat) : CallSound Try.prog (callN Try.prog polT n) := sound_prim _ (fun g f h => by
  split at h
  · rename_i hg; cases h; rw [eq_of_beq hg]; exact within_ok
  split at h
  · rename_i hg; cases h; rw [eq_of_beq hg]; exact contains_ok
  · cases h) n
theorem prim_contains {pol' : Pol} (hp : pol'.prim 60 = some contains60) {l : List Int} (hl : l.length ≤ 1000) (v : Int) (H : Heap) (b : Bool) (hb : decide (v ∈ l) = b) : ∀ k, callN Try.prog pol' (k + 1) 60 [.imm .arg 1 (l.map encI), .int .i64 v] H = some (.bool b, H) := fun k => by
  rw [prim_call (pol := pol') (g := 60) (F := contains60) hp (rs := [.imm .arg 1 (l.map encI), .int .i64 v]) (by simp only [mapO, arg_li]; rfl) (res := .bool b) (by simp only [contains60, lnF, mapO_map decI_enc]; rw [if_pos hl, hb])]; rfl
abbrev itE (d : List (List Int)) (l : List Int) (j : Nat) : Env := env57 (.imm .arg 1 (d.map encR)) (.imm .arg 1 (l.map encI)) (.bool false) .undef .undef (.imm .arg 1 (l.map encI)) (.int .i64 (l.length : Int)) (.int .i64 (j : Int))
theorem it_loop {d : List (List Int)} {l : List Int} (hd : d.length ≤ 1000) (hl : l.length ≤ 1000) : ∀ (k j : Nat), j + k = l.length → Gd d.length l j →
    ∃ x E, RunsTo Try.prog polT 57 (sub [1, 1, 0, 1, 0] B57) (itE d l j) [] x (polT.keys 57) E [] ∧
      ((x = .exit 0 ∧ E = itE d l l.length ∧ (inT d.length l ∧ l.Nodup)) ∨ (x = .ret ∧ E.get 4 = .bool false ∧ ¬ (inT d.length l ∧ l.Nodup))) := by
  intro k
  induction k with
  | zero =>
    intro j hj hG
    have hj : j = l.length := by omega
    subst hj
    have s1 := it_l_3 (d.map encR) (l.map encI) l.length (by simp)
    rw [List.length_map] at s1
    exact ⟨_, _, RunsTo.loop_out s1 (by simp) (by kernel_rfl) (by kernel_rfl), .inl ⟨rfl, rfl, hG.all⟩⟩
  | succ k ih =>
    intro j hj hG
    have hjl : j < l.length := by omega
    have g := gx hjl
    rw [getD_at hjl] at g
    have hmem : l[j] ∈ l := List.getElem_mem hjl
    have hw : IntKind.i64.wrap (((d.map encR).length : Int) - 1) = (d.length : Int) - 1 := by rw [List.length_map, wrapI64]; omega
    by_cases c1 : (0 : Int) ≤ l[j] ∧ l[j] ≤ IntKind.i64.wrap (((d.map encR).length : Int) - 1)
    · have c1' := c1
      rw [hw] at c1'
      have gs : sliceV Try.prog 23 (.imm .arg 1 (l.map encI)) none (some (.int .i64 (j : Int))) none = some (.imm .arg 1 ((l.map encI).take j)) := slice_imm (by rw [List.length_map]; omega)
      have et : (l.map encI).take j = (l.take j).map encI := List.map_take.symm
      by_cases c2 : l[j] ∈ l.take j
      · have s1 := it_l_0 (d.map encR) (l.map encI) j _ (by simp; omega) g c1 gs (by rw [et]; exact prim_contains (by kernel_rfl) (by rw [List.length_take]; omega) _ _ true (decide_eq_true c2))
        rw [List.length_map] at s1
        exact ⟨_, _, RunsTo.loop_out s1 (by simp) (by kernel_rfl) (by kernel_rfl), .inr ⟨rfl, rfl, fun h => dup_not hjl c2 h.2⟩⟩
      · have s1 := it_l_1 (d.map encR) (l.map encI) j _ (by simp; omega) g c1 gs (by rw [et]; exact prim_contains (by kernel_rfl) (by rw [List.length_take]; omega) _ _ false (decide_eq_false c2))
        rw [wrap_succ (by omega), List.length_map] at s1
        obtain ⟨x, E, h1, h2⟩ := ih (j + 1) (by omega) (hG.succ hjl ⟨c1.1, by omega⟩ c2)
        exact ⟨x, E, RunsTo.loop s1 (by kernel_rfl) rfl h1 rfl (by kernel_rfl) (by kernel_rfl), h2⟩
    · have s1 := it_l_2 (d.map encR) (l.map encI) j _ (by simp; omega) g c1
      rw [List.length_map (f := encI)] at s1
      rw [hw] at c1
      exact ⟨_, _, RunsTo.loop_out s1 (by simp) (by kernel_rfl) (by kernel_rfl), .inr ⟨rfl, rfl, fun h => by have := h.1 _ hmem; omega⟩⟩
theorem res57 : Try.f57.results.toList = [.tmp 4] := by kernel_rfl
theorem mtour_ok : PrimOk Try.prog 57 tour57 := by
  refine primOk_pure (pol := polT) (fn := Try.f57) (cd := B57) follows_mixed soundT (by kernel_rfl) (by kernel_rfl) (fnok polT.prim _ _ (by kernel_rfl)) (by kernel_rfl) ?_
  intro args res h
  obtain ⟨d, l, rfl, hq⟩ := rlF_inv h
  clear h
  split at hq
  · rename_i hc
    cases hq
    have a1 := it_a_0 (d.map encR) (l.map encI)
    have fin : ∀ b E, RunsTo Try.prog polT 57 (sub [1] B57) (env57 (.imm .arg 1 (d.map encR)) (.imm .arg 1 (l.map encI)) (.bool false) .undef .undef .undef .undef .undef) [] .ret (polT.keys 57) E [] → E.get 4 = .bool b → trOk d.length l = b →
        ∃ x E H' v, RunsTo Try.prog polT 57 B57 (args0 [.imm .arg 1 (d.map encR), .imm .arg 1 (l.map encI)]) [] x (polT.keys 57) E H' ∧ (∀ i, x ≠ .exit i) ∧ resultsV Try.prog Try.f57 E H' = some v ∧ toRes H' (polT.deep 57) v = some (.bool (trOk d.length l)) := by
      intro b E t hE hb
      exact ⟨_, E, [], .bool b, RunsTo.seq a1 t (c := B57) (by kernel_rfl) (by kernel_rfl), by simp, by simp only [resultsV, res57, mapO, resultV, hE], by rw [hb]; rfl⟩
    by_cases e1 : l.length = d.length
    · have g0 := gx (l := l) (y := 0) (by omega)
      by_cases e2 : l.getD 0 0 = 0
      · have b1 := it_b_0 (d.map encR) (l.map encI) _ (by simp [e1]) g0 e2
        have c1 := it_c_0 (d.map encR) (l.map encI)
        rw [List.length_map (f := encI)] at c1
        obtain ⟨x, E, h1, h2⟩ := it_loop (d := d) (by omega) hc.2 l.length 0 (by omega) (Gd.zero _ l)
        rcases h2 with ⟨rfl, rfl, h3⟩ | ⟨rfl, k2, k3⟩
        · have z1 := it_z_0 (d.map encR) (l.map encI) l.length
          rw [List.length_map (f := encI)] at z1
          have t1 := RunsTo.seq c1 (RunsTo.block_exit (c := sub [1, 1, 0, 1] B57) h1 (by kernel_rfl)) (c := sub [1, 1, 0] B57) (by kernel_rfl) (by kernel_rfl)
          exact fin true _ (RunsTo.seq b1 (RunsTo.seq t1 z1 (c := sub [1, 1] B57) (by kernel_rfl) (by kernel_rfl)) (c := sub [1] B57) (by kernel_rfl) (by kernel_rfl)) rfl (decide_eq_true ⟨e1, e2, h3.1, h3.2⟩)
        · have t1 := RunsTo.seq c1 (RunsTo.block_ret (c := sub [1, 1, 0, 1] B57) (i := 0) h1 (by kernel_rfl)) (c := sub [1, 1, 0] B57) (by kernel_rfl) (by kernel_rfl)
          exact fin false _ (RunsTo.seq b1 (RunsTo.seq_out t1 (by simp) (c := sub [1, 1] B57) (b := sub [1, 1, 1] B57) (by kernel_rfl)) (c := sub [1] B57) (by kernel_rfl) (by kernel_rfl)) k2 (decide_eq_false fun h => k3 ⟨h.2.2.1, h.2.2.2⟩)
      · exact fin false _ (RunsTo.seq_out (it_b_1 (d.map encR) (l.map encI) _ (by simp [e1]) g0 e2) (by simp) (c := sub [1] B57) (b := sub [1, 1] B57) (by kernel_rfl)) rfl (decide_eq_false fun h => e2 h.2.1)
    · exact fin false _ (RunsTo.seq_out (it_b_2 (d.map encR) (l.map encI) (by simp; omega)) (by simp) (c := sub [1] B57) (b := sub [1, 1] B57) (by kernel_rfl)) rfl (decide_eq_false fun h => e1 h.1)
  · cases hq
theorem trOk_iff {n : Nat} {l : List Int} : trOk n l = true ↔ l.length = n ∧ l.getD 0 0 = 0 ∧ inT n l ∧ l.Nodup := by
  unfold trOk; rw [decide_eq_true_eq]; exact Iff.rfl
theorem soundN (n : Nat) : CallSound Try.prog (callN Try.prog polN n) := sound_prim _ (fun g f h => by
  split at h
  · rename_i hg; cases h; rw [eq_of_beq hg]; exact miles_ok
  split at h
  · rename_i hg; cases h; rw [eq_of_beq hg]; exact mtour_ok
  split at h
  · rename_i hg; cases h; rw [eq_of_beq hg]; exact mlen_ok
  · cases h) n
theorem prim_miles {pol' : Pol} (hp : pol'.prim 46 = some miles46) {d : List (List Int)} (h1 : d.length ≤ 1000) (h2 : (d.all fun r => decide (r.length ≤ 1000)) = true) (H : Heap) (b : Bool) (hb : okB d = b) : ∀ k, callN Try.prog pol' (k + 1) 46 [.imm .arg 1 (d.map encR)] H = some (.bool b, H) := fun k => by
  rw [prim_call (pol := pol') (g := 46) (F := miles46) hp (rs := [.imm .arg 1 (d.map encR)]) (by simp only [mapO, arg_rw]) (res := .bool b) (by simp only [miles46, rwF, mapO_map decR_enc]; rw [if_pos ⟨h1, h2⟩, hb])]; rfl
theorem prim_mtour {pol' : Pol} (hp : pol'.prim 57 = some tour57) {d : List (List Int)} {l : List Int} (h1 : 1 ≤ d.length) (h2 : l.length ≤ 1000) (H : Heap) (b : Bool) (hb : trOk d.length l = b) : ∀ k, callN Try.prog pol' (k + 1) 57 [.imm .arg 1 (d.map encR), .imm .arg 1 (l.map encI)] H = some (.bool b, H) := fun k => by
  rw [prim_call (pol := pol') (g := 57) (F := tour57) hp (rs := [.imm .arg 1 (d.map encR), .imm .arg 1 (l.map encI)]) (by simp only [mapO, arg_rw, arg_li]) (res := .bool b) (by simp only [tour57, rlF, mapO_map decR_enc, mapO_map decI_enc]; rw [if_pos ⟨h1, h2⟩, hb])]; rfl
theorem prim_mlen {pol' : Pol} {g : FuncId} (hp : pol'.prim g = some len56) {d : List (List Int)} {l : List Int} (h1 : okD d) (h2 : inT d.length l) (h3 : l.length ≤ 1000) {v : HV} {H : Heap} (hv : toArg H 6 v = some (.imm .arg 1 (l.map encI))) : ∀ k, callN Try.prog pol' (k + 1) g [.imm .arg 1 (d.map encR), v] H = some (.int .i64 (lenT d l), H) := fun k => by
  rw [prim_call (pol := pol') (g := g) (F := len56) hp (rs := [.imm .arg 1 (d.map encR), .imm .arg 1 (l.map encI)]) (by simp only [mapO, arg_rw, hv]) (res := .int .i64 (lenT d l)) (by simp only [len56, rlF, mapO_map decR_enc, mapO_map decI_enc]; rw [if_pos ⟨h1, h2, h3⟩])]; rfl
theorem res34 : Try.f34.results.toList = [.tmp 4, .tmp 5] := by kernel_rfl
theorem length_ok : PrimOk Try.prog 34 length34 := by
  refine primOk_pure (pol := polN) (fn := Try.f34) (cd := B34) follows_mixed soundN (by kernel_rfl) (by kernel_rfl) (fnok polN.prim _ _ (by kernel_rfl)) (by kernel_rfl) ?_
  intro args res h
  obtain ⟨d, l, rfl, hq⟩ := rlF_inv h
  clear h
  split at hq
  · rename_i hc
    cases hq
    by_cases c1 : okD d
    · have m1 := prim_miles (pol' := polN) (by kernel_rfl) hc.1 hc.2.1 [] true (okB_true c1)
      by_cases c2 : trOk d.length l = true
      · rw [if_pos ⟨c1, c2⟩]
        have m2 := prim_mtour (pol' := polN) (by kernel_rfl) c1.1.1 hc.2.2 [] true c2
        have m3 := prim_mlen (pol' := polN) (g := 56) (by kernel_rfl) c1 (trOk_iff.1 c2).2.2.1 hc.2.2 (arg_li [] l)
        exact ⟨_, _, _, _, le_0 (d.map encR) (l.map encI) _ m1 m2 m3, by simp, by simp only [resultsV, res34]; rfl, rfl⟩
      · rw [if_neg (fun h => c2 h.2)]
        have m2 := prim_mtour (pol' := polN) (by kernel_rfl) c1.1.1 hc.2.2 [] false (nb_false c2)
        exact ⟨_, _, _, _, le_1 (d.map encR) (l.map encI) m1 m2, by simp, by simp only [resultsV, res34]; rfl, rfl⟩
    · rw [if_neg (fun h => c1 h.1)]
      have m1 := prim_miles (pol' := polN) (by kernel_rfl) hc.1 hc.2.1 [] false (okB_false c1)
      exact ⟨_, _, _, _, le_2 (d.map encR) (l.map encI) m1, by simp, by simp only [resultsV, res34]; rfl, rfl⟩
  · cases hq
theorem revP_len {l : List Int} {i j : Nat} (h : i ≤ j) (hj : j < l.length) : (revP l i j).length = l.length := by
  simp only [revP, List.length_append, List.length_take, List.length_reverse, List.length_drop]
  omega
theorem revP_get {l : List Int} {i j : Nat} (h : i ≤ j) (hj : j < l.length) (k : Nat) : (revP l i j)[k]? = if i ≤ k ∧ k ≤ j then l[i + j - k]? else l[k]? := by
  unfold revP
  by_cases c1 : k < i
  · rw [List.getElem?_append_left (by simp; omega), List.getElem?_take, if_pos c1, if_neg (by omega)]
  · rw [List.getElem?_append_right (by simp; omega), List.length_take, Nat.min_eq_left (by omega)]
    by_cases c2 : k ≤ j
    · rw [if_pos ⟨by omega, c2⟩, List.getElem?_append_left (by simp; omega), List.getElem?_reverse (by simp; omega), List.length_take, List.length_drop, Nat.min_eq_left (by omega), List.getElem?_take, if_pos (by omega), List.getElem?_drop]
      congr 1
      omega
    · rw [if_neg (by omega), List.getElem?_append_right (by simp; omega), List.length_reverse, List.length_take, List.length_drop, Nat.min_eq_left (by omega), List.getElem?_drop]
      congr 1
      omega
theorem revP_mem {l : List Int} {i j : Nat} (h : i ≤ j) (hj : j < l.length) {v : Int} (hv : v ∈ revP l i j) : v ∈ l := by
  obtain ⟨k, hk⟩ := List.mem_iff_getElem?.1 hv
  rw [revP_get h hj] at hk
  split at hk
  · exact List.mem_of_getElem? hk
  · exact List.mem_of_getElem? hk
theorem inT_rev {n : Nat} {l : List Int} {i j : Nat} (h : i ≤ j) (hj : j < l.length) (hl : inT n l) : inT n (revP l i j) := fun v hv => hl v (revP_mem h hj hv)
abbrev reE (l : List Int) (i j p : Nat) (d : Int) : Env := env39 (.imm .arg 1 (l.map encI)) (.int .i64 (i : Int)) (.int .i64 (j : Int)) (.imm .lit 1 []) (.sl 0 0 p none p 1) (.int .i64 d)
theorem re_loop {l : List Int} {i j : Nat} (hl : l.length ≤ 500) (hj : j < l.length) : ∀ (k : Nat) (o : List Int), i + k ≤ j + 1 → o.length ≤ 500 → o.length + k ≤ 500 →
    RunsTo Try.prog pol 39 (sub [1, 1, 1, 0, 1, 0] B39) (reE l i j o.length ((i : Int) + k - 1)) [bI o] (.exit 0) (pol.keys 39) (reE l i j (o ++ ((l.drop i).take k).reverse).length ((i : Int) - 1)) [bI (o ++ ((l.drop i).take k).reverse)] := by
  intro k
  induction k with
  | zero =>
    intro o hk _ _
    have s1 := re_l_1 (l.map encI) i j (o.map encI) o.length ((i : Int) + (0 : Nat) - 1) (by omega)
    have e : (i : Int) + (0 : Nat) - 1 = (i : Int) - 1 := by omega
    rw [e] at s1 ⊢
    simp only [List.take_zero, List.reverse_nil, List.append_nil]
    exact RunsTo.loop_out s1 (by simp) (by kernel_rfl) (by kernel_rfl)
  | succ k ih =>
    intro o hk h5 h6
    have e : (i : Int) + ((k + 1 : Nat) : Int) - 1 = ((i + k : Nat) : Int) := by omega
    have hik : i + k < l.length := by omega
    have hap := app_ints (H := [bI o]) (b := 0) (o := o) (xs := [l.getD (i + k) 0]) rfl (by simp; omega) (by simp)
    have g := gx hik
    have s1 := re_l_0 (l.map encI) i j (o.map encI) o.length ((i + k : Nat) : Int) (l.getD (i + k) 0) (by omega) g (by simpa [bI, encI] using hap)
    have hw : IntKind.i64.wrap (((i + k : Nat) : Int) - 1) = (i : Int) + (k : Nat) - 1 := by rw [wrapI64]; omega
    rw [hw] at s1
    have r := ih (o ++ [l.getD (i + k) 0]) (by omega) (by simp; omega) (by simp; omega)
    have er : (o ++ [l.getD (i + k) 0]) ++ ((l.drop i).take k).reverse = o ++ ((l.drop i).take (k + 1)).reverse := by
      have hkd : k < (l.drop i).length := by rw [List.length_drop]; omega
      have hv : (l.drop i)[k] = l.getD (i + k) 0 := by rw [List.getElem_drop]; exact (getD_at hik).symm
      rw [List.take_succ_eq_append_getElem hkd, List.reverse_append, List.reverse_singleton, List.append_assoc, hv]
    rw [er] at r
    have e2 : (o ++ [l.getD (i + k) 0]).length = o.length + 1 := by simp
    have e3 : (o ++ [l.getD (i + k) 0]).map encI = o.map encI ++ [.int .i64 (l.getD (i + k) 0)] := by simp [encI]
    unfold bI at r
    rw [e2, e3] at r
    rw [e]
    exact RunsTo.loop s1 (by kernel_rfl) (gc_eq _ rfl) r rfl (by kernel_rfl) (by kernel_rfl)
theorem res39 : Try.f39.results.toList = [.tmp 6] := by kernel_rfl
theorem rev_ok : PrimOk Try.prog 39 rev39 := by
  refine primOk_pure (pol := pol) (fn := Try.f39) (cd := B39) follows_mixed sound (by kernel_rfl) (by kernel_rfl) (fnok pol.prim _ _ (by kernel_rfl)) (by kernel_rfl) ?_
  intro args res h
  unfold rev39 at h
  split at h
  · rename_i la a b
    split at h
    · rename_i l hl
      split at h
      · rename_i hc
        cases h
        rw [mapO_inv decI_inv hl]
        obtain ⟨i, rfl⟩ : ∃ i : Nat, a = (i : Int) := ⟨a.toNat, by omega⟩
        obtain ⟨j, rfl⟩ : ∃ j : Nat, b = (j : Int) := ⟨b.toNat, by omega⟩
        rw [Int.toNat_natCast, Int.toNat_natCast]
        have hij : i ≤ j := by omega
        have hj : j < l.length := by omega
        have a1 := re_a_0 (l.map encI) i j
        have b1 := re_b_0 (l.map encI) i j
        have et : (l.map encI).take i = (l.take i).map encI := List.map_take.symm
        have ed : (l.map encI).drop (j + 1) = (l.drop (j + 1)).map encI := List.map_drop.symm
        have hti : (l.take i).length = i := by rw [List.length_take]; omega
        have c1 := re_c_0 (l.map encI) i j (slice_imm (by rw [List.length_map]; omega)) (by
          rw [et]
          by_cases h0 : l.take i = []
          · rw [h0]; rfl
          · have := app_ints (H := [bI []]) (b := 0) (o := []) (xs := l.take i) rfl (by simp; omega) h0
            rw [List.nil_append] at this
            simpa [bI] using this)
        rw [et, List.length_map] at c1
        have d1 := re_d_0 (l.map encI) i j ((l.take i).map encI) (l.take i).length
        have r := re_loop (i := i) hc.2 hj (j + 1 - i) (l.take i) (by omega) (by omega) (by omega)
        have ei : (i : Int) + ((j + 1 - i : Nat) : Int) - 1 = (j : Int) := by omega
        rw [ei] at r
        generalize hO : l.take i ++ ((l.drop i).take (j + 1 - i)).reverse = O at r
        have hOl : O.length = j + 1 := by rw [← hO]; simp only [List.length_append, List.length_take, List.length_reverse, List.length_drop]; omega
        have hR : O ++ l.drop (j + 1) = revP l i j := by rw [← hO, revP, List.append_assoc]
        have hw : IntKind.i64.wrap ((j : Int) + 1) = ((j + 1 : Nat) : Int) := wrap_succ (by omega)
        have z1 := re_z_0 (l.map encI) i j (O.map encI) O.length ((i : Int) - 1) (by rw [hw]; exact slice_from (by rw [List.length_map]; omega)) (by
          rw [ed]
          by_cases h0 : l.drop (j + 1) = []
          · rw [h0]; simp [appV]
          · have := app_ints (H := [bI O]) (b := 0) (o := O) (xs := l.drop (j + 1)) rfl (by rw [List.length_drop]; omega) h0
            simpa [bI] using this)
        rw [ed, List.length_map] at z1
        have e4 : O.map encI ++ (l.drop (j + 1)).map encI = (revP l i j).map encI := by rw [← List.map_append, hR]
        have e5 : O.length + (l.drop (j + 1)).length = (revP l i j).length := by rw [← hR, List.length_append]
        rw [e4, e5] at z1
        have t1 := RunsTo.seq d1 (RunsTo.block_exit (c := sub [1, 1, 1, 0, 1] B39) r (by kernel_rfl)) (c := sub [1, 1, 1, 0] B39) (by kernel_rfl) (by kernel_rfl)
        have t2 := RunsTo.seq c1 (RunsTo.seq t1 z1 (c := sub [1, 1, 1] B39) (by kernel_rfl) (by kernel_rfl)) (c := sub [1, 1] B39) (by kernel_rfl) (by kernel_rfl)
        have t3 := RunsTo.seq a1 (RunsTo.seq b1 t2 (c := sub [1] B39) (by kernel_rfl) (by kernel_rfl)) (c := B39) (by kernel_rfl) (by kernel_rfl)
        exact ⟨_, _, _, .sl 0 0 (revP l i j).length none (revP l i j).length 1, t3, by simp, by simp only [resultsV, res39]; rfl, res_li (b := 0) rfl rfl⟩
      · cases h
    · cases h
  · cases h
end Go.Proofs.Ytlendaofkmhgmaa
end
section
open Go Go.HL
namespace Go.Proofs.Ytlendaofkmhgmaa
theorem res52 : Try.f52.results.toList = [.tmp 2] := by kernel_rfl
theorem clone_run (v : Int) (l : List Int) (hl : (v :: l).length ≤ 1000) : ∃ k, callN Try.prog pol k 52 [.imm .arg 1 ((v :: l).map encI)] [] = some (.sl 0 0 (v :: l).length none (v :: l).length 1, [bI (v :: l)]) := by
  have hb : ∀ (l : List Int), bndL (l.map encI) = 0 := by
    intro l
    induction l with
    | nil => rfl
    | cons a l ih => simp only [List.map_cons, bndL, ih, encI, bnd]; rfl
  have hap : appV [] 1 8 (.imm .lit 1 []) ((v :: l).map encI) = some (.sl 0 0 ((v :: l).map encI).length none ((v :: l).map encI).length 1, [.arr 1 ((v :: l).map encI) true 0]) := by
    have hne : (v :: l).map encI ≠ [] := by simp
    simp only [appV, if_neg hne]
    rw [if_pos ⟨.inr trivial, by simp only [List.length_nil, List.length_map, roomMax]; omega⟩, hb]
    simp
  have hnt : nilTest Try.prog .eql 23 (.imm .arg 1 ((v :: l).map encI)) = some (.bool false) := by
    have hu : Try.prog.underlying 23 = some (.slice 3) := u23
    simp only [nilTest, hu, knownNil, List.map_cons, nilOp]
  obtain ⟨m, h⟩ := cl_1 ((v :: l).map encI) hnt hap
  obtain ⟨e1, g1, g2⟩ := h m m (Nat.le_refl m) (Nat.le_refl m)
  refine ⟨m + 1, ?_⟩
  have hrc := resCell_sl (H := [bI (v :: l)]) (no := [0]) (b := 0) (k := 1) (m := (v :: l).length) (cap := none) (els := (v :: l).map encI) rfl (by simp) (mapO_self (fun r => frz_int 4 r) _)
  have hown : ownedAll [bI (v :: l)] false (.sl 0 0 (v :: l).length none (v :: l).length 1) = [0] := rfl
  have hpr : pureRun Try.prog pol (evC Try.prog pol (callN Try.prog pol m) m) 52 Try.f52 B52 [.imm .arg 1 ((v :: l).map encI)] = some (.own 1 ((v :: l).map encI)) := by
    unfold pureRun
    have hg1 : evC Try.prog pol (callN Try.prog pol m) m 52 B52 (args0 [.imm .arg 1 ((v :: l).map encI)]) [] = some (.ret, e1, [bI (v :: l)]) := g1
    rw [hg1]
    have hres : resultsV Try.prog Try.f52 e1 [bI (v :: l)] = some (.sl 0 0 (v :: l).length none (v :: l).length 1) := by
      have := resultsV_restr (P := Try.prog) (fn := Try.f52) (K := pol.keys 52) (e := e1) (H := [bI (v :: l)]) (by kernel_rfl)
      rw [← this, g2]
      simp only [resultsV, res52, mapO, resultV]
      simp [Env.get]
    simp only [hres]
    show toRes _ false _ = _
    simp only [toRes, hown, List.nodup_cons, List.not_mem_nil, not_false_eq_true, List.nodup_nil, and_self, if_true, resVal, hrc]
  have hp : pol.prim 52 = none := by kernel_rfl
  have hs : pol.shared 52 = false := by kernel_rfl
  have hf : Try.prog.funcs[52]? = some Try.f52 := by kernel_rfl
  have hbd : Try.f52.body = some B52 := by kernel_rfl
  have ha : toArg [] 6 (.imm .arg 1 ((v :: l).map encI)) = some (.imm .arg 1 ((v :: l).map encI)) := by
    show argP (.imm .arg 1 ((v :: l).map encI)) = _
    simp only [argP, argP_ints']
  have hno : ((v :: l).map encI).any isOwn = false := by
    rw [List.any_eq_false]
    intro v hv
    obtain ⟨k, _, rfl⟩ := List.mem_map.1 hv
    simp [encI, isOwn]
  simp only [callN, doCall, hp, hf, hbd, hs, Bool.false_eq_true, if_false, mapO, ha]
  have hpc : pureCall Try.prog pol (evC Try.prog pol (callN Try.prog pol m) m) 52 Try.f52 B52 [.imm .arg 1 ((v :: l).map encI)] = some (.own 1 ((v :: l).map encI)) := by
    unfold pureCall
    rw [if_pos (by kernel_rfl)]
    simp only [List.map_cons] at hpr ⊢
    exact hpr
  rw [hpc]
  simp only [recv, recvVal, recvCell, hno, List.length_map]
  rfl
theorem clone_ok : PrimOk Try.prog 52 clone52 := by
  refine primOk_of (pol := pol) sound (by kernel_rfl) fun args res h => ?_
  obtain ⟨l, rfl, hq⟩ := liF_inv h
  clear h
  split at hq
  · rename_i hl
    cases hq
    cases l with
    | nil => exact ⟨30, .sl 0 0 0 none 0 1, [.arr 1 [] true 0], false, by kernel_rfl, rfl⟩
    | cons v l =>
      obtain ⟨k, hk⟩ := clone_run v l hl
      exact ⟨k, _, _, false, hk, res_li (b := 0) rfl rfl⟩
  · cases hq
end Go.Proofs.Ytlendaofkmhgmaa
end
section
open Go Go.HL
namespace Go.Proofs.Ytlendaofkmhgmaa
theorem soundV (n : Nat) : CallSound Try.prog (callN Try.prog polV n) := sound_prim _ (fun g f h => by
  split at h
  · rename_i hg; cases h; rw [eq_of_beq hg]; exact miles_ok
  split at h
  · rename_i hg; cases h; rw [eq_of_beq hg]; exact mtour_ok
  split at h
  · rename_i hg; cases h; rw [eq_of_beq hg]; exact mlen_ok
  split at h
  · rename_i hg; cases h; rw [eq_of_beq hg]; exact clone_ok
  · cases h) n
theorem idx_off {b lo n tot j : Nat} (hj : j < n) : idxV Try.prog 23 (.sl b lo n none tot 1) (.int .i64 (j : Int)) = some (.ptr b (lo + j) 0 tot) := by
  simp only [idxV, u23, z3, Int.toNat_natCast]
  rw [if_pos ⟨by omega, by omega, trivial⟩]
structure Rv (o : List Int) (lo n i : Nat) (c : List Int) : Prop where
  len : c.length = o.length
  get : ∀ k, k < o.length → c.getD k 0 = if lo ≤ k ∧ k < lo + n ∧ (k < lo + i ∨ lo + n ≤ k + i) then o.getD (2 * lo + n - 1 - k) 0 else o.getD k 0
theorem Rv.zero (o : List Int) (lo n : Nat) : Rv o lo n 0 o := ⟨rfl, fun k hk => by rw [if_neg (by omega)]⟩
theorem getD_set (o : List Int) (i k : Nat) (v : Int) (hi : i < o.length) : (o.set i v).getD k 0 = if i = k then v else o.getD k 0 := by
  simp only [List.getD, List.getElem?_set]
  by_cases e : i = k
  · subst e; simp [hi]
  · simp [e]
theorem Rv.step {o c : List Int} {lo n i : Nat} (h : Rv o lo n i c) (hb : lo + n ≤ o.length) (hi : 2 * i + 1 < n) : Rv o lo n (i + 1) ((c.set (lo + i) (c.getD (lo + (n - 1 - i)) 0)).set (lo + (n - 1 - i)) (c.getD (lo + i) 0)) := by
  have hl := h.len
  refine ⟨by simp [hl], fun k hk => ?_⟩
  rw [getD_set _ _ _ _ (by rw [List.length_set]; omega), getD_set _ _ _ _ (by omega)]
  have e1 := h.get (lo + i) (by omega)
  have e2 := h.get (lo + (n - 1 - i)) (by omega)
  rw [if_neg (by omega)] at e1 e2
  by_cases c1 : lo + (n - 1 - i) = k
  · rw [if_pos c1, if_pos (by omega), e1]
    congr 1
    omega
  · rw [if_neg c1]
    by_cases c2 : lo + i = k
    · rw [if_pos c2, if_pos (by omega), e2]
      congr 1
      omega
    · rw [if_neg c2, h.get k hk]
      by_cases c3 : lo ≤ k ∧ k < lo + n ∧ (k < lo + i ∨ lo + n ≤ k + i)
      · rw [if_pos c3, if_pos (by omega)]
      · rw [if_neg c3, if_neg (by omega)]
theorem Rv.done {o c : List Int} {lo n i : Nat} (h : Rv o lo n i c) (hn : 1 ≤ n) (hb : lo + n ≤ o.length) (hi : n ≤ 2 * i + 1) : c = revP o lo (lo + n - 1) := by
  have hr := revP_len (l := o) (i := lo) (j := lo + n - 1) (by omega) (by omega)
  apply List.ext_getElem (by rw [hr]; exact h.len)
  intro k h1 h2
  have hk : k < o.length := by rw [← h.len]; exact h1
  have e := h.get k hk
  have e2 := revP_get (l := o) (i := lo) (j := lo + n - 1) (by omega) (by omega) k
  rw [List.getElem?_eq_getElem h2] at e2
  rw [← getD_at h1, e]
  by_cases c1 : lo ≤ k ∧ k ≤ lo + n - 1
  · rw [if_pos c1, List.getElem?_eq_getElem (by omega)] at e2
    have e3 := Option.some.inj e2
    rw [e3]
    by_cases c2 : k < lo + i ∨ lo + n ≤ k + i
    · rw [if_pos ⟨c1.1, by omega, c2⟩, getD_at (by omega)]
      congr 1
      omega
    · rw [if_neg (by omega), getD_at hk]
      congr 1
      omega
  · rw [if_neg c1, List.getElem?_eq_getElem hk] at e2
    rw [if_neg (by omega), getD_at hk]
    exact (Option.some.inj e2).symm
abbrev rvE (b lo n tot i j : Nat) : Env := env71 (.sl b lo n none tot 1) (.int .i64 (i : Int)) (.int .i64 (j : Int))
theorem rv_loop {b lo n : Nat} {o : List Int} (hn : 1 ≤ n) (hb : lo + n ≤ o.length) (h9 : o.length ≤ 1000) : ∀ (d i : Nat) (c : List Int) (H : Heap), 2 * i ≤ n → n - 2 * i ≤ 2 * d + 1 → H[b]? = some (bI c) → Rv o lo n i c →
    ∃ i' j', RunsTo Try.prog polV 71 (sub [1, 0] B71) (rvE b lo n o.length i (n - 1 - i)) H (.exit 0) (polV.keys 71) (rvE b lo n o.length i' j') (H.set b (bI (revP o lo (lo + n - 1)))) := by
  intro d
  induction d with
  | zero =>
    intro i c H h1 h2 hc hR
    have s1 := rv_l_1 b lo n o.length H i (n - 1 - i) (by omega)
    have hd := hR.done hn hb (by omega)
    have hH : H.set b (bI (revP o lo (lo + n - 1))) = H := by
      rw [← hd]
      apply List.ext_getElem?
      intro k
      rw [List.getElem?_set]
      split
      · rename_i hk
        subst hk
        rw [if_pos (lt_of_get hc)]
        exact hc.symm
      · rfl
    rw [hH]
    exact ⟨i, n - 1 - i, RunsTo.loop_out s1 (by simp) (by kernel_rfl) (by kernel_rfl)⟩
  | succ d ih =>
    intro i c H h1 h2 hc hR
    by_cases hlt : 2 * i + 1 < n
    · have hcl := hR.len
      have hbl := lt_of_get hc
      have ld1 := load_out hc (y := lo + (n - 1 - i)) (by omega)
      have ld2 := load_out hc (y := lo + i) (by omega)
      have st1 := store_out hc (y := lo + i) (by omega) (c.getD (lo + (n - 1 - i)) 0)
      have hc2 : (H.set b (bI (c.set (lo + i) (c.getD (lo + (n - 1 - i)) 0))))[b]? = some (bI (c.set (lo + i) (c.getD (lo + (n - 1 - i)) 0))) := List.getElem?_set_self hbl
      have st2 := store_out hc2 (y := lo + (n - 1 - i)) (by rw [List.length_set]; omega) (c.getD (lo + i) 0)
      rw [List.length_set, List.set_set, hcl] at st2
      rw [hcl] at ld1 ld2 st1
      have s1 := rv_l_0 b lo n o.length H i (n - 1 - i) _ _ _ _ (by omega) (idx_off (by omega)) ld1 (idx_off (by omega)) ld2 (idx_off (by omega)) st1 (idx_off (by omega)) st2
      rw [wrap_succ (by omega), wrap_pred (by omega) (by omega)] at s1
      obtain ⟨i', j', r⟩ := ih (i + 1) _ _ (by omega) (by omega) (List.getElem?_set_self hbl) (hR.step hb hlt)
      rw [List.set_set, show n - 1 - (i + 1) = n - 1 - i - 1 by omega] at r
      exact ⟨i', j', RunsTo.loop s1 (by kernel_rfl) (gc_eq _ (by simp)) r rfl (by kernel_rfl) (by kernel_rfl)⟩
    · have s1 := rv_l_1 b lo n o.length H i (n - 1 - i) (by omega)
      have hd := hR.done hn hb (by omega)
      have hH : H.set b (bI (revP o lo (lo + n - 1))) = H := by
        rw [← hd]
        apply List.ext_getElem?
        intro k
        rw [List.getElem?_set]
        split
        · rename_i hk
          subst hk
          rw [if_pos (lt_of_get hc)]
          exact hc.symm
        · rfl
      rw [hH]
      exact ⟨i, n - 1 - i, RunsTo.loop_out s1 (by simp) (by kernel_rfl) (by kernel_rfl)⟩
theorem res71 : Try.f71.results.toList = [] := by kernel_rfl
theorem rv_call {b lo n : Nat} {o : List Int} {H : Heap} (hn : 1 ≤ n) (hb : lo + n ≤ o.length) (h9 : o.length ≤ 1000) (hc : H[b]? = some (bI o)) : CallsTo (P := Try.prog) (pol := polV) 71 [.sl b lo n none o.length 1] H (.tuple []) (H.set b (bI (revP o lo (lo + n - 1)))) := by
  have a1 := rv_a_0 b lo n o.length H
  rw [wrap_pred (by omega) (by omega)] at a1
  obtain ⟨i', j', r⟩ := rv_loop hn hb h9 n 0 o H (by omega) (by omega) hc (Rv.zero o lo n)
  have t1 := RunsTo.seq a1 (RunsTo.block_exit (c := sub [1] B71) r (by kernel_rfl)) (c := B71) (by kernel_rfl) (by kernel_rfl)
  have := CallsTo.shared (P := Try.prog) (pol := polV) (g := 71) (fn := Try.f71) (cd := B71) (args := [.sl b lo n none o.length 1]) (v := .tuple []) (by kernel_rfl) (by kernel_rfl) (by kernel_rfl) (by kernel_rfl) t1 (by kernel_rfl) (by simp) (by simp only [resultsV, res71, mapO])
  rw [gc_eq _ (by simp)] at this
  exact this
theorem mxs_app : ∀ (H : Heap) (l : List Int), mxs (H ++ [bI l]) = mxs H
  | [], l => by simp [mxs, Blk.mx]
  | B :: H, l => by
    have := mxs_app H l
    simp only [List.cons_append, mxs, this]
theorem gc_drop {H : Heap} {l : List Int} {r : Nat} (h0 : mxs H = 0) (hr : r ≤ H.length) : gc H.length r (H ++ [bI l]) = H := by
  unfold gc
  rw [mxs_app, h0, Nat.max_eq_left (by omega), List.take_left]
theorem gc_keep {H : Heap} {l : List Int} {r : Nat} (hr : H.length + 1 ≤ r) : gc H.length r (H ++ [bI l]) = H ++ [bI l] := by
  unfold gc
  rw [List.take_of_length_le (by rw [List.length_append, List.length_singleton]; omega)]
section
variable {d : List (List Int)} {l : List Int} {b : Nat} {H : Heap}
abbrev shE (d : List (List Int)) (b n : Nat) (v6 v7 v8 v9 : HV) : Env := env58 (.imm .arg 1 (d.map encR)) (.sl b 0 n none n 1) (.imm .lit 1 []) (.bool false) v6 v7 v8 v9
end
section
variable {d : List (List Int)} {l : List Int} {b : Nat} {H : Heap}
theorem prim_clone (h9 : l.length ≤ 1000) (hb : H[b]? = some (bI l)) : ∀ k, callN Try.prog polV (k + 1) 52 [.sl b 0 l.length none l.length 1] H = some (.sl H.length 0 l.length none l.length 1, H ++ [bI l]) := fun k => by
  rw [prim_call (pol := polV) (g := 52) (F := clone52) (by kernel_rfl) (rs := [.imm .arg 1 (l.map encI)]) (by simp only [mapO, arg_sl rfl hb]) (res := .own 1 (l.map encI)) (by simp only [clone52, liF, mapO_map decI_enc]; rw [if_pos h9]), recv_ints]
end
section
variable {d : List (List Int)} {l : List Int} {b : Nat} {H : Heap}
theorem slice_sl {cb i j n : Nat} (h1 : i ≤ j) (h2 : j ≤ n) : sliceV Try.prog 23 (.sl cb 0 n none n 1) (some (.int .i64 (i : Int))) (some (.int .i64 (j : Int))) none = some (.sl cb i (j - i) none n 1) := by
  simp only [sliceV, boundV, u23, z3]
  rw [if_pos (by omega), if_pos (by omega)]
  simp [h1, h2]
end
section
variable {d : List (List Int)} {l : List Int} {b : Nat} {H : Heap}
theorem sh_in (h1 : okD d) (h2 : inT d.length l) (hl : l.length ≤ 500) (hb : H[b]? = some (bI l)) (h0 : mxs H = 0) {i : Nat} (hi : i < l.length) : ∀ (k j : Nat), i < j → j + k = l.length →
    (btJ d l i k j = none ∧ RunsTo Try.prog polV 58 (sub [1, 1, 0, 1, 0, 0, 1, 0, 0, 1, 0] B58) (shE d b l.length (.int .i64 (lenT d l)) (.int .i64 (i : Int)) (.int .i64 (j : Int)) .undef) H (.exit 2) (polV.keys 58) (shE d b l.length (.int .i64 (lenT d l)) (.int .i64 (i : Int)) (.int .i64 (l.length : Int)) .undef) H) ∨
    ∃ r E, btJ d l i k j = some r ∧ RunsTo Try.prog polV 58 (sub [1, 1, 0, 1, 0, 0, 1, 0, 0, 1, 0] B58) (shE d b l.length (.int .i64 (lenT d l)) (.int .i64 (i : Int)) (.int .i64 (j : Int)) .undef) H .ret (polV.keys 58) E (H ++ [bI r]) ∧ E.get 4 = .sl H.length 0 l.length none l.length 1 ∧ E.get 5 = .bool true := by
  intro k
  induction k with
  | zero =>
    intro j hij hj
    have hj : j = l.length := by omega
    subst hj
    exact .inl ⟨rfl, RunsTo.loop_out (sh_l_2 0 (d.map encR) b l.length H (lenT d l) i l.length 0 (by omega)) (by simp) (by kernel_rfl) (by kernel_rfl)⟩
  | succ k ih =>
    intro j hij hj
    have hjl : j < l.length := by omega
    have hrl := revP_len (l := l) (i := i) (j := j) (by omega) hjl
    have hcb : (H ++ [bI l])[H.length]? = some (bI l) := by rw [List.getElem?_append_right (Nat.le_refl _)]; simp
    have g1 := prim_clone (H := H) (b := b) (l := l) (by omega) hb
    have g2 := slice_sl (cb := H.length) (i := i) (j := j + 1) (n := l.length) (by omega) (by omega)
    rw [← wrap_succ (j := j) (by omega)] at g2
    have hrv := rv_call (b := H.length) (lo := i) (n := j + 1 - i) (o := l) (H := H ++ [bI l]) (by omega) (by omega) (by omega) hcb
    rw [show i + (j + 1 - i) - 1 = j by omega] at hrv
    have hset : (H ++ [bI l]).set H.length (bI (revP l i j)) = H ++ [bI (revP l i j)] := by rw [List.set_append_right _ _ (Nat.le_refl _), Nat.sub_self]; rfl
    rw [hset] at hrv
    obtain ⟨N, hN⟩ := CallsTo.from hrv
    have hcr : (H ++ [bI (revP l i j)])[H.length]? = some (bI (revP l i j)) := by rw [List.getElem?_append_right (Nat.le_refl _)]; simp
    have ha := arg_sl (m := l.length) hrl hcr
    have g4 := prim_mlen (pol' := polV) (g := 56) (by kernel_rfl) h1 (inT_rev (i := i) (j := j) (by omega) hjl h2) (by omega) ha
    rw [btJ]
    by_cases c : lenT d (revP l i j) < lenT d l
    · rw [if_pos c]
      exact .inr ⟨_, _, rfl, RunsTo.loop_out (sh_l_0 N (d.map encR) b l.length H (lenT d l) i j H.length _ _ _ _ (by omega) (fun kf _ => g1 kf) g2 hN (fun kf _ => g4 kf) c) (by simp) (by kernel_rfl) (by kernel_rfl), rfl, rfl⟩
    · rw [if_neg c]
      have s1 := sh_l_1 N (d.map encR) b l.length H (lenT d l) i j H.length _ _ _ _ (by omega) (fun kf _ => g1 kf) g2 hN (fun kf _ => g4 kf) c
      rw [wrap_succ (by omega)] at s1
      have hbl := lt_of_get hb
      have up : ∀ {x E H'}, RunsTo Try.prog polV 58 (sub [1, 1, 0, 1, 0, 0, 1, 0, 0, 1, 0] B58) (shE d b l.length (.int .i64 (lenT d l)) (.int .i64 (i : Int)) (.int .i64 ((j + 1 : Nat) : Int)) .undef) H x (polV.keys 58) E H' → RunsTo Try.prog polV 58 (sub [1, 1, 0, 1, 0, 0, 1, 0, 0, 1, 0] B58) (shE d b l.length (.int .i64 (lenT d l)) (.int .i64 (i : Int)) (.int .i64 (j : Int)) .undef) H x (polV.keys 58) E H' := fun r =>
        RunsTo.loop s1 (by kernel_rfl) (gc_drop (l := revP l i j) h0 (r := bndE (shE d b l.length (.int .i64 (lenT d l)) (.int .i64 (i : Int)) (.int .i64 ((j + 1 : Nat) : Int)) .undef)) (by simp only [bndE, bnd, bndL]; omega)) r rfl (by kernel_rfl) (by kernel_rfl)
      rcases ih (j + 1) (by omega) (by omega) with ⟨e1, e2⟩ | ⟨r, E, e1, e2, e3⟩
      · exact .inl ⟨e1, up e2⟩
      · exact .inr ⟨r, E, e1, up e2, e3⟩
end
section
variable {d : List (List Int)} {l : List Int} {b : Nat} {H : Heap}
theorem sh_out (h1 : okD d) (h2 : inT d.length l) (hl : l.length ≤ 500) (hb : H[b]? = some (bI l)) (h0 : mxs H = 0) : ∀ (k i : Nat), i + k = l.length →
    (btI d l k i = none ∧ RunsTo Try.prog polV 58 (sub [1, 1, 0, 1, 0] B58) (shE d b l.length (.int .i64 (lenT d l)) (.int .i64 (i : Int)) .undef .undef) H (.exit 0) (polV.keys 58) (shE d b l.length (.int .i64 (lenT d l)) (.int .i64 (l.length : Int)) .undef .undef) H) ∨
    ∃ r E, btI d l k i = some r ∧ RunsTo Try.prog polV 58 (sub [1, 1, 0, 1, 0] B58) (shE d b l.length (.int .i64 (lenT d l)) (.int .i64 (i : Int)) .undef .undef) H .ret (polV.keys 58) E (H ++ [bI r]) ∧ E.get 4 = .sl H.length 0 l.length none l.length 1 ∧ E.get 5 = .bool true := by
  intro k
  induction k with
  | zero =>
    intro i hi
    have hi : i = l.length := by omega
    subst hi
    exact .inl ⟨rfl, RunsTo.loop_out (RunsTo.seq_out (sh_d_1 0 (d.map encR) b l.length H (lenT d l) l.length (by omega)) (by simp) (c := sub [1, 1, 0, 1, 0, 0] B58) (b := sub [1, 1, 0, 1, 0, 0, 1] B58) (by kernel_rfl)) (by simp) (by kernel_rfl) (by kernel_rfl)⟩
  | succ k ih =>
    intro i hi
    have hil : i < l.length := by omega
    have c1 := sh_d_0 0 (d.map encR) b l.length H (lenT d l) i (by omega)
    have d1 := sh_e_0 0 (d.map encR) b l.length H (lenT d l) i
    rw [wrap_succ (by omega)] at d1
    rw [btI]
    rcases sh_in h1 h2 hl hb h0 hil (l.length - (i + 1)) (i + 1) (by omega) (by omega) with ⟨e1, r1⟩ | ⟨r, E, e1, r1, e3⟩
    · rw [e1]
      have r1' := RunsTo.loop_in (e0 := shE d b l.length (.int .i64 (lenT d l)) (.int .i64 (i : Int)) (.int .i64 ((i + 1 : Nat) : Int)) .undef) r1 (b := sub [1, 1, 0, 1, 0, 0, 1, 0, 0, 1, 0, 0] B58) (by kernel_rfl) (by kernel_rfl) (by kernel_rfl)
      have n1 := sh_f_0 0 (d.map encR) b l.length H (lenT d l) i l.length 0
      rw [wrap_succ (by omega)] at n1
      have t1 := RunsTo.seq d1 (RunsTo.block_exit (c := sub [1, 1, 0, 1, 0, 0, 1, 0, 0, 1] B58) r1' (by kernel_rfl)) (c := sub [1, 1, 0, 1, 0, 0, 1, 0, 0] B58) (by kernel_rfl) (by kernel_rfl)
      have t2 := RunsTo.block_normal (i := 1) (c := sub [1, 1, 0, 1, 0, 0, 1, 0] B58) t1 (by kernel_rfl)
      have t3 := RunsTo.seq c1 (RunsTo.seq t2 n1 (c := sub [1, 1, 0, 1, 0, 0, 1] B58) (by kernel_rfl) (by kernel_rfl)) (c := sub [1, 1, 0, 1, 0, 0] B58) (by kernel_rfl) (by kernel_rfl)
      have up : ∀ {x E H'}, RunsTo Try.prog polV 58 (sub [1, 1, 0, 1, 0] B58) (shE d b l.length (.int .i64 (lenT d l)) (.int .i64 ((i + 1 : Nat) : Int)) .undef .undef) H x (polV.keys 58) E H' → RunsTo Try.prog polV 58 (sub [1, 1, 0, 1, 0] B58) (shE d b l.length (.int .i64 (lenT d l)) (.int .i64 (i : Int)) .undef .undef) H x (polV.keys 58) E H' := fun r =>
        RunsTo.loop t3 (by kernel_rfl) (gc_eq _ rfl) r rfl (by kernel_rfl) (by kernel_rfl)
      rcases ih (i + 1) (by omega) with ⟨q1, q2⟩ | ⟨r, E, q1, q2, q3⟩
      · exact .inl ⟨q1, up q2⟩
      · exact .inr ⟨r, E, q1, up q2, q3⟩
    · rw [e1]
      have r1' := RunsTo.loop_in (e0 := shE d b l.length (.int .i64 (lenT d l)) (.int .i64 (i : Int)) (.int .i64 ((i + 1 : Nat) : Int)) .undef) r1 (b := sub [1, 1, 0, 1, 0, 0, 1, 0, 0, 1, 0, 0] B58) (by kernel_rfl) (by kernel_rfl) (by kernel_rfl)
      have t1 := RunsTo.seq d1 (RunsTo.block_ret (c := sub [1, 1, 0, 1, 0, 0, 1, 0, 0, 1] B58) (i := 2) r1' (by kernel_rfl)) (c := sub [1, 1, 0, 1, 0, 0, 1, 0, 0] B58) (by kernel_rfl) (by kernel_rfl)
      have t2 := RunsTo.block_ret (i := 1) (c := sub [1, 1, 0, 1, 0, 0, 1, 0] B58) t1 (by kernel_rfl)
      have t3 := RunsTo.seq c1 (RunsTo.seq_out t2 (by simp) (c := sub [1, 1, 0, 1, 0, 0, 1] B58) (b := sub [1, 1, 0, 1, 0, 0, 1, 1] B58) (by kernel_rfl)) (c := sub [1, 1, 0, 1, 0, 0] B58) (by kernel_rfl) (by kernel_rfl)
      exact .inr ⟨r, E, rfl, RunsTo.loop_out t3 (by simp) (by kernel_rfl) (by kernel_rfl), e3⟩
end
section
variable {d : List (List Int)} {l : List Int} {b : Nat} {H : Heap}
theorem res58 : Try.f58.results.toList = [.tmp 4, .tmp 5] := by kernel_rfl
end
section
variable {d : List (List Int)} {l : List Int} {b : Nat} {H : Heap}
theorem sh_call (h1 : okD d) (h2 : inT d.length l) (hl : 1 ≤ l.length ∧ l.length ≤ 500) (hb : H[b]? = some (bI l)) (h0 : mxs H = 0) :
    (bett d l = none ∧ CallsTo (P := Try.prog) (pol := polV) 58 [.imm .arg 1 (d.map encR), .sl b 0 l.length none l.length 1] H (.tuple [.sl b 0 l.length none l.length 1, .bool false]) H) ∨
    ∃ r, bett d l = some r ∧ CallsTo (P := Try.prog) (pol := polV) 58 [.imm .arg 1 (d.map encR), .sl b 0 l.length none l.length 1] H (.tuple [.sl H.length 0 l.length none l.length 1, .bool true]) (H ++ [bI r]) := by
  have g := prim_mlen (pol' := polV) (g := 56) (by kernel_rfl) h1 h2 (by omega) (arg_sl (m := l.length) rfl hb)
  have a1 := sh_a_0 0 (d.map encR) b l.length H
  have b1 := sh_b_0 0 (d.map encR) b l.length H _ _ (fun kf _ => g kf)
  have c1 := sh_c_0 0 (d.map encR) b l.length H (lenT d l)
  rw [bett]
  rcases sh_out h1 h2 hl.2 hb h0 (l.length - 1) 1 (by omega) with ⟨e1, r1⟩ | ⟨r, E, e1, r1, e3, e4⟩
  · have z1 := sh_z_0 0 (d.map encR) b l.length H (lenT d l) l.length
    have t1 := RunsTo.seq c1 (RunsTo.block_exit (c := sub [1, 1, 0, 1] B58) r1 (by kernel_rfl)) (c := sub [1, 1, 0] B58) (by kernel_rfl) (by kernel_rfl)
    have t2 := RunsTo.seq a1 (RunsTo.seq b1 (RunsTo.seq t1 z1 (c := sub [1, 1] B58) (by kernel_rfl) (by kernel_rfl)) (c := sub [1] B58) (by kernel_rfl) (by kernel_rfl)) (c := B58) (by kernel_rfl) (by kernel_rfl)
    have := CallsTo.shared (P := Try.prog) (pol := polV) (g := 58) (fn := Try.f58) (cd := B58) (args := [.imm .arg 1 (d.map encR), .sl b 0 l.length none l.length 1]) (v := .tuple [.sl b 0 l.length none l.length 1, .bool false]) (by kernel_rfl) (by kernel_rfl) (by kernel_rfl) (by kernel_rfl) t2 (by kernel_rfl) (by simp) (by simp only [resultsV, res58]; rfl)
    rw [gc_eq _ rfl] at this
    exact .inl ⟨e1, this⟩
  · have t1 := RunsTo.seq c1 (RunsTo.block_ret (c := sub [1, 1, 0, 1] B58) (i := 0) r1 (by kernel_rfl)) (c := sub [1, 1, 0] B58) (by kernel_rfl) (by kernel_rfl)
    have t2 := RunsTo.seq a1 (RunsTo.seq b1 (RunsTo.seq_out t1 (by simp) (c := sub [1, 1] B58) (b := sub [1, 1, 1] B58) (by kernel_rfl)) (c := sub [1] B58) (by kernel_rfl) (by kernel_rfl)) (c := B58) (by kernel_rfl) (by kernel_rfl)
    have := CallsTo.shared (P := Try.prog) (pol := polV) (g := 58) (fn := Try.f58) (cd := B58) (args := [.imm .arg 1 (d.map encR), .sl b 0 l.length none l.length 1]) (v := .tuple [.sl H.length 0 l.length none l.length 1, .bool true]) (by kernel_rfl) (by kernel_rfl) (by kernel_rfl) (by kernel_rfl) t2 (by kernel_rfl) (by simp) (by simp only [resultsV, res58, mapO, resultV, e3, e4])
    rw [gc_keep (by simp only [bnd, bndL]; omega)] at this
    exact .inr ⟨r, e1, this⟩
end
end Go.Proofs.Ytlendaofkmhgmaa
end
section
open Go Go.HL
namespace Go.Proofs.Ytlendaofkmhgmaa
section
variable {d : List (List Int)}
theorem btJ_some {l : List Int} {i : Nat} {r : List Int} : ∀ (k j : Nat), btJ d l i k j = some r → ∃ j', j ≤ j' ∧ j' < j + k ∧ r = revP l i j' ∧ lenT d r < lenT d l
  | 0, _, h => by cases h
  | k + 1, j, h => by
    rw [btJ] at h
    split at h
    · rename_i c
      cases h
      exact ⟨j, Nat.le_refl _, by omega, rfl, c⟩
    · obtain ⟨j', h1, h2, h3⟩ := btJ_some k (j + 1) h
      exact ⟨j', by omega, by omega, h3⟩
end
section
variable {d : List (List Int)}
theorem btI_some {l r : List Int} : ∀ (k i : Nat), i + k = l.length → btI d l k i = some r → ∃ i' j', i ≤ i' ∧ i' ≤ j' ∧ j' < l.length ∧ r = revP l i' j' ∧ lenT d r < lenT d l
  | 0, _, _, h => by cases h
  | k + 1, i, hi, h => by
    rw [btI] at h
    split at h
    · rename_i r' hr
      cases h
      obtain ⟨j', h1, h2, h3, h4⟩ := btJ_some _ _ hr
      exact ⟨i, j', Nat.le_refl _, by omega, by omega, h3, h4⟩
    · obtain ⟨i', j', h1, h2⟩ := btI_some k (i + 1) (by omega) h
      exact ⟨i', j', by omega, h2⟩
end
section
variable {d : List (List Int)}
theorem bett_some {l r : List Int} (hl : 1 ≤ l.length) (h : bett d l = some r) : ∃ i j, 1 ≤ i ∧ i ≤ j ∧ j < l.length ∧ r = revP l i j ∧ lenT d r < lenT d l := btI_some _ _ (by omega) h
end
section
variable {d : List (List Int)}
theorem lenGo_nn (h : okD d) {l : List Int} (hl : inT d.length l) : ∀ (k j : Nat) (s : Int), j + k = l.length → 0 ≤ s → 0 ≤ lenGo d l k j s
  | 0, _, _, _, h => h
  | k + 1, j, s, hj, hs => by
    rw [lenGo]
    obtain ⟨a, b, ha, hb, ⟨a0, a1⟩, ⟨b0, b1⟩, hm⟩ := len_args h hl (j := j) (by omega)
    rw [ha, hb]
    have := at_bd h a1 b1
    exact lenGo_nn h hl k (j + 1) _ (by omega) (by omega)
end
section
variable {d : List (List Int)}
theorem lenT_nn (h : okD d) {l : List Int} (hl : inT d.length l) : 0 ≤ lenT d l := lenGo_nn h hl _ _ _ (by omega) (Int.le_refl _)
end
section
variable {d : List (List Int)}
theorem bett_ok (h : okD d) {l r : List Int} (hl : inT d.length l) (h1 : 1 ≤ l.length) (hb : bett d l = some r) : r.length = l.length ∧ inT d.length r ∧ (lenT d r).toNat < (lenT d l).toNat := by
  obtain ⟨i, j, _, h2, h3, rfl, h4⟩ := bett_some h1 hb
  have := lenT_nn h (inT_rev h2 h3 hl)
  exact ⟨revP_len h2 h3, inT_rev h2 h3 hl, by omega⟩
end
section
variable {d : List (List Int)}
theorem impF_succ (h : okD d) : ∀ (k : Nat) (l : List Int), inT d.length l → 1 ≤ l.length → (lenT d l).toNat ≤ k → impF d k l = impF d (k + 1) l
  | 0, l, hl, h1, hk => by
    cases hb : bett d l with
    | none => rw [impF, impF, hb]
    | some r =>
      have := (bett_ok h hl h1 hb).2.2
      omega
  | k + 1, l, hl, h1, hk => by
    rw [impF]
    cases hb : bett d l with
    | none => rw [impF, hb]
    | some r =>
      obtain ⟨e1, e2, e3⟩ := bett_ok h hl h1 hb
      rw [impF, hb]
      exact impF_succ h k r e2 (by omega) (by omega)
end
section
variable {d : List (List Int)}
theorem impF_fuel (h : okD d) {l : List Int} (hl : inT d.length l) (h1 : 1 ≤ l.length) : ∀ k : Nat, impF d ((lenT d l).toNat + k) l = impT d l
  | 0 => rfl
  | k + 1 => by
    rw [← Nat.add_assoc, ← impF_succ h _ l hl h1 (by omega)]
    exact impF_fuel h hl h1 k
end
section
variable {d : List (List Int)}
theorem impT_none {l : List Int} (hb : bett d l = none) : impT d l = l := by
  unfold impT
  cases hk : (lenT d l).toNat with
  | zero => rfl
  | succ k => rw [impF, hb]
end
section
variable {d : List (List Int)}
theorem impT_some (h : okD d) {l r : List Int} (hl : inT d.length l) (h1 : 1 ≤ l.length) (hb : bett d l = some r) : impT d l = impT d r := by
  obtain ⟨e1, e2, e3⟩ := bett_ok h hl h1 hb
  unfold impT
  obtain ⟨k, hk⟩ : ∃ k, (lenT d l).toNat = ((lenT d r).toNat + k) + 1 := ⟨(lenT d l).toNat - (lenT d r).toNat - 1, by omega⟩
  rw [hk, impF, hb]
  exact impF_fuel h e2 (by omega) k
end
section
variable {d : List (List Int)} {l0 : List Int}
abbrev ipE (d : List (List Int)) (l0 : List Int) (b n : Nat) (v7 : HV) : Env := env35 (.imm .arg 1 (d.map encR)) (.imm .arg 1 (l0.map encI)) (.imm .lit 1 []) (.int .i64 0) (.sl b 0 n none n 1) v7
end
section
variable {d : List (List Int)} {l0 : List Int}
theorem ip_loop (h : okD d) : ∀ (N : Nat) (l : List Int) (b : Nat) (H : Heap), (lenT d l).toNat ≤ N → inT d.length l → (1 ≤ l.length ∧ l.length ≤ 500) → H[b]? = some (bI l) → mxs H = 0 →
    ∃ b' H', RunsTo Try.prog polV 35 (sub [1, 1, 1, 0, 1, 0] B35) (ipE d l0 b l.length (.bool true)) H (.exit 0) (polV.keys 35) (ipE d l0 b' l.length (.bool false)) H' ∧ H'[b']? = some (bI (impT d l)) ∧ (impT d l).length = l.length := by
  intro N
  induction N with
  | zero =>
    intro l b H hN hl h1 hb h0
    rcases sh_call h hl h1 hb h0 with ⟨e1, e2⟩ | ⟨r, e1, e2⟩
    · obtain ⟨M, hM⟩ := CallsTo.from e2
      have s1 := ip_lt_1 M (d.map encR) (l0.map encI) b l.length H b H hM
      have s2 := ip_lf_0 0 (d.map encR) (l0.map encI) b l.length H
      rw [impT_none e1]
      exact ⟨b, H, RunsTo.loop s1 (by kernel_rfl) (gc_eq _ rfl) (RunsTo.loop_out s2 (by simp) (by kernel_rfl) (by kernel_rfl)) rfl (by kernel_rfl) (by kernel_rfl), hb, rfl⟩
    · have := (bett_ok h hl h1.1 e1).2.2
      omega
  | succ N ih =>
    intro l b H hN hl h1 hb h0
    rcases sh_call h hl h1 hb h0 with ⟨e1, e2⟩ | ⟨r, e1, e2⟩
    · obtain ⟨M, hM⟩ := CallsTo.from e2
      have s1 := ip_lt_1 M (d.map encR) (l0.map encI) b l.length H b H hM
      have s2 := ip_lf_0 0 (d.map encR) (l0.map encI) b l.length H
      rw [impT_none e1]
      exact ⟨b, H, RunsTo.loop s1 (by kernel_rfl) (gc_eq _ rfl) (RunsTo.loop_out s2 (by simp) (by kernel_rfl) (by kernel_rfl)) rfl (by kernel_rfl) (by kernel_rfl), hb, rfl⟩
    · obtain ⟨M, hM⟩ := CallsTo.from e2
      obtain ⟨q1, q2, q3⟩ := bett_ok h hl h1.1 e1
      have s1 := ip_lt_0 M (d.map encR) (l0.map encI) b l.length H H.length _ hM
      obtain ⟨b', H', r1, r2, r3⟩ := ih r H.length (H ++ [bI r]) (by omega) q2 (by omega) (by rw [List.getElem?_append_right (Nat.le_refl _)]; simp) (by rw [mxs_app]; exact h0)
      rw [q1] at r1 r3
      rw [impT_some h hl h1.1 e1]
      exact ⟨b', H', RunsTo.loop s1 (by kernel_rfl) (gc_keep (l := r) (by simp only [bndE, bnd, bndL]; omega)) r1 rfl (by kernel_rfl) (by kernel_rfl), r2, r3⟩
end
theorem toRes_li0 {H : Heap} {b k : Nat} {o : List Int} (hb : H[b]? = some (bI o)) (hk : o.length = k) (e : Int) : toRes H false (.tuple [.sl b 0 k none k 1, .int .i64 e]) = some (.tuple [.own 1 (o.map encI), .int .i64 e]) := by
  have hr := resCell_sl (H := H) (no := [b]) (b := b) (k := 1) (m := k) (cap := none) (els := o.map encI) hb (by simpa using hk) (mapO_self (fun r => frz_int 4 r) _)
  have ho : ownedAll H false (.tuple [.sl b 0 k none k 1, .int .i64 e]) = [b] := by simp [ownedAll, cellsOf, owned, hb]
  simp only [toRes, ho, List.nodup_cons, List.not_mem_nil, not_false_eq_true, List.nodup_nil, and_self, if_true, mapO, resVal, hr]
  rfl
theorem res35 : Try.f35.results.toList = [.tmp 4, .tmp 5] := by kernel_rfl
theorem improve_ok : PrimOk Try.prog 35 improve35 := by
  refine primOk_pure (pol := polV) (fn := Try.f35) (cd := B35) follows_mixed soundV (by kernel_rfl) (by kernel_rfl) (fnok polV.prim _ _ (by kernel_rfl)) (by kernel_rfl) ?_
  intro args res h
  obtain ⟨d, l, rfl, hq⟩ := rlF_inv h
  clear h
  split at hq
  · rename_i hc
    cases hq
    have a1 := ip_a_0 0 (d.map encR) (l.map encI)
    by_cases c1 : okD d
    · have m1 := prim_miles (pol' := polV) (by kernel_rfl) hc.1 hc.2.1 [] true (okB_true c1)
      by_cases c2 : trOk d.length l = true
      · rw [if_pos ⟨c1, c2⟩]
        have m2 := prim_mtour (pol' := polV) (by kernel_rfl) c1.1.1 hc.2.2 [] true c2
        obtain ⟨t1, t2, t3, t4⟩ := trOk_iff.1 c2
        have hl : 1 ≤ l.length ∧ l.length ≤ 500 := by have := c1.1; omega
        have b1 := ip_b_0 0 (d.map encR) (l.map encI) m1 m2
        have hcl : ∀ k, callN Try.prog polV (k + 1) 52 [.imm .arg 1 (l.map encI)] [] = some (.sl 0 0 l.length none l.length 1, [bI l]) := fun k => by
          rw [prim_call (pol := polV) (g := 52) (F := clone52) (by kernel_rfl) (rs := [.imm .arg 1 (l.map encI)]) (by simp only [mapO, arg_li]) (res := .own 1 (l.map encI)) (by simp only [clone52, liF, mapO_map decI_enc]; rw [if_pos hc.2.2]), recv_ints]
          rfl
        have cc := ip_c_0 0 (d.map encR) (l.map encI) l.length (l.map encI) hcl
        have dd := ip_d_0 0 (d.map encR) (l.map encI) 0 l.length [bI l]
        obtain ⟨b', H', r1, r2, r3⟩ := ip_loop (l0 := l) c1 (lenT d l).toNat l 0 [bI l] (Nat.le_refl _) t3 hl rfl (by simp [mxs, Blk.mx])
        have z1 := ip_z_0 0 (d.map encR) (l.map encI) b' l.length H'
        have q1 := RunsTo.seq dd (RunsTo.block_exit (c := sub [1, 1, 1, 0, 1] B35) r1 (by kernel_rfl)) (c := sub [1, 1, 1, 0] B35) (by kernel_rfl) (by kernel_rfl)
        have q2 := RunsTo.seq cc (RunsTo.seq q1 z1 (c := sub [1, 1, 1] B35) (by kernel_rfl) (by kernel_rfl)) (c := sub [1, 1] B35) (by kernel_rfl) (by kernel_rfl)
        have q3 := RunsTo.seq a1 (RunsTo.seq b1 q2 (c := sub [1] B35) (by kernel_rfl) (by kernel_rfl)) (c := B35) (by kernel_rfl) (by kernel_rfl)
        exact ⟨_, _, _, .tuple [.sl b' 0 l.length none l.length 1, .int .i64 0], q3, by simp, by simp only [resultsV, res35]; rfl, toRes_li0 r2 r3 0⟩
      · rw [if_neg (fun h => c2 h.2)]
        have m2 := prim_mtour (pol' := polV) (by kernel_rfl) c1.1.1 hc.2.2 [] false (nb_false c2)
        exact ⟨_, _, _, _, RunsTo.seq a1 (RunsTo.seq_out (ip_b_1 0 (d.map encR) (l.map encI) m1 m2) (by simp) (c := sub [1] B35) (b := sub [1, 1] B35) (by kernel_rfl)) (c := B35) (by kernel_rfl) (by kernel_rfl), by simp, by simp only [resultsV, res35]; rfl, rfl⟩
    · rw [if_neg (fun h => c1 h.1)]
      have m1 := prim_miles (pol' := polV) (by kernel_rfl) hc.1 hc.2.1 [] false (okB_false c1)
      exact ⟨_, _, _, _, RunsTo.seq a1 (RunsTo.seq_out (ip_b_2 0 (d.map encR) (l.map encI) m1) (by simp) (c := sub [1] B35) (b := sub [1, 1] B35) (by kernel_rfl)) (c := B35) (by kernel_rfl) (by kernel_rfl), by simp, by simp only [resultsV, res35]; rfl, rfl⟩
  · cases hq
end Go.Proofs.Ytlendaofkmhgmaa
end
section
open Go Go.HL
namespace Go.Proofs.Ytlendaofkmhgmaa
theorem soundI (n : Nat) : CallSound Try.prog (callN Try.prog polI n) := sound_prim _ (fun g f h => by
  split at h
  · rename_i hg; cases h; rw [eq_of_beq hg]; exact miles_ok
  split at h
  · rename_i hg; cases h; rw [eq_of_beq hg]; exact mlen_ok
  · cases h) n
open Classical in
noncomputable def best29 : List HV → Option HV := rwF fun R => if R.length ≤ 1000 ∧ (R.all fun r => decide (r.length ≤ 1000)) = true then some (if okD R then .tuple [.own 1 ((bestT R).map encI), .int .i64 (lenT R (bestT R)), .int .i64 0] else .tuple [.own 1 [], .int .i64 0, .int .i64 2]) else none
theorem toRes_li2 {H : Heap} {b k : Nat} {cap : Option Nat} {o : List Int} (hb : H[b]? = some (bI o)) (hk : o.length = k) (x e : Int) : toRes H false (.tuple [.sl b 0 k cap k 1, .int .i64 x, .int .i64 e]) = some (.tuple [.own 1 (o.map encI), .int .i64 x, .int .i64 e]) := by
  have hr := resCell_sl (H := H) (no := [b]) (b := b) (k := 1) (m := k) (cap := cap) (els := o.map encI) hb (by simpa using hk) (mapO_self (fun r => frz_int 4 r) _)
  have ho : ownedAll H false (.tuple [.sl b 0 k cap k 1, .int .i64 x, .int .i64 e]) = [b] := by simp [ownedAll, cellsOf, owned, hb]
  simp only [toRes, ho, List.nodup_cons, List.not_mem_nil, not_false_eq_true, List.nodup_nil, and_self, if_true, mapO, resVal, hr]
  rfl
theorem arg_slc {H : Heap} {l : List Int} {b m : Nat} {cap : Option Nat} (hm : l.length = m) (hb : H[b]? = some (bI l)) : toArg H 6 (.sl b 0 m cap m 1) = some (.imm .arg 1 (l.map encI)) := arg_sl hm hb
theorem res29 : Try.f29.results.toList = [.tmp 2, .tmp 3, .tmp 4] := by kernel_rfl
theorem lit_zero (H : Heap) : litV Try.prog true true 23 1 [(0, .int .i64 0)] H = some (.sl H.length 0 1 (some 1) 1 1, H ++ [bI [0]]) := by kernel_rfl
section
variable {d : List (List Int)}
abbrev bsE (d : List (List Int)) (tv y8 y9 y10 y29 y30 : HV) : Env := env29 (.imm .arg 1 (d.map encR)) (.imm .lit 1 []) (.int .i64 0) (.int .i64 0) (.map 0) (.ptr 1 0 0 1) tv y8 y9 y10 y29 y30
end
section
variable {d : List (List Int)}
abbrev tv4 (m : Nat) : HV := .sl 4 0 m none m 1
end
section
variable {d : List (List Int)}
structure BI (d : List (List Int)) (v w : Nat) (o : List Int) (tv : HV) (H : Heap) : Prop where
  mem : Mem (rsT d) H
  box : H[1]? = some (boxK v w)
  st : (tv = .sl 2 0 1 (some 1) 1 1 ∧ o = [0] ∧ H.length = 3 ∧ H[2]? = some (bI o)) ∨ (tv = tv4 o.length ∧ H.length = 5 ∧ H[4]? = some (bI o))
end
section
variable {d : List (List Int)}
theorem BI.len {d : List (List Int)} {v w : Nat} {o : List Int} {tv : HV} {H : Heap} (h : BI d v w o tv H) : 3 ≤ H.length ∧ H.length ≤ 5 ∧ bnd tv ≤ H.length := by
  rcases h.st with ⟨h1, _, h3, _⟩ | ⟨h1, h3, _⟩ <;> rw [h1, h3] <;> simp [bnd]
end
section
variable {d : List (List Int)}
theorem BI.app {d : List (List Int)} {v w : Nat} {o : List Int} {tv : HV} {H H3 : Heap} (h : BI d v w o tv H) (hM : Mem (rsT d) H3) (hl : H3.length = H.length + 1) (hs : ∀ k, 2 ≤ k → k < H.length → H3[k]? = H[k]?) (ho : o.length ≤ 500) (x : Int) :
    ∃ H4, appV H3 1 8 tv [.int .i64 x] = some (tv4 (o.length + 1), H4) ∧ Mem (rsT d) H4 ∧ H4[1]? = H3[1]? ∧ H4[4]? = some (bI (o ++ [x])) ∧ 5 ≤ H4.length := by
  rcases h.st with ⟨h1, h2, h3, h4⟩ | ⟨h1, h3, h4⟩
  · have e := hs 2 (by omega) (by omega)
    rw [h4] at e
    subst h2; subst h1
    refine ⟨H3 ++ [bI ([0] ++ [x])], ?_, hM.app (same_bI _) rfl, List.getElem?_append_left (by omega), ?_, by simp; omega⟩
    · have e4 : H3.length = 4 := by omega
      simp only [appV, e, e4]
      simp [roomMax, bnd, bndL, encI]
    · rw [List.getElem?_append_right (by omega)]; simp [hl, h3]
  · have e := hs 4 (by omega) (by omega)
    rw [h4] at e
    subst h1
    have ap := app_ints (xs := [x]) e (by simp; omega) (by simp)
    rw [show (o ++ [x]).length = o.length + 1 by simp] at ap
    exact ⟨_, ap, hM.set (by omega) (same_bI _) rfl, List.getElem?_set_ne (by omega), List.getElem?_set_self (by omega), by simp; omega⟩
end
section
variable {d : List (List Int)}
theorem bs_in (hd : okD d) {v w : Nat} {o : List Int} {tv : HV} (hv : v < d.length) (hw : w < 2 ^ d.length) (ho : o.length ≤ 500) : ∀ k i H u, i + k = d.length → BI d v w o tv H → pck (okV d v w) k i = some u →
    ∃ y9 y10 y29 y30 H', RunsTo Try.prog polI 29 (sub [1, 1, 1, 1, 1, 0, 0, 0, 1, 0, 1, 1, 0] B29) (bsE d tv (.int .i64 (rsT d v w)) .undef .undef (.int .i64 (d.length : Int)) (.int .i64 (i : Int))) H
      (.exit 2) (polI.keys 29) (bsE d (tv4 (o.length + 1)) (.int .i64 (rsT d v w)) y9 y10 y29 y30) H' ∧ Mem (rsT d) H' ∧ H'[1]? = some (boxK u (wo w u : Nat)) ∧ H'[4]? = some (bI (o ++ [(u : Int)])) ∧ 5 ≤ H'.length := by
  have hp := pow_le hd.1.2
  have hn := hd.1.2
  intro k
  induction k with
  | zero => intro i H u _ _ h; cases h
  | succ k ih =>
    intro i H u hi hB hq
    rw [pck] at hq
    have bl := bo_shl (v := i) (by omega)
    have bn := bo_andn (L := w) (v := i) (by omega) (by omega)
    have hl := hB.len
    have g4 : some (newV (.agg [.int .i64 0, .int .i64 0]) H) = some (.ptr H.length 0 0 1, H ++ [boxK 0 0]) := by
      rw [show (HV.agg [.int .i64 0, .int .i64 0]) = encP ((0 : Int), (0 : Int)) from rfl, new_k]
    have gn0 : (H ++ [boxK 0 0])[H.length]? = some (boxK 0 0) := by rw [List.getElem?_append_right (Nat.le_refl _)]; simp
    have g5 : storeV Try.prog (H ++ [boxK 0 0]) 77 (.ptr H.length 0 0 1) (.agg [.int .i64 (i : Int), .int .i64 ((wo w i : Nat) : Int)]) = some (H ++ [boxK i (wo w i : Nat)]) := by
      have := st_k (x := (i : Int)) (y := ((wo w i : Nat) : Int)) gn0
      rw [List.set_append_right _ _ (Nat.le_refl _), Nat.sub_self] at this
      exact this
    have hM0 : Mem (rsT d) (H ++ [boxK 0 0]) := hB.mem.app (same_box _ _) rfl
    have l0 : loadV Try.prog (H ++ [boxK 0 0]) 3 (.ptr 1 0 1 1) = some (.int .i64 (w : Int)) := ld_k1 (by rw [List.getElem?_append_left (by omega)]; exact hB.box)
    have gS : (recL ((loadV Try.prog H 3 (.ptr 1 0 1 1)).map (fun v => (v, (H : Heap)))) ((loadV Try.prog (H ++ [boxK 0 0]) 3 (.ptr 1 0 1 1)).map (fun v => (v, ((H ++ [boxK 0 0]) : Heap)))) H (H ++ [boxK 0 0]) && true) = true := by
      rw [ld_k1 hB.box, l0]
      simp only [Option.map, recL, hB.mem.rf, hM0.rf]
      simp [same]
    have hM1 : Mem (rsT d) (H ++ [boxK i (wo w i : Nat)]) := hB.mem.app (same_box _ _) rfl
    have low : ∀ k, k < H.length → (H ++ [boxK (i : Int) (wo w i : Nat)])[k]? = H[k]? := fun k hk => List.getElem?_append_left hk
    have x1 : (H ++ [boxK i (wo w i : Nat)])[1]? = some (boxK v w) := by rw [low 1 (by omega)]; exact hB.box
    have x3 : (H ++ [boxK (i : Int) (wo w i : Nat)])[H.length]? = some (boxK i (wo w i : Nat)) := by rw [List.getElem?_append_right (Nat.le_refl _)]; simp
    have ll : (H ++ [boxK (i : Int) (wo w i : Nat)]).length = H.length + 1 := by simp
    have cut : ∀ (H' : Heap) (y : HV), Mem (rsT d) H' → bnd y = 0 → gc H.length (bndE (bsE d tv y .undef .undef (.int .i64 (d.length : Int)) (.int .i64 ((i + 1 : Nat) : Int)))) H' = H'.take H.length := fun H' y hM' hy => by
      rw [hM'.gc]
      congr 1
      simp only [bndE, bnd, bndL, hy]
      omega
    by_cases c : w.testBit i = true
    · have hne : ¬ ((w : Int) = ((wo w i : Nat) : Int)) := by have := wo_lt c; omega
      obtain ⟨H2, hcl, hM2, hF⟩ := rs_call hd w i (wo w i) (wo_le _ _) (by omega) (by have := wo_le w i; omega) _ hM1
      obtain ⟨N, hN⟩ := CallsTo.from hcl
      have b1 := hd.at hv (j := i) (by omega)
      have b3 := rsT_bnd hd (s := i) (L := wo w i) (by omega) (by have := wo_le w i; omega)
      have hwr : IntKind.i64.wrap (at2 d v i + rsT d i (wo w i)) = at2 d v i + rsT d i (wo w i) := wrap_id (by omega) (by omega)
      have gS2 : (recL ((loadV Try.prog (H ++ [boxK i (wo w i : Nat)]) 3 (.ptr 1 0 0 1)).map (fun v => (v, ((H ++ [boxK i (wo w i : Nat)]) : Heap)))) ((loadV Try.prog H2 3 (.ptr 1 0 0 1)).map (fun v => (v, (H2 : Heap)))) (H ++ [boxK i (wo w i : Nat)]) H2 && ((same (.imm .arg 1 ((d.getD v []).map encI)) (.imm .arg 1 ((d.getD v []).map encI)) && sameH ((H ++ [boxK i (wo w i : Nat)]) : Heap) (H ++ [boxK i (wo w i : Nat)]) && sameH (H2 : Heap) H2) && ((same (.int .i64 (at2 d v i)) (.int .i64 (at2 d v i)) && sameH ((H ++ [boxK i (wo w i : Nat)]) : Heap) (H ++ [boxK i (wo w i : Nat)]) && sameH (H2 : Heap) H2) && true))) = true := by
        have l2 : loadV Try.prog H2 3 (.ptr 1 0 0 1) = some (.int .i64 (v : Int)) := ld_k0 (by rw [hF.same _ (by omega)]; exact x1)
        rw [ld_k0 x1, l2]
        simp only [Option.map, recL, hM1.rf, hM2.rf, same_imm]
        simp [same]
      have y1 : H2[1]? = some (boxK v w) := by rw [hF.same _ (by omega)]; exact x1
      have y3 : H2[H.length]? = some (boxK i (wo w i : Nat)) := by rw [hF.same _ (by omega)]; exact x3
      have l2 := lt_of_get y1
      by_cases c2 : at2 d v i + rsT d i (wo w i) = rsT d v w
      · have hok : okV d v w i = true := by simp [okV, c, c2]
        rw [if_pos hok] at hq
        cases hq
        have s3 := st_k (x := (i : Int)) (y := ((wo w i : Nat) : Int)) y1
        obtain ⟨H4, ap, hM4, z1, z4, z5⟩ := hB.app (H3 := H2.set 1 (boxK i (wo w i : Nat))) (hM2.set (by omega) (same_box _ _) rfl) (by simp [hF.len]) (fun k h2 hk => by rw [List.getElem?_set_ne (by omega), hF.same _ (by omega), low _ hk]) ho (i : Int)
        have s := bs_l_1 N (d.map encR) tv v w H (rsT d v w) d.length i H.length ((wo w i : Nat) : Int) _ _ _ _ _ _ _ H2 _ _ _ (by omega) (ld_k1 hB.box) bl bn g4 g5 gS (ld_k1 x1) (ld_k1 x3) hne (ld_k0 x1) (g22 hv) (g23 hd hv (by omega)) (ld_k x3) hN (by rw [hwr, c2]) gS2 (ld_k y3) s3 ap
        refine ⟨_, _, _, _, _, RunsTo.loop_out s (by simp) (by kernel_rfl) (by kernel_rfl), hM4, ?_, z4, z5⟩
        rw [z1, List.getElem?_set_self (by omega)]
      · have hok : ¬ okV d v w i = true := by simp [okV, c, c2]
        rw [if_neg hok] at hq
        have s := bs_l_2 N (d.map encR) tv v w H (rsT d v w) d.length i H.length ((wo w i : Nat) : Int) _ _ _ _ _ _ _ H2 (by omega) (ld_k1 hB.box) bl bn g4 g5 gS (ld_k1 x1) (ld_k1 x3) hne (ld_k0 x1) (g22 hv) (g23 hd hv (by omega)) (ld_k x3) hN (by rw [hwr]; exact c2) gS2
        rw [wrap_succ (by omega)] at s
        have tl : (H2.take H.length).length = H.length := by rw [List.length_take, hF.len, ll]; omega
        have tk : ∀ k, k ≠ 0 → k < H.length → (H2.take H.length)[k]? = H[k]? := fun k h0 hk => by rw [List.getElem?_take, if_pos hk, hF.same _ h0, low _ hk]
        have hB2 : BI d v w o tv (H2.take H.length) := by
          refine ⟨hM2.take (by omega), by rw [tk 1 (by omega) (by omega)]; exact hB.box, ?_⟩
          rcases hB.st with ⟨h1, h2, h3, h4⟩ | ⟨h1, h3, h4⟩
          · exact .inl ⟨h1, h2, tl.trans h3, by rw [tk 2 (by omega) (by omega)]; exact h4⟩
          · exact .inr ⟨h1, tl.trans h3, by rw [tk 4 (by omega) (by omega)]; exact h4⟩
        obtain ⟨y9, y10, y29, y30, H', r, r2⟩ := ih (i + 1) _ u (by omega) hB2 hq
        exact ⟨y9, y10, y29, y30, H', RunsTo.loop s (by kernel_rfl) (cut _ _ hM2 rfl) r rfl (by kernel_rfl) (by kernel_rfl), r2⟩
    · have hok : ¬ okV d v w i = true := by simp [okV, c]
      rw [if_neg hok] at hq
      have e : wo w i = w := by unfold wo; rw [if_neg c]
      rw [e] at bn g5 hM1 x1 x3
      have s := bs_l_0 0 (d.map encR) tv v w H (rsT d v w) d.length i H.length (w : Int) _ _ _ _ (by omega) (ld_k1 hB.box) bl bn g4 g5 gS (ld_k1 x1) (ld_k1 x3) rfl rfl
      rw [wrap_succ (by omega)] at s
      have ec := cut _ (.int .i64 (rsT d v w)) hM1 rfl
      have et : (H ++ [boxK (i : Int) (w : Int)]).take H.length = H := by rw [List.take_append_of_le_length (Nat.le_refl _), List.take_of_length_le (Nat.le_refl _)]
      rw [et] at ec
      obtain ⟨y9, y10, y29, y30, H', r, r2⟩ := ih (i + 1) _ u (by omega) hB hq
      exact ⟨y9, y10, y29, y30, H', RunsTo.loop s (by kernel_rfl) ec r rfl (by kernel_rfl) (by kernel_rfl), r2⟩
end
section
variable {d : List (List Int)}
theorem bs_loop (hd : okD d) : ∀ (k v w : Nat) (o : List Int) (tv : HV) (H : Heap), w ≤ k → v < d.length → w < 2 ^ d.length → BI d v w o tv H → o.length + (grd d k v w).length ≤ 500 →
    ∃ tb cap H', RunsTo Try.prog polI 29 (sub [1, 1, 1, 1, 1, 0, 0] B29) (bsE d tv .undef .undef .undef .undef .undef) H (.exit 0) (polI.keys 29) (bsE d (.sl tb 0 (o ++ grd d k v w).length cap (o ++ grd d k v w).length 1) .undef .undef .undef .undef .undef) H' ∧ H'[tb]? = some (bI (o ++ grd d k v w)) := by
  have h0 : ∀ (v : Nat) (o : List Int) (tv : HV) (H : Heap), BI d v 0 o tv H → ∃ tb cap H', RunsTo Try.prog polI 29 (sub [1, 1, 1, 1, 1, 0, 0] B29) (bsE d tv .undef .undef .undef .undef .undef) H (.exit 0) (polI.keys 29) (bsE d (.sl tb 0 (o ++ []).length cap (o ++ []).length 1) .undef .undef .undef .undef .undef) H' ∧ H'[tb]? = some (bI (o ++ [])) := fun v o tv H hB => by
    rw [List.append_nil]
    have f := bs_f_1 0 (d.map encR) tv v 0 H (ld_k1 hB.box) (by omega)
    have r := RunsTo.loop_out (RunsTo.seq_out f (by simp) (c := sub [1, 1, 1, 1, 1, 0, 0, 0] B29) (b := sub [1, 1, 1, 1, 1, 0, 0, 0, 1] B29) (by kernel_rfl)) (by simp) (c := sub [1, 1, 1, 1, 1, 0, 0] B29) (by kernel_rfl) (by kernel_rfl)
    rcases hB.st with ⟨h1, h2, h3, h4⟩ | ⟨h1, h3, h4⟩
    · subst h1; subst h2
      exact ⟨2, some 1, H, r, h4⟩
    · subst h1
      exact ⟨4, none, H, r, h4⟩
  intro k
  induction k with
  | zero =>
    intro v w o tv H hk _ _ hB _
    have : w = 0 := by omega
    subst this
    exact h0 v o tv H hB
  | succ k ih =>
    intro v w o tv H hk hv hw hB hl
    by_cases cw : w = 0
    · subst cw
      rw [grd, if_pos rfl]
      exact h0 v o tv H hB
    · obtain ⟨u, p1, p2, p3, p4⟩ := pck_ok hd hv hw cw
      have eg : grd d (k + 1) v w = (u : Int) :: grd d k u (wo w u) := by rw [grd, if_neg cw, p1]
      rw [eg] at hl ⊢
      rw [List.length_cons] at hl
      have f := bs_f_0 0 (d.map encR) tv v w H (ld_k1 hB.box) (by omega)
      obtain ⟨H1, hcl, hM1, hF⟩ := rs_call hd w v w (Nat.le_refl _) hv hw _ hB.mem
      obtain ⟨N, hN⟩ := CallsTo.from hcl
      have g := bs_g_0 N (d.map encR) tv v w H _ H1 (ld_k hB.box) hN
      have h := bs_h_0 0 (d.map encR) tv v w H1 (rsT d v w)
      rw [List.length_map] at h
      have hB1 : BI d v w o tv H1 := by
        refine ⟨hM1, by rw [hF.same _ (by omega)]; exact hB.box, ?_⟩
        rcases hB.st with ⟨h1, h2, h3, h4⟩ | ⟨h1, h3, h4⟩
        · exact .inl ⟨h1, h2, hF.len.trans h3, by rw [hF.same _ (by omega)]; exact h4⟩
        · exact .inr ⟨h1, hF.len.trans h3, by rw [hF.same _ (by omega)]; exact h4⟩
      obtain ⟨y9, y10, y29, y30, H2, r, r1, r2, r3, r4⟩ := bs_in hd hv hw (by omega) d.length 0 H1 u (by omega) hB1 p1
      have r' := RunsTo.loop_in (e0 := bsE d tv (.int .i64 (rsT d v w)) .undef .undef (.int .i64 (d.length : Int)) (.int .i64 0)) r (b := sub [1, 1, 1, 1, 1, 0, 0, 0, 1, 0, 1, 1, 0, 0] B29) (by kernel_rfl) (by kernel_rfl) (by kernel_rfl)
      have t1 := RunsTo.seq h (RunsTo.block_exit (c := sub [1, 1, 1, 1, 1, 0, 0, 0, 1, 0, 1, 1] B29) r' (by kernel_rfl)) (c := sub [1, 1, 1, 1, 1, 0, 0, 0, 1, 0, 1] B29) (by kernel_rfl) (by kernel_rfl)
      have t2 := RunsTo.seq g t1 (c := sub [1, 1, 1, 1, 1, 0, 0, 0, 1, 0] B29) (by kernel_rfl) (by kernel_rfl)
      have t3 := RunsTo.block_normal (i := 1) (c := sub [1, 1, 1, 1, 1, 0, 0, 0, 1] B29) t2 (by kernel_rfl)
      have t4 := RunsTo.seq f t3 (c := sub [1, 1, 1, 1, 1, 0, 0, 0] B29) (by kernel_rfl) (by kernel_rfl)
      have hB2 : BI d u (wo w u) (o ++ [(u : Int)]) (tv4 (o.length + 1)) (H2.take 5) := by
        refine ⟨r1.take (by omega), ?_, .inr ⟨by simp, by rw [List.length_take]; omega, ?_⟩⟩
        · rw [List.getElem?_take, if_pos (by omega)]; exact r2
        · rw [List.getElem?_take, if_pos (by omega)]; exact r3
      have ec : gc H.length (bndE (bsE d (tv4 (o.length + 1)) .undef .undef .undef .undef .undef)) H2 = H2.take 5 := by
        rw [r1.gc]
        congr 1
        have := hB.len
        simp only [bndE, bnd, bndL]
        omega
      obtain ⟨tb, cap, H', q1, q2⟩ := ih u (wo w u) (o ++ [(u : Int)]) _ (H2.take 5) (by have := wo_lt p3; omega) p2 (by have := wo_lt p3; omega) hB2 (by simp; omega)
      rw [List.append_assoc] at q1 q2
      exact ⟨tb, cap, H', RunsTo.loop t4 (by kernel_rfl) ec q1 rfl (by kernel_rfl) (by kernel_rfl), q2⟩
end
theorem best_ok : PrimOk Try.prog 29 best29 := by
  refine primOk_pure (pol := polI) (fn := Try.f29) (cd := B29) follows_mixed soundI (by kernel_rfl) (by kernel_rfl) (fnok polI.prim _ _ (by kernel_rfl)) (by kernel_rfl) ?_
  intro args res h
  obtain ⟨d, rfl, hq⟩ := rwF_inv h
  clear h
  split at hq
  · rename_i hc
    cases hq
    have a := bs_a_0 0 (d.map encR)
    by_cases hd : okD d
    · rw [if_pos hd]
      have hn := hd.1
      have hp := pow_le hd.1.2
      have m1 := prim_miles (pol' := polI) (by kernel_rfl) hc.1 hc.2 [] true (okB_true hd)
      have b := bs_b_0 0 (d.map encR) m1
      have c := bs_c_0 0 (d.map encR) [] _ rfl
      have h2 : 2 ≤ 2 ^ d.length := by
        have := Nat.pow_le_pow_right (n := 2) (by omega) hn.1
        omega
      have ew : IntKind.i64.wrap (((2 ^ d.length : Nat) : Int) - 2) = ((2 ^ d.length - 2 : Nat) : Int) := by
        generalize 2 ^ d.length = x at hp h2
        rw [wrap_id (by omega) (by omega)]; omega
      have bl := bo_shl (v := d.length) (by omega)
      have dd := bs_d_0 0 (d.map encR) [.map [] [] 0] ((2 ^ d.length : Nat) : Int) _ [.map [] [] 0, boxK 0 (2 ^ d.length - 2 : Nat)] (by rw [List.length_map]; exact bl) (by rw [show (HV.agg [.int .i64 0, .int .i64 0]) = encP ((0 : Int), (0 : Int)) from rfl, new_k]; rfl) (by rw [ew]; exact st_k rfl)
      have e := bs_e_0 0 (d.map encR) _ [.map [] [] 0, boxK 0 (2 ^ d.length - 2 : Nat)] _ (lit_zero _)
      have hB : BI d 0 (2 ^ d.length - 2) [0] (.sl 2 0 1 (some 1) 1 1) [.map [] [] 0, boxK 0 (2 ^ d.length - 2 : Nat), bI [0]] := ⟨⟨⟨[], rfl⟩, by
        rw [sameH_iff]
        intro B hB
        simp only [List.mem_cons, List.not_mem_nil, or_false] at hB
        rcases hB with rfl | rfl | rfl
        · rfl
        · exact same_box _ _
        · exact same_bI _, by simp [mxs, Blk.mx]⟩, rfl, .inl ⟨rfl, rfl, rfl, rfl⟩⟩
      have ht := best_tour hd
      obtain ⟨t1, t2, t3, t4⟩ := trOk_iff.1 ht
      have hbl : (bestT d).length = 1 + (grd d (2 ^ d.length) 0 (2 ^ d.length - 2)).length := by simp only [bestT, List.length_cons]; omega
      obtain ⟨tb, cap, H', q1, q2⟩ := bs_loop hd (2 ^ d.length) 0 (2 ^ d.length - 2) [0] _ _ (Nat.sub_le _ _) (by omega) all_lt hB (by simp only [List.length_cons, List.length_nil]; omega)
      have eb : [0] ++ grd d (2 ^ d.length) 0 (2 ^ d.length - 2) = bestT d := rfl
      rw [eb] at q1 q2
      have k56 : ∀ k, callN Try.prog polI (k + 1) 56 [.imm .arg 1 (d.map encR), .sl tb 0 (bestT d).length cap (bestT d).length 1] H' = some (.int .i64 (lenT d (bestT d)), H') := fun k => by
        rw [prim_call (pol := polI) (g := 56) (F := len56) (by kernel_rfl) (rs := [.imm .arg 1 (d.map encR), .imm .arg 1 ((bestT d).map encI)]) (by simp only [mapO, arg_rw, arg_slc rfl q2]) (res := .int .i64 (lenT d (bestT d))) (by simp only [len56, rlF, mapO_map decR_enc, mapO_map decI_enc]; rw [if_pos ⟨hd, t3, by omega⟩])]; rfl
      have z := bs_z_0 0 (d.map encR) _ H' .undef .undef .undef .undef .undef _ _ k56
      have u1 := RunsTo.seq (RunsTo.block_exit (c := sub [1, 1, 1, 1, 1, 0] B29) q1 (by kernel_rfl)) z (c := sub [1, 1, 1, 1, 1] B29) (by kernel_rfl) (by kernel_rfl)
      have u2 := RunsTo.seq e u1 (c := sub [1, 1, 1, 1] B29) (by kernel_rfl) (by kernel_rfl)
      have u3 := RunsTo.seq dd u2 (c := sub [1, 1, 1] B29) (by kernel_rfl) (by kernel_rfl)
      have u4 := RunsTo.seq c u3 (c := sub [1, 1] B29) (by kernel_rfl) (by kernel_rfl)
      have u5 := RunsTo.seq a (RunsTo.seq b u4 (c := sub [1] B29) (by kernel_rfl) (by kernel_rfl)) (c := B29) (by kernel_rfl) (by kernel_rfl)
      exact ⟨_, _, _, .tuple [.sl tb 0 (bestT d).length cap (bestT d).length 1, .int .i64 (lenT d (bestT d)), .int .i64 0], u5, by simp, by simp only [resultsV, res29]; rfl, toRes_li2 q2 rfl _ 0⟩
    · rw [if_neg hd]
      have m1 := prim_miles (pol' := polI) (by kernel_rfl) hc.1 hc.2 [] false (okB_false hd)
      exact ⟨_, _, _, _, RunsTo.seq a (RunsTo.seq_out (bs_b_1 0 (d.map encR) m1) (by simp) (c := sub [1] B29) (b := sub [1, 1] B29) (by kernel_rfl)) (c := B29) (by kernel_rfl) (by kernel_rfl), by simp, by simp only [resultsV, res29]; rfl, rfl⟩
  · cases hq
end Go.Proofs.Ytlendaofkmhgmaa
end
section
open Go Go.HL
namespace Go.Proofs.Ytlendaofkmhgmaa
theorem res33 : Try.f33.results.toList = [.tmp 4] := by kernel_rfl
theorem info3b : (Try.prog.info? 3).map (fun i => (i.size, i.bytes, zeroFits i)) = some (1, 8, true) := by kernel_rfl
theorem set_self' {H : Heap} {b : Nat} {B : Blk} (hb : H[b]? = some B) : H.set b B = H := by
  apply List.ext_getElem?
  intro k
  rw [List.getElem?_set]
  by_cases e : b = k
  · subst e; rw [if_pos rfl, if_pos (lt_of_get hb), hb]
  · rw [if_neg e]
theorem app_sq {H : Heap} {b : Nat} {x : HV} {o xs : List Int} (hb : H[b]? = some (bI o)) (hs : srcOf H x = some (xs.map encI, 1)) (hlen : o.length + xs.length ≤ 1000) :
    builtinV Try.prog .append [23, 23] [.sl b 0 o.length none o.length 1, x] H = some (.sl b 0 (o ++ xs).length none (o ++ xs).length 1, H.set b (bI (o ++ xs))) := by
  have hi := info3b
  cases hinf : Try.prog.info? 3 with
  | none => rw [hinf] at hi; cases hi
  | some inf =>
    rw [hinf] at hi
    simp only [Option.map, Option.some.injEq, Prod.mk.injEq] at hi
    obtain ⟨e1, e2, e3⟩ := hi
    simp only [builtinV, u23, hinf, hs, e1, e2, e3]
    rw [if_pos ⟨.inl trivial, by omega, trivial⟩]
    by_cases hx : xs = []
    · subst hx
      simp only [List.map_nil, appV, if_true, List.append_nil, set_self' hb]
    · exact app_ints hb hlen hx
theorem src_slc {H : Heap} {b off len tot : Nat} {cap : Option Nat} {o : List Int} (hb : H[b]? = some (bI o)) (ht : o.length = tot) (h : off + len ≤ tot) : srcOf H (.sl b off len cap tot 1) = some (((o.drop off).take len).map encI, 1) := by
  simp only [srcOf]
  split
  · rename_i h0
    subst h0
    simp
  · simp only [view, hb, List.length_map, ht]
    rw [if_pos ⟨trivial, by omega, trivial⟩]
    simp [List.map_take, List.map_drop]
theorem sl_hi {b m : Nat} {cap : Option Nat} {a : Nat} (ha : a ≤ m) : sliceV Try.prog 23 (.sl b 0 m cap m 1) none (some (.int .i64 (a : Int))) none = some (.sl b 0 a (cap.map (· - 0)) m 1) := by
  have hb1 : boundV (some (.int .i64 (a : Int))) = some (some a) := by simp [boundV]
  have hb0 : boundV none = some none := rfl
  simp only [sliceV, hb1, hb0, u23, z3, if_true, Option.getD, Nat.zero_add, Nat.sub_zero]
  rw [if_pos ⟨Nat.zero_le _, ha⟩]
theorem sl_lo {b m : Nat} {cap : Option Nat} {a : Nat} (ha : a ≤ m) : sliceV Try.prog 23 (.sl b 0 m cap m 1) (some (.int .i64 (a : Int))) none none = some (.sl b a (m - a) (cap.map (· - a)) m 1) := by
  have hb1 : boundV (some (.int .i64 (a : Int))) = some (some a) := by simp [boundV]
  have hb0 : boundV none = some none := rfl
  simp only [sliceV, hb1, hb0, u23, z3, if_true, Option.getD, Nat.zero_add]
  rw [if_pos ⟨ha, Nat.le_refl _⟩]
theorem mxs_set0 {H : Heap} (h : mxs H ≤ 0) {k : Nat} {B : Blk} (hB : B.mx = 0) : mxs (H.set k B) ≤ 0 := by
  rw [mxs_le] at h ⊢
  intro C hC
  rcases List.mem_or_eq_of_mem_set hC with hC | rfl
  · exact h C hC
  · omega
theorem mxs_app0 {H : Heap} (h : mxs H ≤ 0) {B : Blk} (hB : B.mx = 0) : mxs (H ++ [B]) ≤ 0 := by
  rw [mxs_le] at h ⊢
  intro C hC
  rcases List.mem_append.1 hC with hC | hC
  · exact h C hC
  · rw [List.mem_singleton.1 hC]; omega
section
variable {l : List Int} {n : Nat}
abbrev toE (l : List Int) (n : Nat) (tv y6 y7 y8 : HV) : Env := env33 (.imm .arg 1 (l.map encI)) (.int .i64 (n : Int)) (.imm .lit 1 []) tv y6 y7 y8
end
section
variable {l : List Int} {n : Nat}
theorem to_apps {H : Heap} {tb m : Nat} {cap : Option Nat} {o : List Int} (hx : mxs H ≤ 0) (ho : H[tb]? = some (bI o)) (hm : o.length = m) {a : Nat} (ha : a ≤ m) (hl : m ≤ 100) (x : Int) :
    ∃ H2 H3 H4, builtinV Try.prog .append [23, 23] [.sl H.length 0 0 none 0 1, .sl tb 0 a (cap.map (· - 0)) m 1] (H ++ [bI []]) = some (.sl H.length 0 a none a 1, H2) ∧
      appV H2 1 8 (.sl H.length 0 a none a 1) [.int .i64 x] = some (.sl H.length 0 (a + 1) none (a + 1) 1, H3) ∧
      builtinV Try.prog .append [23, 23] [.sl H.length 0 (a + 1) none (a + 1) 1, .sl tb a (m - a) (cap.map (· - a)) m 1] H3 = some (.sl H.length 0 (m + 1) none (m + 1) 1, H4) ∧
      H4.length = H.length + 1 ∧ H4[H.length]? = some (bI (o.take a ++ (x :: o.drop a))) ∧ mxs H4 ≤ 0 := by
  have htl := lt_of_get ho
  have n0 : (H ++ [bI []])[H.length]? = some (bI []) := by rw [List.getElem?_append_right (Nat.le_refl _)]; simp
  have t0 : (H ++ [bI []])[tb]? = some (bI o) := by rw [List.getElem?_append_left htl]; exact ho
  have s0 := src_slc (cap := cap.map (· - 0)) t0 hm (off := 0) (len := a) (by omega)
  rw [List.drop_zero] at s0
  have p0 := app_sq (o := []) (xs := o.take a) n0 s0 (by simp; omega)
  rw [List.nil_append, show (o.take a).length = a by rw [List.length_take]; omega] at p0
  have n1 : ((H ++ [bI []]).set H.length (bI (o.take a)))[H.length]? = some (bI (o.take a)) := List.getElem?_set_self (by simp)
  have p1 := app_ints (o := o.take a) (xs := [x]) n1 (by simp; omega) (by simp)
  rw [show (o.take a).length = a by rw [List.length_take]; omega, show (o.take a ++ [x]).length = a + 1 by simp; omega] at p1
  have n2 : (((H ++ [bI []]).set H.length (bI (o.take a))).set H.length (bI (o.take a ++ [x])))[H.length]? = some (bI (o.take a ++ [x])) := List.getElem?_set_self (by simp)
  have t2 : (((H ++ [bI []]).set H.length (bI (o.take a))).set H.length (bI (o.take a ++ [x])))[tb]? = some (bI o) := by rw [List.getElem?_set_ne (by omega), List.getElem?_set_ne (by omega)]; exact t0
  have s2 := src_slc (cap := cap.map (· - a)) t2 hm (off := a) (len := m - a) (by omega)
  rw [List.take_of_length_le (l := o.drop a) (i := m - a) (by simp; omega)] at s2
  have p2 := app_sq (o := o.take a ++ [x]) (xs := o.drop a) n2 s2 (by simp; omega)
  rw [show (o.take a ++ [x]).length = a + 1 by simp; omega, show (o.take a ++ [x] ++ o.drop a).length = m + 1 by simp; omega] at p2
  refine ⟨_, _, _, p0, p1, p2, by simp, ?_, mxs_set0 (mxs_set0 (mxs_set0 (mxs_app0 hx rfl) rfl) rfl) rfl⟩
  rw [List.getElem?_set_self (by simp), List.append_assoc]
  rfl
end
section
variable {l : List Int} {n : Nat}
theorem to_loop (hn : n ≤ 12) : ∀ k i o tb cap H, i + k = n → 1 ≤ i → H[tb]? = some (bI o) → o.length = i → mxs H ≤ 0 →
    ∃ tb' cap' H', RunsTo Try.prog polA 33 (sub [1, 1, 0, 1, 0] B33) (toE l n (.sl tb 0 i cap i 1) (.int .i64 (i : Int)) .undef .undef) H (.exit 0) (polA.keys 33) (toE l n (.sl tb' 0 n cap' n 1) (.int .i64 (n : Int)) .undef .undef) H' ∧ H'[tb']? = some (bI (tourGo l k i o)) ∧ (tourGo l k i o).length = n := by
  intro k
  induction k with
  | zero =>
    intro i o tb cap H hi _ ho hl _
    have : i = n := by omega
    subst this
    exact ⟨tb, cap, H, RunsTo.loop_out (to_l_2 (l.map encI) i _ .undef .undef i 0 0 0 H (by omega)) (by simp) (by kernel_rfl) (by kernel_rfl), ho, hl⟩
  | succ k ih =>
    intro i o tb cap H hi h1 ho hl hx
    have ha := ins_at (l := l) h1 (by omega)
    rw [tourGo]
    have htl := lt_of_get ho
    have go : ∀ (a : Nat) (y7 y8 : HV) (H4 : Heap), a ≤ i → (if i < l.length then 1 + modW (l.getD i 0) i else (i : Int)).toNat = a → H4.length = H.length + 1 → H4[H.length]? = some (bI (o.take a ++ ((i : Int) :: o.drop a))) →
        RunsTo Try.prog polA 33 (sub [1, 1, 0, 1, 0, 0] B33) (toE l n (.sl tb 0 i cap i 1) (.int .i64 (i : Int)) .undef .undef) H .normal (polA.keys 33) (toE l n (.sl H.length 0 (i + 1) none (i + 1) 1) (.int .i64 ((i + 1 : Nat) : Int)) y7 y8) H4 →
        mxs H4 ≤ 0 → ∃ tb' cap' H', RunsTo Try.prog polA 33 (sub [1, 1, 0, 1, 0] B33) (toE l n (.sl tb 0 i cap i 1) (.int .i64 (i : Int)) .undef .undef) H (.exit 0) (polA.keys 33) (toE l n (.sl tb' 0 n cap' n 1) (.int .i64 (n : Int)) .undef .undef) H' ∧ H'[tb']? = some (bI (tourGo l k (i + 1) (insT l i o))) ∧ (tourGo l k (i + 1) (insT l i o)).length = n := by
      intro a y7 y8 H4 hai hat hl4 hb4 hs hx4
      have e : insT l i o = o.take a ++ ((i : Int) :: o.drop a) := by unfold insT; simp only [hat]
      have ec : gc H.length (bndE (toE l n (.sl H.length 0 (i + 1) none (i + 1) 1) (.int .i64 ((i + 1 : Nat) : Int)) .undef .undef)) H4 = H4 := by
        unfold gc
        have : H4.length ≤ max H.length (max (bndE (toE l n (.sl H.length 0 (i + 1) none (i + 1) 1) (.int .i64 ((i + 1 : Nat) : Int)) .undef .undef)) (mxs H4)) := by
          simp only [bndE, bnd, bndL]
          omega
        exact List.take_of_length_le this
      obtain ⟨tb', cap', H', r, q1, q2⟩ := ih (i + 1) (insT l i o) H.length none H4 (by omega) (by omega) (by rw [e]; exact hb4) (by rw [e]; simp; omega) hx4
      exact ⟨tb', cap', H', RunsTo.loop hs (by kernel_rfl) ec r rfl (by kernel_rfl) (by kernel_rfl), q1, q2⟩
    by_cases c : i < l.length
    · rw [if_pos c] at ha
      have hmb := modW_bounds (l.getD i 0) (i : Int) (by omega) (by omega)
      obtain ⟨a, hae⟩ : ∃ a : Nat, 1 + modW (l.getD i 0) (i : Int) = (a : Int) := ⟨(1 + modW (l.getD i 0) (i : Int)).toNat, by omega⟩
      have hw : IntKind.i64.wrap (1 + modW (l.getD i 0) (i : Int)) = (a : Int) := by rw [wrap_id (by omega) (by omega), hae]
      obtain ⟨H2, H3, H4, p0, p1, p2, p3, p4, p5⟩ := to_apps (cap := cap) hx ho hl (a := a) (by omega) (by omega) (i : Int)
      have s := to_l_0 (l.map encI) n (.sl tb 0 i cap i 1) _ _ i H.length a (i + 1) H _ _ H (H ++ [bI []]) H2 H3 H4 (by omega) (by rw [List.length_map]; omega) (gx c) (prim_mod (by kernel_rfl) (by omega) H) rfl (by rw [hw]; exact sl_hi (by omega)) p0 p1 (by rw [hw]; exact sl_lo (by omega)) p2
      rw [wrap_succ (by omega)] at s
      exact go a _ _ H4 (by omega) (by rw [if_pos c, hae]; omega) p3 p4 s p5
    · obtain ⟨H2, H3, H4, p0, p1, p2, p3, p4, p5⟩ := to_apps (cap := cap) hx ho hl (a := i) (by omega) (by omega) (i : Int)
      have s := to_l_1 (l.map encI) n (.sl tb 0 i cap i 1) _ _ i H.length i (i + 1) H (H ++ [bI []]) H2 H3 H4 (by omega) (by rw [List.length_map]; omega) rfl (sl_hi (by omega)) p0 p1 (sl_lo (by omega)) p2
      rw [wrap_succ (by omega)] at s
      exact go i _ _ H4 (by omega) (by rw [if_neg c]; omega) p3 p4 s p5
end
theorem tour33_ok : PrimOk Try.prog 33 tour33 := by
  refine primOk_pure (pol := polA) (fn := Try.f33) (cd := B33) follows_mixed soundA (by kernel_rfl) (by kernel_rfl) (fnokA _ _ (by kernel_rfl)) (by kernel_rfl) ?_
  intro args res h
  obtain ⟨l, n0, rfl, hq⟩ := lnF_inv h
  clear h
  split at hq
  · rename_i hc
    cases hq
    obtain ⟨n, rfl⟩ : ∃ n : Nat, n0 = (n : Int) := ⟨n0.toNat, by omega⟩
    rw [Int.toNat_natCast]
    have a := to_a_0 (l.map encI) n []
    have b := to_b_0 (l.map encI) n _ [] _ (lit_zero [])
    have c := to_c_0 (l.map encI) n (.sl 0 0 1 (some 1) 1 1) [bI [0]]
    obtain ⟨tb, cap, H', r, q1, q2⟩ := to_loop (l := l) (n := n) (by omega) (n - 1) 1 [0] 0 (some 1) [bI [0]] (by omega) (by omega) rfl rfl (by simp [mxs, Blk.mx])
    have z := to_z_0 (l.map encI) n (.sl tb 0 n cap n 1) (.int .i64 (n : Int)) .undef .undef H'
    have t1 := RunsTo.seq (RunsTo.seq c (RunsTo.block_exit (c := sub [1, 1, 0, 1] B33) r (by kernel_rfl)) (c := sub [1, 1, 0] B33) (by kernel_rfl) (by kernel_rfl)) z (c := sub [1, 1] B33) (by kernel_rfl) (by kernel_rfl)
    have t2 := RunsTo.seq a (RunsTo.seq b t1 (c := sub [1] B33) (by kernel_rfl) (by kernel_rfl)) (c := B33) (by kernel_rfl) (by kernel_rfl)
    refine ⟨_, _, _, .sl tb 0 n cap n 1, t2, by simp, by simp only [resultsV, res33]; rfl, ?_⟩
    have hr := resCell_sl (H := H') (no := [tb]) (b := tb) (k := 1) (m := n) (cap := cap) (els := (tourGo l (n - 1) 1 [0]).map encI) q1 (by simpa using q2) (mapO_self (fun r => frz_int 4 r) _)
    have ho : ownedAll H' false (.sl tb 0 n cap n 1) = [tb] := by simp [ownedAll, cellsOf, owned, q1]
    show toRes H' false (.sl tb 0 n cap n 1) = _
    simp only [toRes, ho, List.nodup_cons, List.not_mem_nil, not_false_eq_true, List.nodup_nil, and_self, if_true, resVal]
    exact hr
  · cases hq
end Go.Proofs.Ytlendaofkmhgmaa
end
section
open Go Go.HL
namespace Go.Proofs.Ytlendaofkmhgmaa
section
variable {d : List (List Int)}
theorem btJ_none {l : List Int} {i : Nat} : ∀ (k j : Nat), btJ d l i k j = none → ∀ j', j ≤ j' → j' < j + k → lenT d l ≤ lenT d (revP l i j') := by
  intro k
  induction k with
  | zero => intro j _ j' h1 h2; omega
  | succ k ih =>
    intro j h j' h1 h2
    rw [btJ] at h
    split at h
    · cases h
    · rename_i c
      by_cases e : j' = j
      · subst e; omega
      · exact ih _ h j' (by omega) (by omega)
end
section
variable {d : List (List Int)}
theorem btI_none {l : List Int} : ∀ (k i : Nat), i + k = l.length → btI d l k i = none → ∀ i' j', i ≤ i' → i' < j' → j' < l.length → lenT d l ≤ lenT d (revP l i' j') := by
  intro k
  induction k with
  | zero => intro i hi _ i' j' h1 h2 h3; omega
  | succ k ih =>
    intro i hi h i' j' h1 h2 h3
    rw [btI] at h
    split at h
    · cases h
    · rename_i c
      by_cases e : i' = i
      · subst e; exact btJ_none _ _ c j' (by omega) (by omega)
      · exact ih _ (by omega) h i' j' (by omega) h2 h3
end
section
variable {d : List (List Int)}
theorem bett_none {l : List Int} (hl : 1 ≤ l.length) (h : bett d l = none) {i j : Nat} (h1 : 1 ≤ i) (h2 : i < j) (h3 : j < l.length) : lenT d l ≤ lenT d (revP l i j) := btI_none _ _ (by omega) h i j h1 h2 h3
end
section
variable {d : List (List Int)}
theorem revP_perm {l : List Int} {i j : Nat} (h : i ≤ j) (hj : j < l.length) : (revP l i j).Perm l := by
  unfold revP
  have e : l = l.take i ++ ((l.drop i).take (j + 1 - i) ++ l.drop (j + 1)) := by
    rw [← List.take_append_drop i l]
    congr 1
    · simp
    · rw [List.take_append_drop]
      have : l.drop (j + 1) = (l.drop i).drop (j + 1 - i) := by rw [List.drop_drop]; congr 1; omega
      rw [this, List.take_append_drop]
  conv => rhs; rw [e]
  exact List.Perm.append_left _ (List.Perm.append_right _ (List.reverse_perm _))
end
section
variable {d : List (List Int)}
theorem revP_tour {n : Nat} {l : List Int} {i j : Nat} (h1 : 1 ≤ i) (h : i ≤ j) (hj : j < l.length) (hl : trOk n l = true) : trOk n (revP l i j) = true := by
  rw [trOk_iff] at hl ⊢
  obtain ⟨t1, t2, t3, t4⟩ := hl
  refine ⟨(revP_len h hj).trans t1, ?_, inT_rev h hj t3, (revP_perm h hj).nodup_iff.2 t4⟩
  have := revP_get h hj 0
  rw [if_neg (by omega)] at this
  have e : (revP l i j).getD 0 0 = l.getD 0 0 := by simp only [List.getD, this]
  exact e.trans t2
end
section
variable {d : List (List Int)}
theorem revP_self {l : List Int} {i : Nat} (hi : i < l.length) : revP l i i = l := by
  apply List.ext_getElem?
  intro k
  rw [revP_get (Nat.le_refl _) hi]
  split
  · rw [show i + i - k = k by omega]
  · rfl
end
section
variable {d : List (List Int)}
theorem impF_ok (h : okD d) : ∀ (k : Nat) (l : List Int), trOk d.length l = true → (lenT d l).toNat ≤ k → bett d (impF d k l) = none ∧ trOk d.length (impF d k l) = true ∧ lenT d (impF d k l) ≤ lenT d l := by
  have hn := h.1
  intro k
  induction k with
  | zero =>
    intro l hl hk
    rw [impF]
    have ht := trOk_iff.1 hl
    refine ⟨?_, hl, Int.le_refl _⟩
    cases hb : bett d l with
    | none => rfl
    | some r =>
      have := bett_ok h ht.2.2.1 (by omega) hb
      omega
  | succ k ih =>
    intro l hl hk
    rw [impF]
    have ht := trOk_iff.1 hl
    cases hb : bett d l with
    | none => exact ⟨hb, hl, Int.le_refl _⟩
    | some r =>
      have h1 := bett_ok h ht.2.2.1 (by omega) hb
      obtain ⟨i, j, g1, g2, g3, g4, g5⟩ := bett_some (by omega) hb
      have hr : trOk d.length r = true := by rw [g4]; exact revP_tour g1 g2 g3 hl
      obtain ⟨q1, q2, q3⟩ := ih r hr (by omega)
      exact ⟨q1, q2, by show lenT d (impF d k r) ≤ _; omega⟩
end
section
variable {d : List (List Int)}
theorem impT_ok (h : okD d) {l : List Int} (hl : trOk d.length l = true) : bett d (impT d l) = none ∧ trOk d.length (impT d l) = true ∧ lenT d (impT d l) ≤ lenT d l := impF_ok h _ _ hl (Nat.le_refl _)
end
section
variable {d : List (List Int)}
theorem impT_twice (h : okD d) {l : List Int} (hl : trOk d.length l = true) : impT d (impT d l) = impT d l := impT_none (impT_ok h hl).1
end
section
variable {d : List (List Int)}
theorem best_bett (h : okD d) : bett d (bestT d) = none := by
  cases hb : bett d (bestT d) with
  | none => rfl
  | some r =>
    have ht := best_tour h
    have t := trOk_iff.1 ht
    have hn := h.1
    obtain ⟨i, j, g1, g2, g3, g4, g5⟩ := bett_some (by omega) hb
    have hr : trOk d.length r = true := by rw [g4]; exact revP_tour g1 g2 g3 ht
    have := best_low h hr
    omega
end
section
variable {d : List (List Int)}
theorem impT_best (h : okD d) : impT d (bestT d) = bestT d := impT_none (best_bett h)
end
noncomputable def polE : Pol := { pol with prim := fun g => if g == 20 then some awakeF else if g == 27 then some modF else if g == 28 then some tame28 else if g == 33 then some tour33 else if g == 34 then some length34 else if g == 35 then some improve35 else if g == 36 then some tour36 else if g == 26 then some ints26 else if g == 29 then some best29 else if g == 39 then some rev39 else none }
end Go.Proofs.Ytlendaofkmhgmaa
end
section
open Go Go.HL
namespace Go.Proofs.Ytlendaofkmhgmaa
set_option maxRecDepth 100000
noncomputable def B11 : Code := Try.f11.body.getD .skip
abbrev env11 (v0 v1 v2 v5 v6 v7 v8 v9 v10 v11 v12 v13 v14 v15 v16 v17 v18 v19 v20 v21 v22 v23 v24 v25 v26 : HV) : Env := [(0, v0), (1, v1), (2, v2), (5, v5), (6, v6), (7, v7), (8, v8), (9, v9), (10, v10), (11, v11), (12, v12), (13, v13), (14, v14), (15, v15), (16, v16), (17, v17), (18, v18), (19, v19), (20, v20), (21, v21), (22, v22), (23, v23), (24, v24), (25, v25), (26, v26)]
theorem li_a_0 (rw la : List HV) (p r : Int) : RunsTo Try.prog polE 11 (sub [0] B11) [(0, .imm .arg 1 rw), (1, .imm .arg 1 la), (2, .agg [.i p, .i r])] [] .normal (polE.keys 11) (env11 (.imm .arg 1 rw) (.imm .arg 1 la) (.agg [.i p, .i r]) (.ptr 0 0 0 1) (.bool false) .undef .undef .undef .undef .undef .undef .undef .undef .undef .undef .undef .undef .undef .undef .undef .undef .undef .undef .undef .undef) [.arr 2 [.agg [.i p, .i r]] true 0] :=
  RunsTo.hin 0 60 [] fun kf hk => ⟨_, by kernel_rfl, .nil⟩
theorem li_b_0 (rw la : List HV) (p r : Int) (md0 : Int) (g0 : ∀ kf, callN Try.prog polE (kf + 1) 27 [.i (IntKind.i64.wrap ((rw.length : Int) - 1)), .i 9] [.arr 2 [.agg [.i p, .i r]] true 0] = some (.i md0, [.arr 2 [.agg [.i p, .i r]] true 0])) : RunsTo Try.prog polE 11 (sub [1, 0] B11) (env11 (.imm .arg 1 rw) (.imm .arg 1 la) (.agg [.i p, .i r]) (.ptr 0 0 0 1) (.bool false) .undef .undef .undef .undef .undef .undef .undef .undef .undef .undef .undef .undef .undef .undef .undef .undef .undef .undef .undef .undef) [.arr 2 [.agg [.i p, .i r]] true 0] .normal (polE.keys 11) (env11 (.imm .arg 1 rw) (.imm .arg 1 la) (.agg [.i p, .i r]) (.ptr 0 0 0 1) (.bool false) (.i (IntKind.i64.wrap (1 + md0))) .undef .undef .undef .undef .undef .undef .undef .undef .undef .undef .undef .undef .undef .undef .undef .undef .undef .undef .undef) [.arr 2 [.agg [.i p, .i r]] true 0] :=
  RunsTo.hin 0 60 [⟨1, 3, .i md0, [.arr 2 [.agg [.i p, .i r]] true 0]⟩] fun kf hk => ⟨_, by kernel_rfl, (oC (g0 kf) .nil)⟩
theorem li_c_0 (rw la : List HV) (p r : Int) (nn : Int) (q1 : Nat) (o1 : List HV) (g0 : ∀ kf, callN Try.prog polE (kf + 1) 28 [.imm .arg 1 rw, .i nn, .i 1000] [.arr 2 [.agg [.i p, .i r]] true 0] = some (.sl 1 0 q1 none q1 1, [.arr 2 [.agg [.i p, .i r]] true 0, .arr 1 o1 true 0])) : RunsTo Try.prog polE 11 (sub [1, 1, 0] B11) (env11 (.imm .arg 1 rw) (.imm .arg 1 la) (.agg [.i p, .i r]) (.ptr 0 0 0 1) (.bool false) (.i nn) .undef .undef .undef .undef .undef .undef .undef .undef .undef .undef .undef .undef .undef .undef .undef .undef .undef .undef .undef) [.arr 2 [.agg [.i p, .i r]] true 0] .normal (polE.keys 11) (env11 (.imm .arg 1 rw) (.imm .arg 1 la) (.agg [.i p, .i r]) (.ptr 0 0 0 1) (.bool false) (.i nn) (.sl 1 0 q1 none q1 1) .undef .undef .undef .undef .undef .undef .undef .undef .undef .undef .undef .undef .undef .undef .undef .undef .undef .undef) [.arr 2 [.agg [.i p, .i r]] true 0, .arr 1 o1 true 0] :=
  RunsTo.hin 0 60 [⟨2, 2, .sl 1 0 q1 none q1 1, [.arr 2 [.agg [.i p, .i r]] true 0, .arr 1 o1 true 0]⟩] fun kf hk => ⟨_, by kernel_rfl, (oC (g0 kf) .nil)⟩
theorem li_d_0 (rw la : List HV) (p r : Int) (nn : Int) (q1 : Nat) (o1 : List HV) (q2 : Nat) (o2 : List HV) (g0 : ∀ kf, callN Try.prog polE (kf + 1) 33 [.imm .arg 1 la, .i nn] [.arr 2 [.agg [.i p, .i r]] true 0, .arr 1 o1 true 0] = some (.sl 2 0 q2 none q2 1, [.arr 2 [.agg [.i p, .i r]] true 0, .arr 1 o1 true 0, .arr 1 o2 true 0])) : RunsTo Try.prog polE 11 (sub [1, 1, 1, 0] B11) (env11 (.imm .arg 1 rw) (.imm .arg 1 la) (.agg [.i p, .i r]) (.ptr 0 0 0 1) (.bool false) (.i nn) (.sl 1 0 q1 none q1 1) .undef .undef .undef .undef .undef .undef .undef .undef .undef .undef .undef .undef .undef .undef .undef .undef .undef .undef) [.arr 2 [.agg [.i p, .i r]] true 0, .arr 1 o1 true 0] .normal (polE.keys 11) (env11 (.imm .arg 1 rw) (.imm .arg 1 la) (.agg [.i p, .i r]) (.ptr 0 0 0 1) (.bool false) (.i nn) (.sl 1 0 q1 none q1 1) (.sl 2 0 q2 none q2 1) .undef .undef .undef .undef .undef .undef .undef .undef .undef .undef .undef .undef .undef .undef .undef .undef .undef) [.arr 2 [.agg [.i p, .i r]] true 0, .arr 1 o1 true 0, .arr 1 o2 true 0] :=
  RunsTo.hin 0 60 [⟨3, 2, .sl 2 0 q2 none q2 1, [.arr 2 [.agg [.i p, .i r]] true 0, .arr 1 o1 true 0, .arr 1 o2 true 0]⟩] fun kf hk => ⟨_, by kernel_rfl, (oC (g0 kf) .nil)⟩
theorem li_e_0 (rw la : List HV) (p r : Int) (nn : Int) (q1 : Nat) (o1 : List HV) (q2 : Nat) (o2 : List HV) (q3 : Nat) (o3 : List HV) (g0 : ∀ kf, callN Try.prog polE (kf + 1) 35 [.sl 1 0 q1 none q1 1, .sl 2 0 q2 none q2 1] [.arr 2 [.agg [.i p, .i r]] true 0, .arr 1 o1 true 0, .arr 1 o2 true 0] = some (.tuple [.sl 3 0 q3 none q3 1, .i 0], [.arr 2 [.agg [.i p, .i r]] true 0, .arr 1 o1 true 0, .arr 1 o2 true 0, .arr 1 o3 true 0])) : RunsTo Try.prog polE 11 (sub [1, 1, 1, 1, 0] B11) (env11 (.imm .arg 1 rw) (.imm .arg 1 la) (.agg [.i p, .i r]) (.ptr 0 0 0 1) (.bool false) (.i nn) (.sl 1 0 q1 none q1 1) (.sl 2 0 q2 none q2 1) .undef .undef .undef .undef .undef .undef .undef .undef .undef .undef .undef .undef .undef .undef .undef .undef .undef) [.arr 2 [.agg [.i p, .i r]] true 0, .arr 1 o1 true 0, .arr 1 o2 true 0] .normal (polE.keys 11) (env11 (.imm .arg 1 rw) (.imm .arg 1 la) (.agg [.i p, .i r]) (.ptr 0 0 0 1) (.bool false) (.i nn) (.sl 1 0 q1 none q1 1) (.sl 2 0 q2 none q2 1) (.sl 3 0 q3 none q3 1) (.i 0) .undef .undef .undef .undef .undef .undef .undef .undef .undef .undef .undef .undef .undef .undef .undef) [.arr 2 [.agg [.i p, .i r]] true 0, .arr 1 o1 true 0, .arr 1 o2 true 0, .arr 1 o3 true 0] :=
  RunsTo.hin 0 60 [⟨4, 2, .tuple [.sl 3 0 q3 none q3 1, .i 0], [.arr 2 [.agg [.i p, .i r]] true 0, .arr 1 o1 true 0, .arr 1 o2 true 0, .arr 1 o3 true 0]⟩] fun kf hk => ⟨_, by kernel_rfl, (oC (g0 kf) .nil)⟩
theorem li_f_0 (rw la : List HV) (p r : Int) (nn : Int) (q1 : Nat) (o1 : List HV) (q2 : Nat) (o2 : List HV) (q3 : Nat) (o3 : List HV)(g0 : ∀ kf, callN Try.prog polE (kf + 1) 36 [.sl 3 0 q3 none q3 1, .i nn] [.arr 2 [.agg [.i p, .i r]] true 0, .arr 1 o1 true 0, .arr 1 o2 true 0, .arr 1 o3 true 0] = some (.bool true, [.arr 2 [.agg [.i p, .i r]] true 0, .arr 1 o1 true 0, .arr 1 o2 true 0, .arr 1 o3 true 0])) : RunsTo Try.prog polE 11 (sub [1, 1, 1, 1, 1, 0] B11) (env11 (.imm .arg 1 rw) (.imm .arg 1 la) (.agg [.i p, .i r]) (.ptr 0 0 0 1) (.bool false) (.i nn) (.sl 1 0 q1 none q1 1) (.sl 2 0 q2 none q2 1) (.sl 3 0 q3 none q3 1) (.i 0) .undef .undef .undef .undef .undef .undef .undef .undef .undef .undef .undef .undef .undef .undef .undef) [.arr 2 [.agg [.i p, .i r]] true 0, .arr 1 o1 true 0, .arr 1 o2 true 0, .arr 1 o3 true 0] .normal (polE.keys 11) (env11 (.imm .arg 1 rw) (.imm .arg 1 la) (.agg [.i p, .i r]) (.ptr 0 0 0 1) (.bool false) (.i nn) (.sl 1 0 q1 none q1 1) (.sl 2 0 q2 none q2 1) (.sl 3 0 q3 none q3 1) (.i 0) .undef .undef .undef .undef .undef .undef .undef .undef .undef .undef .undef .undef .undef .undef .undef) [.arr 2 [.agg [.i p, .i r]] true 0, .arr 1 o1 true 0, .arr 1 o2 true 0, .arr 1 o3 true 0] :=
  RunsTo.hin 0 60 [⟨5, 5, .bool true, [.arr 2 [.agg [.i p, .i r]] true 0, .arr 1 o1 true 0, .arr 1 o2 true 0, .arr 1 o3 true 0]⟩] fun kf hk => ⟨_, by kernel_rfl, (oC (g0 kf) .nil)⟩
theorem li_g_0 (rw la : List HV) (p r : Int) (nn : Int) (q1 : Nat) (o1 : List HV) (q2 : Nat) (o2 : List HV) (q3 : Nat) (o3 : List HV) (q4 : Nat) (o4 : List HV) (g0 : ∀ kf, callN Try.prog polE (kf + 1) 35 [.sl 1 0 q1 none q1 1, .sl 3 0 q3 none q3 1] [.arr 2 [.agg [.i p, .i r]] true 0, .arr 1 o1 true 0, .arr 1 o2 true 0, .arr 1 o3 true 0] = some (.tuple [.sl 4 0 q4 none q4 1, .i 0], [.arr 2 [.agg [.i p, .i r]] true 0, .arr 1 o1 true 0, .arr 1 o2 true 0, .arr 1 o3 true 0, .arr 1 o4 true 0])) : RunsTo Try.prog polE 11 (sub [1, 1, 1, 1, 1, 1, 0] B11) (env11 (.imm .arg 1 rw) (.imm .arg 1 la) (.agg [.i p, .i r]) (.ptr 0 0 0 1) (.bool false) (.i nn) (.sl 1 0 q1 none q1 1) (.sl 2 0 q2 none q2 1) (.sl 3 0 q3 none q3 1) (.i 0) .undef .undef .undef .undef .undef .undef .undef .undef .undef .undef .undef .undef .undef .undef .undef) [.arr 2 [.agg [.i p, .i r]] true 0, .arr 1 o1 true 0, .arr 1 o2 true 0, .arr 1 o3 true 0] .normal (polE.keys 11) (env11 (.imm .arg 1 rw) (.imm .arg 1 la) (.agg [.i p, .i r]) (.ptr 0 0 0 1) (.bool false) (.i nn) (.sl 1 0 q1 none q1 1) (.sl 2 0 q2 none q2 1) (.sl 3 0 q3 none q3 1) (.i 0) (.sl 4 0 q4 none q4 1) (.i 0) .undef .undef .undef .undef .undef .undef .undef .undef .undef .undef .undef .undef .undef) [.arr 2 [.agg [.i p, .i r]] true 0, .arr 1 o1 true 0, .arr 1 o2 true 0, .arr 1 o3 true 0, .arr 1 o4 true 0] :=
  RunsTo.hin 0 60 [⟨7, 2, .tuple [.sl 4 0 q4 none q4 1, .i 0], [.arr 2 [.agg [.i p, .i r]] true 0, .arr 1 o1 true 0, .arr 1 o2 true 0, .arr 1 o3 true 0, .arr 1 o4 true 0]⟩] fun kf hk => ⟨_, by kernel_rfl, (oC (g0 kf) .nil)⟩
theorem li_h_0 (rw la : List HV) (p r : Int) (nn : Int) (q1 : Nat) (o1 : List HV) (q2 : Nat) (o2 : List HV) (q3 : Nat) (o3 : List HV) (q4 : Nat) (o4 : List HV) (ln0 : Int) (g0 : ∀ kf, callN Try.prog polE (kf + 1) 34 [.sl 1 0 q1 none q1 1, .sl 2 0 q2 none q2 1] [.arr 2 [.agg [.i p, .i r]] true 0, .arr 1 o1 true 0, .arr 1 o2 true 0, .arr 1 o3 true 0, .arr 1 o4 true 0] = some (.tuple [.i ln0, .i 0], [.arr 2 [.agg [.i p, .i r]] true 0, .arr 1 o1 true 0, .arr 1 o2 true 0, .arr 1 o3 true 0, .arr 1 o4 true 0])) : RunsTo Try.prog polE 11 (sub [1, 1, 1, 1, 1, 1, 1, 0] B11) (env11 (.imm .arg 1 rw) (.imm .arg 1 la) (.agg [.i p, .i r]) (.ptr 0 0 0 1) (.bool false) (.i nn) (.sl 1 0 q1 none q1 1) (.sl 2 0 q2 none q2 1) (.sl 3 0 q3 none q3 1) (.i 0) (.sl 4 0 q4 none q4 1) (.i 0) .undef .undef .undef .undef .undef .undef .undef .undef .undef .undef .undef .undef .undef) [.arr 2 [.agg [.i p, .i r]] true 0, .arr 1 o1 true 0, .arr 1 o2 true 0, .arr 1 o3 true 0, .arr 1 o4 true 0] .normal (polE.keys 11) (env11 (.imm .arg 1 rw) (.imm .arg 1 la) (.agg [.i p, .i r]) (.ptr 0 0 0 1) (.bool false) (.i nn) (.sl 1 0 q1 none q1 1) (.sl 2 0 q2 none q2 1) (.sl 3 0 q3 none q3 1) (.i 0) (.sl 4 0 q4 none q4 1) (.i 0) (.i ln0) (.i 0) .undef .undef .undef .undef .undef .undef .undef .undef .undef .undef .undef) [.arr 2 [.agg [.i p, .i r]] true 0, .arr 1 o1 true 0, .arr 1 o2 true 0, .arr 1 o3 true 0, .arr 1 o4 true 0] :=
  RunsTo.hin 0 60 [⟨8, 2, .tuple [.i ln0, .i 0], [.arr 2 [.agg [.i p, .i r]] true 0, .arr 1 o1 true 0, .arr 1 o2 true 0, .arr 1 o3 true 0, .arr 1 o4 true 0]⟩] fun kf hk => ⟨_, by kernel_rfl, (oC (g0 kf) .nil)⟩
theorem li_i_0 (rw la : List HV) (p r : Int) (nn : Int) (q1 : Nat) (o1 : List HV) (q2 : Nat) (o2 : List HV) (q3 : Nat) (o3 : List HV) (q4 : Nat) (o4 : List HV) (la_ : Int) (ln0 : Int) (g0 : ∀ kf, callN Try.prog polE (kf + 1) 34 [.sl 1 0 q1 none q1 1, .sl 3 0 q3 none q3 1] [.arr 2 [.agg [.i p, .i r]] true 0, .arr 1 o1 true 0, .arr 1 o2 true 0, .arr 1 o3 true 0, .arr 1 o4 true 0] = some (.tuple [.i ln0, .i 0], [.arr 2 [.agg [.i p, .i r]] true 0, .arr 1 o1 true 0, .arr 1 o2 true 0, .arr 1 o3 true 0, .arr 1 o4 true 0])) : RunsTo Try.prog polE 11 (sub [1, 1, 1, 1, 1, 1, 1, 1, 0] B11) (env11 (.imm .arg 1 rw) (.imm .arg 1 la) (.agg [.i p, .i r]) (.ptr 0 0 0 1) (.bool false) (.i nn) (.sl 1 0 q1 none q1 1) (.sl 2 0 q2 none q2 1) (.sl 3 0 q3 none q3 1) (.i 0) (.sl 4 0 q4 none q4 1) (.i 0) (.i la_) (.i 0) .undef .undef .undef .undef .undef .undef .undef .undef .undef .undef .undef) [.arr 2 [.agg [.i p, .i r]] true 0, .arr 1 o1 true 0, .arr 1 o2 true 0, .arr 1 o3 true 0, .arr 1 o4 true 0] .normal (polE.keys 11) (env11 (.imm .arg 1 rw) (.imm .arg 1 la) (.agg [.i p, .i r]) (.ptr 0 0 0 1) (.bool false) (.i nn) (.sl 1 0 q1 none q1 1) (.sl 2 0 q2 none q2 1) (.sl 3 0 q3 none q3 1) (.i 0) (.sl 4 0 q4 none q4 1) (.i 0) (.i la_) (.i 0) (.i ln0) (.i 0) .undef .undef .undef .undef .undef .undef .undef .undef .undef) [.arr 2 [.agg [.i p, .i r]] true 0, .arr 1 o1 true 0, .arr 1 o2 true 0, .arr 1 o3 true 0, .arr 1 o4 true 0] :=
  RunsTo.hin 0 60 [⟨9, 2, .tuple [.i ln0, .i 0], [.arr 2 [.agg [.i p, .i r]] true 0, .arr 1 o1 true 0, .arr 1 o2 true 0, .arr 1 o3 true 0, .arr 1 o4 true 0]⟩] fun kf hk => ⟨_, by kernel_rfl, (oC (g0 kf) .nil)⟩
theorem li_j_0 (rw la : List HV) (p r : Int) (nn : Int) (q1 : Nat) (o1 : List HV) (q2 : Nat) (o2 : List HV) (q3 : Nat) (o3 : List HV) (q4 : Nat) (o4 : List HV) (la_ : Int) (lb_ : Int) (q5 : Nat) (o5 : List HV) (bl : Int) (g0 : ∀ kf, callN Try.prog polE (kf + 1) 29 [.sl 1 0 q1 none q1 1] [.arr 2 [.agg [.i p, .i r]] true 0, .arr 1 o1 true 0, .arr 1 o2 true 0, .arr 1 o3 true 0, .arr 1 o4 true 0] = some (.tuple [.sl 5 0 q5 none q5 1, .i bl, .i 0], [.arr 2 [.agg [.i p, .i r]] true 0, .arr 1 o1 true 0, .arr 1 o2 true 0, .arr 1 o3 true 0, .arr 1 o4 true 0, .arr 1 o5 true 0])) : RunsTo Try.prog polE 11 (sub [1, 1, 1, 1, 1, 1, 1, 1, 1, 0] B11) (env11 (.imm .arg 1 rw) (.imm .arg 1 la) (.agg [.i p, .i r]) (.ptr 0 0 0 1) (.bool false) (.i nn) (.sl 1 0 q1 none q1 1) (.sl 2 0 q2 none q2 1) (.sl 3 0 q3 none q3 1) (.i 0) (.sl 4 0 q4 none q4 1) (.i 0) (.i la_) (.i 0) (.i lb_) (.i 0) .undef .undef .undef .undef .undef .undef .undef .undef .undef) [.arr 2 [.agg [.i p, .i r]] true 0, .arr 1 o1 true 0, .arr 1 o2 true 0, .arr 1 o3 true 0, .arr 1 o4 true 0] .normal (polE.keys 11) (env11 (.imm .arg 1 rw) (.imm .arg 1 la) (.agg [.i p, .i r]) (.ptr 0 0 0 1) (.bool false) (.i nn) (.sl 1 0 q1 none q1 1) (.sl 2 0 q2 none q2 1) (.sl 3 0 q3 none q3 1) (.i 0) (.sl 4 0 q4 none q4 1) (.i 0) (.i la_) (.i 0) (.i lb_) (.i 0) (.sl 5 0 q5 none q5 1) (.i bl) (.i 0) .undef .undef .undef .undef .undef .undef) [.arr 2 [.agg [.i p, .i r]] true 0, .arr 1 o1 true 0, .arr 1 o2 true 0, .arr 1 o3 true 0, .arr 1 o4 true 0, .arr 1 o5 true 0] :=
  RunsTo.hin 0 60 [⟨10, 1, .tuple [.sl 5 0 q5 none q5 1, .i bl, .i 0], [.arr 2 [.agg [.i p, .i r]] true 0, .arr 1 o1 true 0, .arr 1 o2 true 0, .arr 1 o3 true 0, .arr 1 o4 true 0, .arr 1 o5 true 0]⟩] fun kf hk => ⟨_, by kernel_rfl, (oC (g0 kf) .nil)⟩
theorem li_k_0 (rw la : List HV) (p r : Int) (nn : Int) (q1 : Nat) (o1 : List HV) (q2 : Nat) (o2 : List HV) (q3 : Nat) (o3 : List HV) (q4 : Nat) (o4 : List HV) (la_ : Int) (lb_ : Int) (q5 : Nat) (o5 : List HV) (lc_ : Int) (q6 : Nat) (o6 : List HV) (g0 : ∀ kf, callN Try.prog polE (kf + 1) 35 [.sl 1 0 q1 none q1 1, .sl 5 0 q5 none q5 1] [.arr 2 [.agg [.i p, .i r]] true 0, .arr 1 o1 true 0, .arr 1 o2 true 0, .arr 1 o3 true 0, .arr 1 o4 true 0, .arr 1 o5 true 0] = some (.tuple [.sl 6 0 q6 none q6 1, .i 0], [.arr 2 [.agg [.i p, .i r]] true 0, .arr 1 o1 true 0, .arr 1 o2 true 0, .arr 1 o3 true 0, .arr 1 o4 true 0, .arr 1 o5 true 0, .arr 1 o6 true 0])) : RunsTo Try.prog polE 11 (sub [1, 1, 1, 1, 1, 1, 1, 1, 1, 1, 0] B11) (env11 (.imm .arg 1 rw) (.imm .arg 1 la) (.agg [.i p, .i r]) (.ptr 0 0 0 1) (.bool false) (.i nn) (.sl 1 0 q1 none q1 1) (.sl 2 0 q2 none q2 1) (.sl 3 0 q3 none q3 1) (.i 0) (.sl 4 0 q4 none q4 1) (.i 0) (.i la_) (.i 0) (.i lb_) (.i 0) (.sl 5 0 q5 none q5 1) (.i lc_) (.i 0) .undef .undef .undef .undef .undef .undef) [.arr 2 [.agg [.i p, .i r]] true 0, .arr 1 o1 true 0, .arr 1 o2 true 0, .arr 1 o3 true 0, .arr 1 o4 true 0, .arr 1 o5 true 0] .normal (polE.keys 11) (env11 (.imm .arg 1 rw) (.imm .arg 1 la) (.agg [.i p, .i r]) (.ptr 0 0 0 1) (.bool false) (.i nn) (.sl 1 0 q1 none q1 1) (.sl 2 0 q2 none q2 1) (.sl 3 0 q3 none q3 1) (.i 0) (.sl 4 0 q4 none q4 1) (.i 0) (.i la_) (.i 0) (.i lb_) (.i 0) (.sl 5 0 q5 none q5 1) (.i lc_) (.i 0) (.sl 6 0 q6 none q6 1) (.i 0) .undef .undef .undef .undef) [.arr 2 [.agg [.i p, .i r]] true 0, .arr 1 o1 true 0, .arr 1 o2 true 0, .arr 1 o3 true 0, .arr 1 o4 true 0, .arr 1 o5 true 0, .arr 1 o6 true 0] :=
  RunsTo.hin 0 60 [⟨11, 2, .tuple [.sl 6 0 q6 none q6 1, .i 0], [.arr 2 [.agg [.i p, .i r]] true 0, .arr 1 o1 true 0, .arr 1 o2 true 0, .arr 1 o3 true 0, .arr 1 o4 true 0, .arr 1 o5 true 0, .arr 1 o6 true 0]⟩] fun kf hk => ⟨_, by kernel_rfl, (oC (g0 kf) .nil)⟩
theorem li_l_2 (rw la : List HV) (p r : Int) (nn : Int) (q1 : Nat) (o1 : List HV) (q2 : Nat) (o2 : List HV) (q3 : Nat) (o3 : List HV) (q4 : Nat) (o4 : List HV) (la_ : Int) (lb_ : Int) (q5 : Nat) (o5 : List HV) (lc_ : Int) (q6 : Nat) (o6 : List HV)(g0 : ¬ (la_ < lb_)) (g1 : ¬ (lb_ < lc_)) (g2 : ∀ kf, callN Try.prog polE (kf + 1) 26 [.sl 4 0 q4 none q4 1, .sl 3 0 q3 none q3 1] [.arr 2 [.agg [.i p, .i r]] true 0, .arr 1 o1 true 0, .arr 1 o2 true 0, .arr 1 o3 true 0, .arr 1 o4 true 0, .arr 1 o5 true 0, .arr 1 o6 true 0] = some (.bool true, [.arr 2 [.agg [.i p, .i r]] true 0, .arr 1 o1 true 0, .arr 1 o2 true 0, .arr 1 o3 true 0, .arr 1 o4 true 0, .arr 1 o5 true 0, .arr 1 o6 true 0])) (g3 : ∀ kf, callN Try.prog polE (kf + 1) 26 [.sl 6 0 q6 none q6 1, .sl 5 0 q5 none q5 1] [.arr 2 [.agg [.i p, .i r]] true 0, .arr 1 o1 true 0, .arr 1 o2 true 0, .arr 1 o3 true 0, .arr 1 o4 true 0, .arr 1 o5 true 0, .arr 1 o6 true 0] = some (.bool true, [.arr 2 [.agg [.i p, .i r]] true 0, .arr 1 o1 true 0, .arr 1 o2 true 0, .arr 1 o3 true 0, .arr 1 o4 true 0, .arr 1 o5 true 0, .arr 1 o6 true 0])) : RunsTo Try.prog polE 11 (sub [1, 1, 1, 1, 1, 1, 1, 1, 1, 1, 1, 0] B11) (env11 (.imm .arg 1 rw) (.imm .arg 1 la) (.agg [.i p, .i r]) (.ptr 0 0 0 1) (.bool false) (.i nn) (.sl 1 0 q1 none q1 1) (.sl 2 0 q2 none q2 1) (.sl 3 0 q3 none q3 1) (.i 0) (.sl 4 0 q4 none q4 1) (.i 0) (.i la_) (.i 0) (.i lb_) (.i 0) (.sl 5 0 q5 none q5 1) (.i lc_) (.i 0) (.sl 6 0 q6 none q6 1) (.i 0) .undef .undef .undef .undef) [.arr 2 [.agg [.i p, .i r]] true 0, .arr 1 o1 true 0, .arr 1 o2 true 0, .arr 1 o3 true 0, .arr 1 o4 true 0, .arr 1 o5 true 0, .arr 1 o6 true 0] .normal (polE.keys 11) (env11 (.imm .arg 1 rw) (.imm .arg 1 la) (.agg [.i p, .i r]) (.ptr 0 0 0 1) (.bool false) (.i nn) (.sl 1 0 q1 none q1 1) (.sl 2 0 q2 none q2 1) (.sl 3 0 q3 none q3 1) (.i 0) (.sl 4 0 q4 none q4 1) (.i 0) (.i la_) (.i 0) (.i lb_) (.i 0) (.sl 5 0 q5 none q5 1) (.i lc_) (.i 0) (.sl 6 0 q6 none q6 1) (.i 0) .undef .undef .undef .undef) [.arr 2 [.agg [.i p, .i r]] true 0, .arr 1 o1 true 0, .arr 1 o2 true 0, .arr 1 o3 true 0, .arr 1 o4 true 0, .arr 1 o5 true 0, .arr 1 o6 true 0] :=
  RunsTo.hin 0 60 [⟨12, 21, .bool false, [.arr 2 [.agg [.i p, .i r]] true 0, .arr 1 o1 true 0, .arr 1 o2 true 0, .arr 1 o3 true 0, .arr 1 o4 true 0, .arr 1 o5 true 0, .arr 1 o6 true 0]⟩, ⟨12, 26, .bool false, [.arr 2 [.agg [.i p, .i r]] true 0, .arr 1 o1 true 0, .arr 1 o2 true 0, .arr 1 o3 true 0, .arr 1 o4 true 0, .arr 1 o5 true 0, .arr 1 o6 true 0]⟩, ⟨12, 31, .bool true, [.arr 2 [.agg [.i p, .i r]] true 0, .arr 1 o1 true 0, .arr 1 o2 true 0, .arr 1 o3 true 0, .arr 1 o4 true 0, .arr 1 o5 true 0, .arr 1 o6 true 0]⟩, ⟨12, 37, .bool true, [.arr 2 [.agg [.i p, .i r]] true 0, .arr 1 o1 true 0, .arr 1 o2 true 0, .arr 1 o3 true 0, .arr 1 o4 true 0, .arr 1 o5 true 0, .arr 1 o6 true 0]⟩] fun kf hk => ⟨_, by kernel_rfl, (oB [.arr 2 [.agg [.i p, .i r]] true 0, .arr 1 o1 true 0, .arr 1 o2 true 0, .arr 1 o3 true 0, .arr 1 o4 true 0, .arr 1 o5 true 0, .arr 1 o6 true 0] (decide_eq_false g0) (oB [.arr 2 [.agg [.i p, .i r]] true 0, .arr 1 o1 true 0, .arr 1 o2 true 0, .arr 1 o3 true 0, .arr 1 o4 true 0, .arr 1 o5 true 0, .arr 1 o6 true 0] (decide_eq_false g1) (oC (g2 kf) (oC (g3 kf) .nil))))⟩
theorem li_m_0 (rw la : List HV) (p r : Int) (nn : Int) (q1 : Nat) (o1 : List HV) (q2 : Nat) (o2 : List HV) (q3 : Nat) (o3 : List HV) (q4 : Nat) (o4 : List HV) (la_ : Int) (lb_ : Int) (q5 : Nat) (o5 : List HV) (lc_ : Int) (q6 : Nat) (o6 : List HV)(g0 : nn < 3) : RunsTo Try.prog polE 11 (sub [1, 1, 1, 1, 1, 1, 1, 1, 1, 1, 1, 1, 0] B11) (env11 (.imm .arg 1 rw) (.imm .arg 1 la) (.agg [.i p, .i r]) (.ptr 0 0 0 1) (.bool false) (.i nn) (.sl 1 0 q1 none q1 1) (.sl 2 0 q2 none q2 1) (.sl 3 0 q3 none q3 1) (.i 0) (.sl 4 0 q4 none q4 1) (.i 0) (.i la_) (.i 0) (.i lb_) (.i 0) (.sl 5 0 q5 none q5 1) (.i lc_) (.i 0) (.sl 6 0 q6 none q6 1) (.i 0) .undef .undef .undef .undef) [.arr 2 [.agg [.i p, .i r]] true 0, .arr 1 o1 true 0, .arr 1 o2 true 0, .arr 1 o3 true 0, .arr 1 o4 true 0, .arr 1 o5 true 0, .arr 1 o6 true 0] .ret (polE.keys 11) (env11 (.imm .arg 1 rw) (.imm .arg 1 la) (.agg [.i p, .i r]) (.ptr 0 0 0 1) (.bool true) (.i nn) (.sl 1 0 q1 none q1 1) (.sl 2 0 q2 none q2 1) (.sl 3 0 q3 none q3 1) (.i 0) (.sl 4 0 q4 none q4 1) (.i 0) (.i la_) (.i 0) (.i lb_) (.i 0) (.sl 5 0 q5 none q5 1) (.i lc_) (.i 0) (.sl 6 0 q6 none q6 1) (.i 0) .undef .undef .undef .undef) [.arr 2 [.agg [.i p, .i r]] true 0, .arr 1 o1 true 0, .arr 1 o2 true 0, .arr 1 o3 true 0, .arr 1 o4 true 0, .arr 1 o5 true 0, .arr 1 o6 true 0] :=
  RunsTo.hin 0 60 [⟨14, 1, .bool true, [.arr 2 [.agg [.i p, .i r]] true 0, .arr 1 o1 true 0, .arr 1 o2 true 0, .arr 1 o3 true 0, .arr 1 o4 true 0, .arr 1 o5 true 0, .arr 1 o6 true 0]⟩] fun kf hk => ⟨_, by kernel_rfl, (oB [.arr 2 [.agg [.i p, .i r]] true 0, .arr 1 o1 true 0, .arr 1 o2 true 0, .arr 1 o3 true 0, .arr 1 o4 true 0, .arr 1 o5 true 0, .arr 1 o6 true 0] (decide_eq_true g0) .nil)⟩
theorem li_m_1 (rw la : List HV) (p r : Int) (nn : Int) (q1 : Nat) (o1 : List HV) (q2 : Nat) (o2 : List HV) (q3 : Nat) (o3 : List HV) (q4 : Nat) (o4 : List HV) (la_ : Int) (lb_ : Int) (q5 : Nat) (o5 : List HV) (lc_ : Int) (q6 : Nat) (o6 : List HV)(g0 : ¬ (nn < 3)) : RunsTo Try.prog polE 11 (sub [1, 1, 1, 1, 1, 1, 1, 1, 1, 1, 1, 1, 0] B11) (env11 (.imm .arg 1 rw) (.imm .arg 1 la) (.agg [.i p, .i r]) (.ptr 0 0 0 1) (.bool false) (.i nn) (.sl 1 0 q1 none q1 1) (.sl 2 0 q2 none q2 1) (.sl 3 0 q3 none q3 1) (.i 0) (.sl 4 0 q4 none q4 1) (.i 0) (.i la_) (.i 0) (.i lb_) (.i 0) (.sl 5 0 q5 none q5 1) (.i lc_) (.i 0) (.sl 6 0 q6 none q6 1) (.i 0) .undef .undef .undef .undef) [.arr 2 [.agg [.i p, .i r]] true 0, .arr 1 o1 true 0, .arr 1 o2 true 0, .arr 1 o3 true 0, .arr 1 o4 true 0, .arr 1 o5 true 0, .arr 1 o6 true 0] .normal (polE.keys 11) (env11 (.imm .arg 1 rw) (.imm .arg 1 la) (.agg [.i p, .i r]) (.ptr 0 0 0 1) (.bool false) (.i nn) (.sl 1 0 q1 none q1 1) (.sl 2 0 q2 none q2 1) (.sl 3 0 q3 none q3 1) (.i 0) (.sl 4 0 q4 none q4 1) (.i 0) (.i la_) (.i 0) (.i lb_) (.i 0) (.sl 5 0 q5 none q5 1) (.i lc_) (.i 0) (.sl 6 0 q6 none q6 1) (.i 0) .undef .undef .undef .undef) [.arr 2 [.agg [.i p, .i r]] true 0, .arr 1 o1 true 0, .arr 1 o2 true 0, .arr 1 o3 true 0, .arr 1 o4 true 0, .arr 1 o5 true 0, .arr 1 o6 true 0] :=
  RunsTo.hin 0 60 [⟨14, 1, .bool false, [.arr 2 [.agg [.i p, .i r]] true 0, .arr 1 o1 true 0, .arr 1 o2 true 0, .arr 1 o3 true 0, .arr 1 o4 true 0, .arr 1 o5 true 0, .arr 1 o6 true 0]⟩] fun kf hk => ⟨_, by kernel_rfl, (oB [.arr 2 [.agg [.i p, .i r]] true 0, .arr 1 o1 true 0, .arr 1 o2 true 0, .arr 1 o3 true 0, .arr 1 o4 true 0, .arr 1 o5 true 0, .arr 1 o6 true 0] (decide_eq_false g0) .nil)⟩
theorem li_n_0 (rw la : List HV) (p r : Int) (nn : Int) (q1 : Nat) (o1 : List HV) (q2 : Nat) (o2 : List HV) (q3 : Nat) (o3 : List HV) (q4 : Nat) (o4 : List HV) (la_ : Int) (lb_ : Int) (q5 : Nat) (o5 : List HV) (lc_ : Int) (q6 : Nat) (o6 : List HV) (md0 : Int) (md1 : Int) (g0 : ∀ kf, callN Try.prog polE (kf + 1) 27 [.i p, .i (IntKind.i64.wrap (nn - 1))] [.arr 2 [.agg [.i p, .i r]] true 0, .arr 1 o1 true 0, .arr 1 o2 true 0, .arr 1 o3 true 0, .arr 1 o4 true 0, .arr 1 o5 true 0, .arr 1 o6 true 0] = some (.i md0, [.arr 2 [.agg [.i p, .i r]] true 0, .arr 1 o1 true 0, .arr 1 o2 true 0, .arr 1 o3 true 0, .arr 1 o4 true 0, .arr 1 o5 true 0, .arr 1 o6 true 0])) (g1 : ∀ kf, callN Try.prog polE (kf + 1) 27 [.i r, .i (IntKind.i64.wrap (nn - 1))] [.arr 2 [.agg [.i p, .i r]] true 0, .arr 1 o1 true 0, .arr 1 o2 true 0, .arr 1 o3 true 0, .arr 1 o4 true 0, .arr 1 o5 true 0, .arr 1 o6 true 0] = some (.i md1, [.arr 2 [.agg [.i p, .i r]] true 0, .arr 1 o1 true 0, .arr 1 o2 true 0, .arr 1 o3 true 0, .arr 1 o4 true 0, .arr 1 o5 true 0, .arr 1 o6 true 0])) (gS16 : ((same (.i r) (.i r) && sameH ([.arr 2 [.agg [.i p, .i r]] true 0, .arr 1 o1 true 0, .arr 1 o2 true 0, .arr 1 o3 true 0, .arr 1 o4 true 0, .arr 1 o5 true 0, .arr 1 o6 true 0] : Heap) [.arr 2 [.agg [.i p, .i r]] true 0, .arr 1 o1 true 0, .arr 1 o2 true 0, .arr 1 o3 true 0, .arr 1 o4 true 0, .arr 1 o5 true 0, .arr 1 o6 true 0] && sameH ([.arr 2 [.agg [.i p, .i r]] true 0, .arr 1 o1 true 0, .arr 1 o2 true 0, .arr 1 o3 true 0, .arr 1 o4 true 0, .arr 1 o5 true 0, .arr 1 o6 true 0] : Heap) [.arr 2 [.agg [.i p, .i r]] true 0, .arr 1 o1 true 0, .arr 1 o2 true 0, .arr 1 o3 true 0, .arr 1 o4 true 0, .arr 1 o5 true 0, .arr 1 o6 true 0]) && true) = true) : RunsTo Try.prog polE 11 (sub [1, 1, 1, 1, 1, 1, 1, 1, 1, 1, 1, 1, 1, 0] B11) (env11 (.imm .arg 1 rw) (.imm .arg 1 la) (.agg [.i p, .i r]) (.ptr 0 0 0 1) (.bool false) (.i nn) (.sl 1 0 q1 none q1 1) (.sl 2 0 q2 none q2 1) (.sl 3 0 q3 none q3 1) (.i 0) (.sl 4 0 q4 none q4 1) (.i 0) (.i la_) (.i 0) (.i lb_) (.i 0) (.sl 5 0 q5 none q5 1) (.i lc_) (.i 0) (.sl 6 0 q6 none q6 1) (.i 0) .undef .undef .undef .undef) [.arr 2 [.agg [.i p, .i r]] true 0, .arr 1 o1 true 0, .arr 1 o2 true 0, .arr 1 o3 true 0, .arr 1 o4 true 0, .arr 1 o5 true 0, .arr 1 o6 true 0] .normal (polE.keys 11) (env11 (.imm .arg 1 rw) (.imm .arg 1 la) (.agg [.i p, .i r]) (.ptr 0 0 0 1) (.bool false) (.i nn) (.sl 1 0 q1 none q1 1) (.sl 2 0 q2 none q2 1) (.sl 3 0 q3 none q3 1) (.i 0) (.sl 4 0 q4 none q4 1) (.i 0) (.i la_) (.i 0) (.i lb_) (.i 0) (.sl 5 0 q5 none q5 1) (.i lc_) (.i 0) (.sl 6 0 q6 none q6 1) (.i 0) (.i (IntKind.i64.wrap (1 + md0))) (.i (IntKind.i64.wrap (1 + md1))) .undef .undef) [.arr 2 [.agg [.i p, .i r]] true 0, .arr 1 o1 true 0, .arr 1 o2 true 0, .arr 1 o3 true 0, .arr 1 o4 true 0, .arr 1 o5 true 0, .arr 1 o6 true 0] :=
  RunsTo.hin 0 60 [⟨16, 4, .i md0, [.arr 2 [.agg [.i p, .i r]] true 0, .arr 1 o1 true 0, .arr 1 o2 true 0, .arr 1 o3 true 0, .arr 1 o4 true 0, .arr 1 o5 true 0, .arr 1 o6 true 0]⟩, ⟨16, 10, .i md1, [.arr 2 [.agg [.i p, .i r]] true 0, .arr 1 o1 true 0, .arr 1 o2 true 0, .arr 1 o3 true 0, .arr 1 o4 true 0, .arr 1 o5 true 0, .arr 1 o6 true 0]⟩] fun kf hk => ⟨_, by kernel_rfl, (oC (gS16) (oC (g0 kf) (oC (g1 kf) .nil)))⟩
theorem li_o_0 (rw la : List HV) (p r : Int) (nn : Int) (q1 : Nat) (o1 : List HV) (q2 : Nat) (o2 : List HV) (q3 : Nat) (o3 : List HV) (q4 : Nat) (o4 : List HV) (la_ : Int) (lb_ : Int) (q5 : Nat) (o5 : List HV) (lc_ : Int) (q6 : Nat) (o6 : List HV) (xa xb : Int) (q7 : Nat) (o7 : List HV) (ln0 : Int) (g0 : ∀ kf, callN Try.prog polE (kf + 1) 39 [.sl 3 0 q3 none q3 1, .i (min xa xb), .i (max xa xb)] [.arr 2 [.agg [.i p, .i r]] true 0, .arr 1 o1 true 0, .arr 1 o2 true 0, .arr 1 o3 true 0, .arr 1 o4 true 0, .arr 1 o5 true 0, .arr 1 o6 true 0] = some (.sl 7 0 q7 none q7 1, [.arr 2 [.agg [.i p, .i r]] true 0, .arr 1 o1 true 0, .arr 1 o2 true 0, .arr 1 o3 true 0, .arr 1 o4 true 0, .arr 1 o5 true 0, .arr 1 o6 true 0, .arr 1 o7 true 0])) (g1 : ∀ kf, callN Try.prog polE (kf + 1) 34 [.sl 1 0 q1 none q1 1, .sl 7 0 q7 none q7 1] [.arr 2 [.agg [.i p, .i r]] true 0, .arr 1 o1 true 0, .arr 1 o2 true 0, .arr 1 o3 true 0, .arr 1 o4 true 0, .arr 1 o5 true 0, .arr 1 o6 true 0, .arr 1 o7 true 0] = some (.tuple [.i ln0, .i 0], [.arr 2 [.agg [.i p, .i r]] true 0, .arr 1 o1 true 0, .arr 1 o2 true 0, .arr 1 o3 true 0, .arr 1 o4 true 0, .arr 1 o5 true 0, .arr 1 o6 true 0, .arr 1 o7 true 0])) : RunsTo Try.prog polE 11 (sub [1, 1, 1, 1, 1, 1, 1, 1, 1, 1, 1, 1, 1, 1, 0] B11) (env11 (.imm .arg 1 rw) (.imm .arg 1 la) (.agg [.i p, .i r]) (.ptr 0 0 0 1) (.bool false) (.i nn) (.sl 1 0 q1 none q1 1) (.sl 2 0 q2 none q2 1) (.sl 3 0 q3 none q3 1) (.i 0) (.sl 4 0 q4 none q4 1) (.i 0) (.i la_) (.i 0) (.i lb_) (.i 0) (.sl 5 0 q5 none q5 1) (.i lc_) (.i 0) (.sl 6 0 q6 none q6 1) (.i 0) (.i xa) (.i xb) .undef .undef) [.arr 2 [.agg [.i p, .i r]] true 0, .arr 1 o1 true 0, .arr 1 o2 true 0, .arr 1 o3 true 0, .arr 1 o4 true 0, .arr 1 o5 true 0, .arr 1 o6 true 0] .normal (polE.keys 11) (env11 (.imm .arg 1 rw) (.imm .arg 1 la) (.agg [.i p, .i r]) (.ptr 0 0 0 1) (.bool false) (.i nn) (.sl 1 0 q1 none q1 1) (.sl 2 0 q2 none q2 1) (.sl 3 0 q3 none q3 1) (.i 0) (.sl 4 0 q4 none q4 1) (.i 0) (.i la_) (.i 0) (.i lb_) (.i 0) (.sl 5 0 q5 none q5 1) (.i lc_) (.i 0) (.sl 6 0 q6 none q6 1) (.i 0) (.i xa) (.i xb) (.i ln0) (.i 0)) [.arr 2 [.agg [.i p, .i r]] true 0, .arr 1 o1 true 0, .arr 1 o2 true 0, .arr 1 o3 true 0, .arr 1 o4 true 0, .arr 1 o5 true 0, .arr 1 o6 true 0, .arr 1 o7 true 0] :=
  RunsTo.hin 0 60 [⟨17, 8, .sl 7 0 q7 none q7 1, [.arr 2 [.agg [.i p, .i r]] true 0, .arr 1 o1 true 0, .arr 1 o2 true 0, .arr 1 o3 true 0, .arr 1 o4 true 0, .arr 1 o5 true 0, .arr 1 o6 true 0, .arr 1 o7 true 0]⟩, ⟨17, 9, .tuple [.i ln0, .i 0], [.arr 2 [.agg [.i p, .i r]] true 0, .arr 1 o1 true 0, .arr 1 o2 true 0, .arr 1 o3 true 0, .arr 1 o4 true 0, .arr 1 o5 true 0, .arr 1 o6 true 0, .arr 1 o7 true 0]⟩] fun kf hk => ⟨_, by kernel_rfl, (oC (g0 kf) (oC (g1 kf) .nil))⟩
theorem li_p_0 (rw la : List HV) (p r : Int) (nn : Int) (q1 : Nat) (o1 : List HV) (q2 : Nat) (o2 : List HV) (q3 : Nat) (o3 : List HV) (q4 : Nat) (o4 : List HV) (la_ : Int) (lb_ : Int) (q5 : Nat) (o5 : List HV) (lc_ : Int) (q6 : Nat) (o6 : List HV) (xa xb : Int) (o7 : List HV) (le_ : Int)(g0 : lb_ ≤ le_) : RunsTo Try.prog polE 11 (sub [1, 1, 1, 1, 1, 1, 1, 1, 1, 1, 1, 1, 1, 1, 1] B11) (env11 (.imm .arg 1 rw) (.imm .arg 1 la) (.agg [.i p, .i r]) (.ptr 0 0 0 1) (.bool false) (.i nn) (.sl 1 0 q1 none q1 1) (.sl 2 0 q2 none q2 1) (.sl 3 0 q3 none q3 1) (.i 0) (.sl 4 0 q4 none q4 1) (.i 0) (.i la_) (.i 0) (.i lb_) (.i 0) (.sl 5 0 q5 none q5 1) (.i lc_) (.i 0) (.sl 6 0 q6 none q6 1) (.i 0) (.i xa) (.i xb) (.i le_) (.i 0)) [.arr 2 [.agg [.i p, .i r]] true 0, .arr 1 o1 true 0, .arr 1 o2 true 0, .arr 1 o3 true 0, .arr 1 o4 true 0, .arr 1 o5 true 0, .arr 1 o6 true 0, .arr 1 o7 true 0] .ret (polE.keys 11) (env11 (.imm .arg 1 rw) (.imm .arg 1 la) (.agg [.i p, .i r]) (.ptr 0 0 0 1) (.bool true) (.i nn) (.sl 1 0 q1 none q1 1) (.sl 2 0 q2 none q2 1) (.sl 3 0 q3 none q3 1) (.i 0) (.sl 4 0 q4 none q4 1) (.i 0) (.i la_) (.i 0) (.i lb_) (.i 0) (.sl 5 0 q5 none q5 1) (.i lc_) (.i 0) (.sl 6 0 q6 none q6 1) (.i 0) (.i xa) (.i xb) (.i le_) (.i 0)) [.arr 2 [.agg [.i p, .i r]] true 0, .arr 1 o1 true 0, .arr 1 o2 true 0, .arr 1 o3 true 0, .arr 1 o4 true 0, .arr 1 o5 true 0, .arr 1 o6 true 0, .arr 1 o7 true 0] :=
  RunsTo.hin 0 60 [⟨18, 5, .bool true, [.arr 2 [.agg [.i p, .i r]] true 0, .arr 1 o1 true 0, .arr 1 o2 true 0, .arr 1 o3 true 0, .arr 1 o4 true 0, .arr 1 o5 true 0, .arr 1 o6 true 0, .arr 1 o7 true 0]⟩] fun kf hk => ⟨_, by kernel_rfl, (oB [.arr 2 [.agg [.i p, .i r]] true 0, .arr 1 o1 true 0, .arr 1 o2 true 0, .arr 1 o3 true 0, .arr 1 o4 true 0, .arr 1 o5 true 0, .arr 1 o6 true 0, .arr 1 o7 true 0] (decide_eq_true g0) .nil)⟩
end Go.Proofs.Ytlendaofkmhgmaa
end
section
open Go Go.HL
namespace Go.Proofs.Ytlendaofkmhgmaa
set_option maxRecDepth 100000 in
theorem awake_fast : callNF Try.prog pol 200 20 [] [] = some (.bool true, []) := by kernel_rfl
theorem awake_prim : PrimOk Try.prog 20 awakeF := by
  refine primOk_of (pol := pol) sound (by kernel_rfl) fun args res h => ?_
  match args, h with
  | [], h =>
    cases h
    exact ⟨200, _, _, false, by rw [← callNF_eq]; exact awake_fast, rfl⟩
end Go.Proofs.Ytlendaofkmhgmaa
end
section
open Go Go.HL
namespace Go.Proofs.Ytlendaofkmhgmaa
theorem soundE (n : Nat) : CallSound Try.prog (callN Try.prog polE n) := sound_prim _ (fun g f h => by
  split at h
  · rename_i hg; cases h; rw [eq_of_beq hg]; exact awake_prim
  split at h
  · rename_i hg; cases h; rw [eq_of_beq hg]; exact mod_ok
  split at h
  · rename_i hg; cases h; rw [eq_of_beq hg]; exact tame_ok
  split at h
  · rename_i hg; cases h; rw [eq_of_beq hg]; exact tour33_ok
  split at h
  · rename_i hg; cases h; rw [eq_of_beq hg]; exact length_ok
  split at h
  · rename_i hg; cases h; rw [eq_of_beq hg]; exact improve_ok
  split at h
  · rename_i hg; cases h; rw [eq_of_beq hg]; exact tour_ok
  split at h
  · rename_i hg; cases h; rw [eq_of_beq hg]; exact ints_ok
  split at h
  · rename_i hg; cases h; rw [eq_of_beq hg]; exact best_ok
  split at h
  · rename_i hg; cases h; rw [eq_of_beq hg]; exact rev_ok
  · cases h) n
theorem res11 : Try.f11.results.toList = [.tmp 6] := by kernel_rfl
section
variable {pol' : Pol} {d : List (List Int)} {l : List Int} {H : Heap} {xb lb : Nat}
abbrev bRw (d : List (List Int)) : Blk := .arr 1 (d.map encO) true 0
end
section
variable {pol' : Pol} {d : List (List Int)} {l : List Int} {H : Heap} {xb lb : Nat}
theorem rows_len (h : okD d) : d.length ≤ 1000 ∧ (d.all fun r => decide (r.length ≤ 1000)) = true := by
  have hn := h.1
  refine ⟨by omega, List.all_eq_true.2 fun r hr => ?_⟩
  obtain ⟨i, hi⟩ := List.mem_iff_getElem?.1 hr
  have hil := lt_of_get hi
  have := h.2.1 i hil
  rw [List.getD, hi] at this
  exact decide_eq_true (by simp at this; omega)
end
section
variable {pol' : Pol} {d : List (List Int)} {l : List Int} {H : Heap} {xb lb : Nat}
theorem c_tame (hp : pol'.prim 28 = some tame28) {R : List (List Int)} {n : Nat} {mo : Int} (hn : 1 ≤ n ∧ n ≤ 12) (hm : 0 ≤ mo ∧ mo ≤ 1000000) (H : Heap) : ∀ k, callN Try.prog pol' (k + 1) 28 [.imm .arg 1 (R.map encR), .int .i64 (n : Int), .int .i64 mo] H = some (.sl H.length 0 (tameL R n mo).length none (tameL R n mo).length 1, H ++ [bRw (tameL R n mo)]) := fun k => by
  rw [prim_call (pol := pol') (g := 28) (F := tame28) hp (rs := [.imm .arg 1 (R.map encR), .int .i64 (n : Int), .int .i64 mo]) (by simp only [mapO, arg_rw]; rfl) (res := .own 1 ((tameL R n mo).map encO)) (by simp only [tame28, nmF, mapO_map decR_enc]; rw [if_pos ⟨by omega, hm⟩, Int.toNat_natCast]), recv_rows]
end
section
variable {pol' : Pol} {d : List (List Int)} {l : List Int} {H : Heap} {xb lb : Nat}
theorem c_tour (hp : pol'.prim 33 = some tour33) {n : Nat} (hn : 1 ≤ n ∧ n ≤ 12) (H : Heap) : ∀ k, callN Try.prog pol' (k + 1) 33 [.imm .arg 1 (l.map encI), .int .i64 (n : Int)] H = some (.sl H.length 0 (tourL l n).length none (tourL l n).length 1, H ++ [bI (tourL l n)]) := fun k => by
  rw [prim_call (pol := pol') (g := 33) (F := tour33) hp (rs := [.imm .arg 1 (l.map encI), .int .i64 (n : Int)]) (by simp only [mapO, arg_li]; rfl) (res := .own 1 ((tourL l n).map encI)) (by simp only [tour33, lnF, mapO_map decI_enc]; rw [if_pos (by omega), Int.toNat_natCast]), recv_ints]
end
section
variable {pol' : Pol} {d : List (List Int)} {l : List Int} {H : Heap} {xb lb : Nat}
theorem c_imp (hp : pol'.prim 35 = some improve35) (hd : okD d) (ht : trOk d.length l = true) (hx : H[xb]? = some (bRw d)) (hl : H[lb]? = some (bI l)) : ∀ k, callN Try.prog pol' (k + 1) 35 [.sl xb 0 d.length none d.length 1, .sl lb 0 l.length none l.length 1] H = some (.tuple [.sl H.length 0 (impT d l).length none (impT d l).length 1, .int .i64 0], H ++ [bI (impT d l)]) := fun k => by
  have hr := rows_len hd
  have hn := hd.1
  have t := (trOk_iff.1 ht).1
  rw [prim_call (pol := pol') (g := 35) (F := improve35) hp (rs := [.imm .arg 1 (d.map encR), .imm .arg 1 (l.map encI)]) (by simp only [mapO, arg_rs rfl hx, arg_sl rfl hl]) (res := .tuple [.own 1 ((impT d l).map encI), .int .i64 0]) (by
    simp only [improve35, rlF, mapO_map decR_enc, mapO_map decI_enc]
    rw [if_pos ⟨hr.1, hr.2, by omega⟩, if_pos ⟨hd, ht⟩])]
  simp only [recv, recvVals, recvVal, recvCell, encI_any, List.length_map]
  rfl
end
section
variable {pol' : Pol} {d : List (List Int)} {l : List Int} {H : Heap} {xb lb : Nat}
theorem c_len (hp : pol'.prim 34 = some length34) (hd : okD d) (ht : trOk d.length l = true) (hx : H[xb]? = some (bRw d)) (hl : H[lb]? = some (bI l)) : ∀ k, callN Try.prog pol' (k + 1) 34 [.sl xb 0 d.length none d.length 1, .sl lb 0 l.length none l.length 1] H = some (.tuple [.int .i64 (lenT d l), .int .i64 0], H) := fun k => by
  have hr := rows_len hd
  have hn := hd.1
  have t := (trOk_iff.1 ht).1
  rw [prim_call (pol := pol') (g := 34) (F := length34) hp (rs := [.imm .arg 1 (d.map encR), .imm .arg 1 (l.map encI)]) (by simp only [mapO, arg_rs rfl hx, arg_sl rfl hl]) (res := .tuple [.int .i64 (lenT d l), .int .i64 0]) (by
    simp only [length34, rlF, mapO_map decR_enc, mapO_map decI_enc]
    rw [if_pos ⟨hr.1, hr.2, by omega⟩, if_pos ⟨hd, ht⟩])]; rfl
end
section
variable {pol' : Pol} {d : List (List Int)} {l : List Int} {H : Heap} {xb lb : Nat}
theorem c_best (hp : pol'.prim 29 = some best29) (hd : okD d) (hx : H[xb]? = some (bRw d)) : ∀ k, callN Try.prog pol' (k + 1) 29 [.sl xb 0 d.length none d.length 1] H = some (.tuple [.sl H.length 0 (bestT d).length none (bestT d).length 1, .int .i64 (lenT d (bestT d)), .int .i64 0], H ++ [bI (bestT d)]) := fun k => by
  have hr := rows_len hd
  rw [prim_call (pol := pol') (g := 29) (F := best29) hp (rs := [.imm .arg 1 (d.map encR)]) (by simp only [mapO, arg_rs rfl hx]) (res := .tuple [.own 1 ((bestT d).map encI), .int .i64 (lenT d (bestT d)), .int .i64 0]) (by
    simp only [best29, rwF, mapO_map decR_enc]
    rw [if_pos ⟨hr.1, hr.2⟩, if_pos hd])]
  simp only [recv, recvVals, recvVal, recvCell, encI_any, List.length_map]
  rfl
end
section
variable {pol' : Pol} {d : List (List Int)} {l : List Int} {H : Heap} {xb lb : Nat}
theorem c_isT (hp : pol'.prim 36 = some tour36) (hd : okD d) (ht : trOk d.length l = true) (hl : H[lb]? = some (bI l)) : ∀ k, callN Try.prog pol' (k + 1) 36 [.sl lb 0 l.length none l.length 1, .int .i64 (d.length : Int)] H = some (.bool true, H) := fun k => by
  have hn := hd.1
  have t := (trOk_iff.1 ht).1
  rw [prim_call (pol := pol') (g := 36) (F := tour36) hp (rs := [.imm .arg 1 (l.map encI), .int .i64 (d.length : Int)]) (by simp only [mapO, arg_sl rfl hl]; rfl) (res := .bool true) (by simp only [tour36, lnF, mapO_map decI_enc]; rw [if_pos ⟨by omega, by omega⟩, Int.toNat_natCast, ht])]; rfl
end
section
variable {pol' : Pol} {d : List (List Int)} {l : List Int} {H : Heap} {xb lb : Nat}
theorem c_ints (hp : pol'.prim 26 = some ints26) {a b : Nat} (hn : l.length ≤ 1000) (h2 : H[a]? = some (bI l)) (h3 : H[b]? = some (bI l)) : ∀ k, callN Try.prog pol' (k + 1) 26 [.sl a 0 l.length none l.length 1, .sl b 0 l.length none l.length 1] H = some (.bool true, H) := fun k => by
  rw [prim_call (pol := pol') (g := 26) (F := ints26) hp (rs := [.imm .arg 1 (l.map encI), .imm .arg 1 (l.map encI)]) (by simp only [mapO, arg_sl rfl h2, arg_sl rfl h3]) (res := .bool true) (by simp only [ints26, llF, mapO_map decI_enc]; rw [if_pos (by omega), decide_eq_true trivial])]; rfl
end
section
variable {pol' : Pol} {d : List (List Int)} {l : List Int} {H : Heap} {xb lb : Nat}
theorem c_rev (hp : pol'.prim 39 = some rev39) {i j : Nat} (hij : i ≤ j) (hj : j < l.length) (hn : l.length ≤ 500) (hl : H[lb]? = some (bI l)) : ∀ k, callN Try.prog pol' (k + 1) 39 [.sl lb 0 l.length none l.length 1, .int .i64 (i : Int), .int .i64 (j : Int)] H = some (.sl H.length 0 (revP l i j).length none (revP l i j).length 1, H ++ [bI (revP l i j)]) := fun k => by
  rw [prim_call (pol := pol') (g := 39) (F := rev39) hp (rs := [.imm .arg 1 (l.map encI), .int .i64 (i : Int), .int .i64 (j : Int)]) (by simp only [mapO, arg_sl rfl hl]; rfl) (res := .own 1 ((revP l i j).map encI)) (by simp only [rev39, mapO_map decI_enc]; rw [if_pos ⟨by omega, hn⟩, Int.toNat_natCast, Int.toNat_natCast]), recv_ints]
end
theorem same_bR (d : List (List Int)) : sameH [bRw d] [bRw d] = true := same_arr fun v hv => by
  obtain ⟨k, _, rfl⟩ := List.mem_map.1 hv
  simp [encO, same, same_li]
theorem sameH_cons {B : Blk} {H : Heap} (hB : sameH [B] [B] = true) (hH : sameH H H = true) : sameH (B :: H) (B :: H) = true := by
  rw [sameH_iff] at hH ⊢
  intro C hC
  rcases List.mem_cons.1 hC with rfl | hC
  · exact hB
  · exact hH C hC
theorem n_of (R0 : List (List Int)) (m : Int) (hm : 0 < m ∧ m ≤ 1000) (c : Int) (hc : 0 ≤ c ∧ c ≤ 3) : ∃ n : Nat, (c ≤ n ∧ (n : Int) < c + m) ∧ IntKind.i64.wrap (c + modW (IntKind.i64.wrap (((R0.map encR).length : Int) - c)) m) = (n : Int) := by
  have h := modW_bounds (IntKind.i64.wrap (((R0.map encR).length : Int) - c)) m (by omega) (by omega)
  refine ⟨(c + modW (IntKind.i64.wrap (((R0.map encR).length : Int) - c)) m).toNat, by omega, ?_⟩
  rw [wrap_id (by omega) (by omega)]; omega
theorem roundImproves_law (R0 : List (List Int)) (l0 : List Int) (p r : Int) : ∃ E H, RunsTo Try.prog polE 11 B11 (args0 [.imm .arg 1 (R0.map encR), .imm .arg 1 (l0.map encI), .agg [.int .i64 p, .int .i64 r]]) [] .ret (polE.keys 11) E H ∧ E.get 6 = .bool true := by
  obtain ⟨n, hn, hw⟩ := n_of R0 9 (by omega) 1 (by omega)
  have e27 : ∀ (a m : Int) (H : Heap), 0 < m → m ≤ 1000 → ∀ k, callN Try.prog polE (k + 1) 27 [.int .i64 a, .int .i64 m] H = some (.int .i64 (modW a m), H) := fun a m H h1 h2 => prim_mod (by kernel_rfl) (by omega) H
  have a := li_a_0 (R0.map encR) (l0.map encI) p r
  have b := li_b_0 (R0.map encR) (l0.map encI) p r _ (e27 _ 9 _ (by omega) (by omega))
  rw [hw] at b
  have c := li_c_0 (R0.map encR) (l0.map encI) p r n _ _ (c_tame (by kernel_rfl) (R := R0) (n := n) (mo := 1000) (by omega) (by omega) _)
  have dl := li_d_0 (R0.map encR) (l0.map encI) p r n (tameL R0 n 1000).length ((tameL R0 n 1000).map encO) _ _ (c_tour (by kernel_rfl) (l := l0) (n := n) (by omega) _)
  have hd : okD (tameL R0 n 1000) := tame_okD (by omega) (by omega)
  have hdl : (tameL R0 n 1000).length = n := mat_len _ _
  have ht := tour_trOk l0 (n := n) (by omega)
  rw [← hdl] at ht
  generalize hD : tameL R0 n 1000 = d at c dl hd hdl ht
  subst hdl
  generalize tourL l0 d.length = l at dl ht
  obtain ⟨i1, i2, i3⟩ := impT_ok hd ht
  have i4 := impT_twice hd ht
  have bt := best_tour hd
  have ib := impT_best hd
  have bl := best_low hd i2
  generalize hs : impT d l = s at i1 i2 i3 i4 bl
  generalize hB : bestT d = B at bt ib bl
  have tl := (trOk_iff.1 ht).1
  have ts := (trOk_iff.1 i2).1
  have tb := (trOk_iff.1 bt).1
  have e := li_e_0 (R0.map encR) (l0.map encI) p r d.length d.length (d.map encO) l.length (l.map encI) _ _ (c_imp (by kernel_rfl) hd ht (H := [.arr 2 [.agg [.int .i64 p, .int .i64 r]] true 0, bRw d, bI l]) rfl rfl)
  rw [hs] at e
  have f := li_f_0 (R0.map encR) (l0.map encI) p r d.length d.length (d.map encO) l.length (l.map encI) s.length (s.map encI) (c_isT (by kernel_rfl) hd i2 (H := [.arr 2 [.agg [.int .i64 p, .int .i64 r]] true 0, bRw d, bI l, bI s]) rfl)
  have g := li_g_0 (R0.map encR) (l0.map encI) p r d.length d.length (d.map encO) l.length (l.map encI) s.length (s.map encI) _ _ (c_imp (by kernel_rfl) hd i2 (H := [.arr 2 [.agg [.int .i64 p, .int .i64 r]] true 0, bRw d, bI l, bI s]) rfl rfl)
  rw [i4] at g
  have h := li_h_0 (R0.map encR) (l0.map encI) p r d.length d.length (d.map encO) l.length (l.map encI) s.length (s.map encI) s.length (s.map encI) _ (c_len (by kernel_rfl) hd ht (H := [.arr 2 [.agg [.int .i64 p, .int .i64 r]] true 0, bRw d, bI l, bI s, bI s]) rfl rfl)
  have i := li_i_0 (R0.map encR) (l0.map encI) p r d.length d.length (d.map encO) l.length (l.map encI) s.length (s.map encI) s.length (s.map encI) (lenT d l) _ (c_len (by kernel_rfl) hd i2 (H := [.arr 2 [.agg [.int .i64 p, .int .i64 r]] true 0, bRw d, bI l, bI s, bI s]) rfl rfl)
  have j := li_j_0 (R0.map encR) (l0.map encI) p r d.length d.length (d.map encO) l.length (l.map encI) s.length (s.map encI) s.length (s.map encI) (lenT d l) (lenT d s) _ _ _ (c_best (by kernel_rfl) hd (H := [.arr 2 [.agg [.int .i64 p, .int .i64 r]] true 0, bRw d, bI l, bI s, bI s]) rfl)
  rw [hB] at j
  have k := li_k_0 (R0.map encR) (l0.map encI) p r d.length d.length (d.map encO) l.length (l.map encI) s.length (s.map encI) s.length (s.map encI) (lenT d l) (lenT d s) B.length (B.map encI) (lenT d B) _ _ (c_imp (by kernel_rfl) hd bt (H := [.arr 2 [.agg [.int .i64 p, .int .i64 r]] true 0, bRw d, bI l, bI s, bI s, bI B]) rfl rfl)
  rw [ib] at k
  have ll := li_l_2 (R0.map encR) (l0.map encI) p r d.length d.length (d.map encO) l.length (l.map encI) s.length (s.map encI) s.length (s.map encI) (lenT d l) (lenT d s) B.length (B.map encI) (lenT d B) B.length (B.map encI) (by omega) (by omega) (c_ints (by kernel_rfl) (by omega) (H := [.arr 2 [.agg [.int .i64 p, .int .i64 r]] true 0, bRw d, bI l, bI s, bI s, bI B, bI B]) rfl rfl) (c_ints (by kernel_rfl) (by omega) (H := [.arr 2 [.agg [.int .i64 p, .int .i64 r]] true 0, bRw d, bI l, bI s, bI s, bI B, bI B]) rfl rfl)
  have up : ∀ E H', RunsTo Try.prog polE 11 (sub [1, 1, 1, 1, 1, 1, 1, 1, 1, 1, 1, 1] B11) (env11 (.imm .arg 1 (R0.map encR)) (.imm .arg 1 (l0.map encI)) (.agg [.int .i64 p, .int .i64 r]) (.ptr 0 0 0 1) (.bool false) (.int .i64 (d.length : Int)) (.sl 1 0 d.length none d.length 1) (.sl 2 0 l.length none l.length 1) (.sl 3 0 s.length none s.length 1) (.int .i64 0) (.sl 4 0 s.length none s.length 1) (.int .i64 0) (.int .i64 (lenT d l)) (.int .i64 0) (.int .i64 (lenT d s)) (.int .i64 0) (.sl 5 0 B.length none B.length 1) (.int .i64 (lenT d B)) (.int .i64 0) (.sl 6 0 B.length none B.length 1) (.int .i64 0) .undef .undef .undef .undef) [.arr 2 [.agg [.int .i64 p, .int .i64 r]] true 0, bRw d, bI l, bI s, bI s, bI B, bI B] .ret (polE.keys 11) E H' →
      RunsTo Try.prog polE 11 B11 (args0 [.imm .arg 1 (R0.map encR), .imm .arg 1 (l0.map encI), .agg [.int .i64 p, .int .i64 r]]) [] .ret (polE.keys 11) E H' := fun E H' t => by
    have t11 := RunsTo.seq ll t (c := sub [1, 1, 1, 1, 1, 1, 1, 1, 1, 1, 1] B11) (by kernel_rfl) (by kernel_rfl)
    have t10 := RunsTo.seq k t11 (c := sub [1, 1, 1, 1, 1, 1, 1, 1, 1, 1] B11) (by kernel_rfl) (by kernel_rfl)
    have t9 := RunsTo.seq j t10 (c := sub [1, 1, 1, 1, 1, 1, 1, 1, 1] B11) (by kernel_rfl) (by kernel_rfl)
    have t8 := RunsTo.seq i t9 (c := sub [1, 1, 1, 1, 1, 1, 1, 1] B11) (by kernel_rfl) (by kernel_rfl)
    have t7 := RunsTo.seq h t8 (c := sub [1, 1, 1, 1, 1, 1, 1] B11) (by kernel_rfl) (by kernel_rfl)
    have t6 := RunsTo.seq g t7 (c := sub [1, 1, 1, 1, 1, 1] B11) (by kernel_rfl) (by kernel_rfl)
    have t5 := RunsTo.seq f t6 (c := sub [1, 1, 1, 1, 1] B11) (by kernel_rfl) (by kernel_rfl)
    have t4 := RunsTo.seq e t5 (c := sub [1, 1, 1, 1] B11) (by kernel_rfl) (by kernel_rfl)
    have t3 := RunsTo.seq dl t4 (c := sub [1, 1, 1] B11) (by kernel_rfl) (by kernel_rfl)
    have t2 := RunsTo.seq c t3 (c := sub [1, 1] B11) (by kernel_rfl) (by kernel_rfl)
    have t1 := RunsTo.seq b t2 (c := sub [1] B11) (by kernel_rfl) (by kernel_rfl)
    exact RunsTo.seq a t1 (c := B11) (by kernel_rfl) (by kernel_rfl)
  by_cases c3 : (d.length : Int) < 3
  · have m := li_m_0 (R0.map encR) (l0.map encI) p r d.length d.length (d.map encO) l.length (l.map encI) s.length (s.map encI) s.length (s.map encI) (lenT d l) (lenT d s) B.length (B.map encI) (lenT d B) B.length (B.map encI) c3
    exact ⟨_, _, up _ _ (RunsTo.seq_out m (by simp) (c := sub [1, 1, 1, 1, 1, 1, 1, 1, 1, 1, 1, 1] B11) (b := sub [1, 1, 1, 1, 1, 1, 1, 1, 1, 1, 1, 1, 1] B11) (by kernel_rfl)), rfl⟩
  · have m := li_m_1 (R0.map encR) (l0.map encI) p r d.length d.length (d.map encO) l.length (l.map encI) s.length (s.map encI) s.length (s.map encI) (lenT d l) (lenT d s) B.length (B.map encI) (lenT d B) B.length (B.map encI) c3
    have wn : IntKind.i64.wrap ((d.length : Int) - 1) = (d.length : Int) - 1 := wrap_id (by omega) (by omega)
    have hS := sameH_cons (same_arr (k := 2) (m := 0) (w := true) (l := [.agg [.int .i64 p, .int .i64 r]]) (fun v hv => by rw [List.mem_singleton] at hv; subst hv; simp [same, sameL])) (sameH_cons (same_bR d) (sameH_cons (same_bI l) (sameH_cons (same_bI s) (sameH_cons (same_bI s) (sameH_cons (same_bI B) (same_bI B))))))
    have nn := li_n_0 (R0.map encR) (l0.map encI) p r d.length d.length (d.map encO) l.length (l.map encI) s.length (s.map encI) s.length (s.map encI) (lenT d l) (lenT d s) B.length (B.map encI) (lenT d B) B.length (B.map encI) _ _ (by rw [wn]; exact e27 p _ _ (by omega) (by omega)) (by rw [wn]; exact e27 r _ _ (by omega) (by omega)) (by rw [hS]; simp [same])
    have bp := modW_bounds p ((d.length : Int) - 1) (by omega) (by omega)
    have br := modW_bounds r ((d.length : Int) - 1) (by omega) (by omega)
    obtain ⟨x, hx⟩ : ∃ x : Nat, IntKind.i64.wrap (1 + modW p ((d.length : Int) - 1)) = (x : Int) := ⟨(1 + modW p ((d.length : Int) - 1)).toNat, by rw [wrap_id (by omega) (by omega)]; omega⟩
    obtain ⟨y, hy⟩ : ∃ y : Nat, IntKind.i64.wrap (1 + modW r ((d.length : Int) - 1)) = (y : Int) := ⟨(1 + modW r ((d.length : Int) - 1)).toNat, by rw [wrap_id (by omega) (by omega)]; omega⟩
    rw [hx, hy] at nn
    rw [wrap_id (by omega) (by omega)] at hx hy
    have emin : min (x : Int) (y : Int) = ((min x y : Nat) : Int) := by omega
    have emax : max (x : Int) (y : Int) = ((max x y : Nat) : Int) := by omega
    have hrt : trOk d.length (revP s (min x y) (max x y)) = true := revP_tour (by omega) (by omega) (by omega) i2
    have o := li_o_0 (R0.map encR) (l0.map encI) p r d.length d.length (d.map encO) l.length (l.map encI) s.length (s.map encI) s.length (s.map encI) (lenT d l) (lenT d s) B.length (B.map encI) (lenT d B) B.length (B.map encI) x y _ _ _ (by rw [emin, emax]; exact c_rev (by kernel_rfl) (by omega) (by omega) (by omega) (H := [.arr 2 [.agg [.int .i64 p, .int .i64 r]] true 0, bRw d, bI l, bI s, bI s, bI B, bI B]) rfl) (c_len (by kernel_rfl) hd hrt (H := [.arr 2 [.agg [.int .i64 p, .int .i64 r]] true 0, bRw d, bI l, bI s, bI s, bI B, bI B, bI (revP s (min x y) (max x y))]) rfl rfl)
    have hle : lenT d s ≤ lenT d (revP s (min x y) (max x y)) := by
      by_cases exy : min x y = max x y
      · rw [exy, revP_self (by omega)]; exact Int.le_refl _
      · exact bett_none (by omega) i1 (by omega) (by omega) (by omega)
    have q := li_p_0 (R0.map encR) (l0.map encI) p r d.length d.length (d.map encO) l.length (l.map encI) s.length (s.map encI) s.length (s.map encI) (lenT d l) (lenT d s) B.length (B.map encI) (lenT d B) B.length (B.map encI) x y ((revP s (min x y) (max x y)).map encI) _ hle
    have t1 := RunsTo.seq o q (c := sub [1, 1, 1, 1, 1, 1, 1, 1, 1, 1, 1, 1, 1, 1] B11) (by kernel_rfl) (by kernel_rfl)
    have t2 := RunsTo.seq nn t1 (c := sub [1, 1, 1, 1, 1, 1, 1, 1, 1, 1, 1, 1, 1] B11) (by kernel_rfl) (by kernel_rfl)
    exact ⟨_, _, up _ _ (RunsTo.seq m t2 (c := sub [1, 1, 1, 1, 1, 1, 1, 1, 1, 1, 1, 1] B11) (by kernel_rfl) (by kernel_rfl)), rfl⟩
end Go.Proofs.Ytlendaofkmhgmaa
end
section
namespace Go.HL
open Go.ChangeShapes Go.WideShapes Go.ChangeAt Go.RowKit Go.Deep
theorem okNil (w : World) (r : Nat) : okOf Ctx.nil w.heap.size false r := by
  refine ⟨fun hM => ?_, by simp⟩
  obtain ⟨b, y, h1, _, _⟩ := M_iff.1 hM
  simp [Ctx.nil] at h1
theorem cell_lt {w : World} {a : Addr} {v : Value} (h : w.cell? a = some v) : a.block < w.heap.size := by
  rcases Nat.lt_or_ge a.block w.heap.size with hl | hl
  · exact hl
  · have : w.heap[a.block]? = none := by simp [hl]
    simp [World.cell?, this] at h
end Go.HL
end
section
namespace Go.HL
open Go.ChangeShapes Go.WideShapes Go.ChangeAt Go.RowKit Go.Deep
theorem arg_ints_ok {H : Type} {enc : TypeId × Value → H} {P : Program} {W : World} {base : Nat} {t q : TypeId} {v : Value} {d : DataW H} {ps : List MemPlace} (ht : P.underlying t = some (.slice q)) (hq : P.underlying q = some (.int .i64)) (cq : P.cellsOf q = 1)
    (hval : Value.okWide P W .any base t v) (hd : DataW.Trod enc P W 0 (fun _ => true) true t v d ps) : ∃ l : List Int, V W (okOf Ctx.nil W.heap.size) Ctx.nil (.imm .arg 1 (l.map encI)) v := by
  obtain ⟨a, len, cap, rfl⟩ := okWide_slice ht hval
  obtain ⟨fuel, hf⟩ := hd
  rcases open_slice ht hf with ⟨h0, _⟩ | ⟨a', len', cap', m, n, D, Pl, h0, hb, hl, hm, hmm, hx, hel⟩
  · simp [Value.cells] at h0
    obtain ⟨rfl, rfl, rfl⟩ := h0
    exact ⟨[], .imm .arg 1 [] none 0 (fun _ => .bool false) (by simp) (by simp) (by simp) (by simp) (by simp) (by simp)⟩
  · simp [Value.cells] at h0
    obtain ⟨rfl, rfl, rfl⟩ := h0
    have hlm : len ≤ m := by rw [hmm]; split <;> omega
    have each : ∀ i, i < len → ∃ z : Int, W.cell? (a'.add i) = some (.int .i64 z) := by
      intro i hi
      obtain ⟨cs', h1, h2⟩ := hel i (by omega)
      rw [cq] at h1
      obtain ⟨_, hlen, hcell⟩ := World.cells?_some h1
      match cs', hlen with
      | [v0], _ =>
        obtain ⟨z0, e0, _, _⟩ := DataW.trod_int hq h2
        simp at e0
        subst e0
        have c0 := hcell 0 (by omega)
        rw [add_add] at c0
        exact ⟨z0, by simpa using c0⟩
    obtain ⟨f, hf⟩ := choose_lt each
    refine ⟨(List.range len).map f, ?_⟩
    have hlen : (((List.range len).map f).map encI).length = len := by simp
    have key := V.imm (w := W) (ok := okOf Ctx.nil W.heap.size) (c := Ctx.nil) .arg 1 (((List.range len).map f).map encI) (some a') cap (fun j => .int .i64 (f j))
      (by rw [hlen]; exact hl) (by simp) ?_ ?_ ?_ ?_
    · rw [hlen] at key; exact key
    · intro hne
      have h0 : 0 < len := by
        rcases Nat.eq_zero_or_pos len with h | h
        · subst h; simp at hne
        · exact h
      obtain ⟨b, off, spot⟩ := a'
      have hspot : spot = none := by simpa [Addr.add] using World.cell?_spot (hf 0 h0)
      subst hspot
      refine ⟨b, off, rfl, by simpa [Addr.add] using cell_lt (hf 0 h0), okNil W b, fun j hj => ?_⟩
      rw [hlen] at hj
      have c0 := hf j (by omega)
      rw [add_plain] at c0
      exact c0
    · intro v hv
      obtain ⟨p, _, rfl⟩ := List.mem_map.1 hv
      rfl
    · intro v hv
      obtain ⟨p, _, rfl⟩ := List.mem_map.1 hv
      rfl
    · intro i v j x hi hj
      have hil : i < len := by have := lt_of_get hi; rw [hlen] at this; exact this
      have : v = encI (f i) := by
        rw [List.getElem?_map, List.getElem?_map, List.getElem?_range hil] at hi
        simpa using hi.symm
      subst this
      have hjx : j < 1 := lt_of_get hj
      match j, hjx, hj with
      | 0, _, hj =>
        simp [encI, cellsOf] at hj
        subst hj
        have e1 : i * 1 + 0 = i := by omega
        rw [e1]
        exact V.int _ _
end Go.HL
end
section
namespace Go.HL
open Go.ChangeShapes Go.WideShapes Go.ChangeAt Go.RowKit Go.Deep
theorem ints_cells {H : Type} {enc : TypeId × Value → H} {P : Program} {W : World} {base fuel : Nat} {sp : Nat → Bool} {held : Bool} {t q : TypeId} {cs : List Value} {x : DataW H × List MemPlace} (ht : P.underlying t = some (.slice q)) (hq : P.underlying q = some (.int .i64)) (cq : P.cellsOf q = 1)
    (hf : DataW.trod enc P W base sp held fuel t cs = some x) : ∃ (l : List Int) (v : Value), cs = [v] ∧ V W (okOf Ctx.nil W.heap.size) Ctx.nil (.imm .arg 1 (l.map encI)) v := by
  rcases open_slice ht hf with ⟨h0, _⟩ | ⟨a', len, cap, m, n, D, Pl, h0, hb, hl, hm, hmm, hx, hel⟩
  · exact ⟨[], _, h0, .imm .arg 1 [] none 0 (fun _ => .bool false) (by simp) (by simp) (by simp) (by simp) (by simp) (by simp)⟩
  · subst h0
    have hlm : len ≤ m := by rw [hmm]; split <;> omega
    have each : ∀ i, i < len → ∃ z : Int, W.cell? (a'.add i) = some (.int .i64 z) := by
      intro i hi
      obtain ⟨cs', h1, h2⟩ := hel i (by omega)
      rw [cq] at h1
      obtain ⟨_, hlen, hcell⟩ := World.cells?_some h1
      match cs', hlen with
      | [v0], _ =>
        obtain ⟨z0, e0, _, _⟩ := DataW.trod_int hq h2
        simp at e0
        subst e0
        have c0 := hcell 0 (by omega)
        rw [add_add] at c0
        exact ⟨z0, by simpa using c0⟩
    obtain ⟨f, hf⟩ := choose_lt each
    refine ⟨(List.range len).map f, _, rfl, ?_⟩
    have hlen : (((List.range len).map f).map encI).length = len := by simp
    have key := V.imm (w := W) (ok := okOf Ctx.nil W.heap.size) (c := Ctx.nil) .arg 1 (((List.range len).map f).map encI) (some a') cap (fun j => .int .i64 (f j))
      (by rw [hlen]; exact hl) (by simp) ?_ ?_ ?_ ?_
    · rw [hlen] at key; exact key
    · intro hne
      have h0 : 0 < len := by
        rcases Nat.eq_zero_or_pos len with h | h
        · subst h; simp at hne
        · exact h
      obtain ⟨b, off, spot⟩ := a'
      have hspot : spot = none := by simpa [Addr.add] using World.cell?_spot (hf 0 h0)
      subst hspot
      refine ⟨b, off, rfl, by simpa [Addr.add] using cell_lt (hf 0 h0), okNil W b, fun j hj => ?_⟩
      rw [hlen] at hj
      have c0 := hf j (by omega)
      rw [add_plain] at c0
      exact c0
    · intro v hv
      obtain ⟨p, _, rfl⟩ := List.mem_map.1 hv
      rfl
    · intro v hv
      obtain ⟨p, _, rfl⟩ := List.mem_map.1 hv
      rfl
    · intro i v j x hi hj
      have hil : i < len := by have := lt_of_get hi; rw [hlen] at this; exact this
      have : v = encI (f i) := by
        rw [List.getElem?_map, List.getElem?_map, List.getElem?_range hil] at hi
        simpa using hi.symm
      subst this
      have hjx : j < 1 := lt_of_get hj
      match j, hjx, hj with
      | 0, _, hj =>
        simp [encI, cellsOf] at hj
        subst hj
        have e1 : i * 1 + 0 = i := by omega
        rw [e1]
        exact V.int _ _
def encRH (r : List Int) : HV := .imm .arg 1 (r.map encI)
theorem rows_cells {H : Type} {enc : TypeId × Value → H} {P : Program} {W : World} {base fuel : Nat} {sp : Nat → Bool} {held : Bool} {s t q : TypeId} {cs : List Value} {x : DataW H × List MemPlace} (hs : P.underlying s = some (.slice t)) (ct : P.cellsOf t = 1) (ht : P.underlying t = some (.slice q)) (hq : P.underlying q = some (.int .i64)) (cq : P.cellsOf q = 1)
    (hf : DataW.trod enc P W base sp held fuel s cs = some x) : ∃ (R : List (List Int)) (v : Value), cs = [v] ∧ V W (okOf Ctx.nil W.heap.size) Ctx.nil (.imm .arg 1 (R.map encRH)) v := by
  rcases open_slice hs hf with ⟨h0, _⟩ | ⟨a', len, cap, m, n, D, Pl, h0, hb, hl, hm, hmm, hx, hel⟩
  · exact ⟨[], _, h0, .imm .arg 1 [] none 0 (fun _ => .bool false) (by simp) (by simp) (by simp) (by simp) (by simp) (by simp)⟩
  · subst h0
    have hlm : len ≤ m := by rw [hmm]; split <;> omega
    have each : ∀ i, i < len → ∃ p : List Int × Value, W.cell? (a'.add i) = some p.2 ∧ V W (okOf Ctx.nil W.heap.size) Ctx.nil (encRH p.1) p.2 := by
      intro i hi
      obtain ⟨cs', h1, h2⟩ := hel i (by omega)
      rw [ct, Nat.mul_one] at h1
      obtain ⟨_, hlen, hcell⟩ := World.cells?_some h1
      obtain ⟨l, v, rfl, hV⟩ := ints_cells ht hq cq h2
      have c0 := hcell 0 (by omega)
      rw [add_add] at c0
      exact ⟨(l, v), by simpa using c0, hV⟩
    obtain ⟨f, hf⟩ := choose_lt each
    refine ⟨(List.range len).map fun i => (f i).1, _, rfl, ?_⟩
    have hlen : (((List.range len).map fun i => (f i).1).map encRH).length = len := by simp
    have key := V.imm (w := W) (ok := okOf Ctx.nil W.heap.size) (c := Ctx.nil) .arg 1 (((List.range len).map fun i => (f i).1).map encRH) (some a') cap (fun j => (f j).2)
      (by rw [hlen]; exact hl) (by simp) ?_ ?_ ?_ ?_
    · rw [hlen] at key; exact key
    · intro hne
      have h0 : 0 < len := by
        rcases Nat.eq_zero_or_pos len with h | h
        · subst h; simp at hne
        · exact h
      obtain ⟨b, off, spot⟩ := a'
      have hspot : spot = none := by simpa [Addr.add] using World.cell?_spot (hf 0 h0).1
      subst hspot
      refine ⟨b, off, rfl, by simpa [Addr.add] using cell_lt (hf 0 h0).1, okNil W b, fun j hj => ?_⟩
      rw [hlen, Nat.mul_one] at hj
      have c0 := (hf j hj).1
      rw [add_plain] at c0
      exact c0
    · intro v hv
      obtain ⟨p, _, rfl⟩ := List.mem_map.1 hv
      rfl
    · intro v hv
      obtain ⟨p, _, rfl⟩ := List.mem_map.1 hv
      rfl
    · intro i v j x hi hj
      have hil : i < len := by have := lt_of_get hi; rw [hlen] at this; exact this
      have : v = encRH (f i).1 := by
        rw [List.getElem?_map, List.getElem?_map, List.getElem?_range hil] at hi
        simpa using hi.symm
      subst this
      have hjx : j < 1 := lt_of_get hj
      obtain rfl : j = 0 := by omega
      simp [encRH, cellsOf] at hj
      subst hj
      have e1 : i * 1 + 0 = i := by omega
      rw [e1]
      exact (hf i hil).2
theorem arg_rows_ok {H : Type} {enc : TypeId × Value → H} {P : Program} {W : World} {base : Nat} {s t q : TypeId} {v : Value} {d : DataW H} {ps : List MemPlace} (hs : P.underlying s = some (.slice t)) (ct : P.cellsOf t = 1) (ht : P.underlying t = some (.slice q)) (hq : P.underlying q = some (.int .i64)) (cq : P.cellsOf q = 1)
    (hval : Value.okWide P W .any base s v) (hd : DataW.Trod enc P W 0 (fun _ => true) true s v d ps) : ∃ R : List (List Int), V W (okOf Ctx.nil W.heap.size) Ctx.nil (.imm .arg 1 (R.map encRH)) v := by
  obtain ⟨a, len, cap, rfl⟩ := okWide_slice hs hval
  obtain ⟨fuel, hf⟩ := hd
  obtain ⟨R, v, hv, h⟩ := rows_cells hs ct ht hq cq hf
  simp [Value.cells] at hv
  subst hv
  exact ⟨R, h⟩
end Go.HL
end
section
namespace Go.HL
open Go.ChangeShapes Go.WideShapes Go.ChangeAt Go.RowKit Go.Deep
theorem arg_pair_ok {H : Type} {enc : TypeId × Value → H} {P : Program} {W : World} {base : Nat} {t q : TypeId} {v : Value} {d : DataW H} {ps : List MemPlace} (ht : P.underlying t = some (.array 2 q)) (hq : P.underlying q = some (.int .i64)) (ct : P.cellsOf t = 2) (cq : P.cellsOf q = 1)
    (hval : Value.okWide P W .any base t v) (hd : DataW.Trod enc P W 0 (fun _ => true) true t v d ps) : ∃ a b : Int, V W (okOf Ctx.nil W.heap.size) Ctx.nil (.agg [.int .i64 a, .int .i64 b]) v := by
  unfold Value.okWide at hval
  simp only [ht] at hval
  obtain ⟨cs, rfl, hsz, _⟩ := hval
  rw [ct] at hsz
  obtain ⟨fuel, hf⟩ := hd
  obtain ⟨xs, k, _, _, _, hxl, hxs⟩ := DataW.trod_array ht hf
  have g0 := hxs 0 (by omega)
  have g1 := hxs 1 (by omega)
  rw [cq] at g0 g1
  have hx0 : xs[0]? = some xs[0] := List.getElem?_eq_getElem (by omega)
  have hx1 : xs[1]? = some xs[1] := List.getElem?_eq_getElem (by omega)
  rw [hx0] at g0
  rw [hx1] at g1
  obtain ⟨l⟩ := cs
  simp [Value.cells] at g0 g1 hsz
  obtain ⟨v0, v1, rfl⟩ : ∃ v0 v1, l = [v0, v1] := by
    match l, hsz with
    | [a, b], _ => exact ⟨a, b, rfl⟩
  obtain ⟨z0, e0, _, _⟩ := DataW.trod_int hq g0
  obtain ⟨z1, e1, _, _⟩ := DataW.trod_int hq g1
  have f0 : v0 = .int .i64 z0 := by simpa using e0
  have f1 : v1 = .int .i64 z1 := by simpa using e1
  subst f0; subst f1
  refine ⟨z0, z1, V.agg _ _ rfl (fun v hv => ?_) fun i v r h1 h2 => ?_⟩
  · simp only [List.mem_cons, List.not_mem_nil, or_false] at hv
    rcases hv with rfl | rfl <;> rfl
  · match i, h1, h2 with
    | 0, h1, h2 => simp at h1 h2; subst h1; subst h2; exact V.int _ _
    | 1, h1, h2 => simp at h1 h2; subst h1; subst h2; exact V.int _ _
end Go.HL
end
