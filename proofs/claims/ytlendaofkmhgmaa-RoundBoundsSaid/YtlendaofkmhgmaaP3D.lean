/- A part of the proof. -/
import Derived.Test.YtlendaofkmhgmaaP3C
set_option linter.unusedVariables false
set_option linter.unusedSimpArgs false
section
open Go Go.HL
namespace Go.Proofs.Ytlendaofkmhgmaa
set_option maxRecDepth 100000
noncomputable def B48 : Code := Try.f48.body.getD .skip
abbrev env48 (v0 v2 : HV) : Env := [(0, v0), (2, v2)]
theorem pc48_0 (n : Int)(g0 : (-10000 : Int) ≤ n ∧ n ≤ (10000 : Int)) : RunsTo Try.prog polW 48 (sub [] B48) [(0, .i n)] [] .ret (polW.keys 48) (env48 (.i n) (.bool false)) [] :=
  RunsTo.hin 0 60 [⟨1, 1, .bool true, []⟩] fun kf hk => ⟨_, by kernel_rfl, (oB [] (decide_eq_true g0) .nil)⟩
theorem pc48_1 (n : Int)(g0 : ¬ ((-10000 : Int) ≤ n ∧ n ≤ (10000 : Int))) : RunsTo Try.prog polW 48 (sub [] B48) [(0, .i n)] [] .ret (polW.keys 48) (env48 (.i n) (.bool true)) [] :=
  RunsTo.hin 0 60 [⟨1, 1, .bool false, []⟩] fun kf hk => ⟨_, by kernel_rfl, (oB [] (decide_eq_false g0) .nil)⟩
theorem jp_a_0 (la : List HV) (H : Heap) : RunsTo Try.prog polPm 69 (sub [0] B69) [(0, .imm .arg 1 la), (1, .func 48 [] [])] H .normal (polPm.keys 69) (env69 (.imm .arg 1 la) (.func 48 [] []) (.i 0) .undef .undef .undef) H :=
  RunsTo.hin 0 60 [] fun kf hk => ⟨_, by kernel_rfl, .nil⟩
theorem jp_b_0 (la : List HV) (H : Heap) : RunsTo Try.prog polPm 69 (sub [1, 0, 0] B69) (env69 (.imm .arg 1 la) (.func 48 [] []) (.i 0) .undef .undef .undef) H .normal (polPm.keys 69) (env69 (.imm .arg 1 la) (.func 48 [] []) (.i 0) .undef (.i (la.length : Int)) (.i 0)) H :=
  RunsTo.hin 0 60 [] fun kf hk => ⟨_, by kernel_rfl, .nil⟩
theorem jp_l_0 (la : List HV) (H : Heap) (j : Nat) (x0 : Int) (H0 : Heap) (g0 : (j : Int) < (la.length : Int)) (g1 : idxV Try.prog 23 (.imm .arg 1 la) (.i (j : Int)) = some (.vptr (.i x0))) (g2 : ∀ kf, callN Try.prog polPm (kf + 1) 48 [.i x0] H = some (.bool true, H0)) : RunsTo Try.prog polPm 69 (sub [1, 0, 1, 0, 0] B69) (env69 (.imm .arg 1 la) (.func 48 [] []) (.i 0) .undef (.i (la.length : Int)) (.i (j : Int))) H .ret (polPm.keys 69) (env69 (.imm .arg 1 la) (.func 48 [] []) (.i (j : Int)) (.i (j : Int)) (.i (la.length : Int)) (.i (j : Int))) H0 :=
  RunsTo.hin 0 60 [⟨2, 0, .bool true, H⟩, ⟨4, 3, .vptr (.i x0), H⟩, ⟨4, 5, .bool true, H0⟩] fun kf hk => ⟨_, by kernel_rfl, (oB H (decide_eq_true g0) (oP H g1 (oC (g2 kf) .nil)))⟩
theorem jp_l_1 (la : List HV) (H : Heap) (j : Nat) (x0 : Int) (H0 : Heap) (g0 : (j : Int) < (la.length : Int)) (g1 : idxV Try.prog 23 (.imm .arg 1 la) (.i (j : Int)) = some (.vptr (.i x0))) (g2 : ∀ kf, callN Try.prog polPm (kf + 1) 48 [.i x0] H = some (.bool false, H0)) : RunsTo Try.prog polPm 69 (sub [1, 0, 1, 0, 0] B69) (env69 (.imm .arg 1 la) (.func 48 [] []) (.i 0) .undef (.i (la.length : Int)) (.i (j : Int))) H .normal (polPm.keys 69) (env69 (.imm .arg 1 la) (.func 48 [] []) (.i 0) (.i (j : Int)) (.i (la.length : Int)) (.i (IntKind.i64.wrap ((j : Int) + 1)))) H0 :=
  RunsTo.hin 0 60 [⟨2, 0, .bool true, H⟩, ⟨4, 3, .vptr (.i x0), H⟩, ⟨4, 5, .bool false, H0⟩] fun kf hk => ⟨_, by kernel_rfl, (oB H (decide_eq_true g0) (oP H g1 (oC (g2 kf) .nil)))⟩
theorem jp_l_2 (la : List HV) (H : Heap) (j : Nat)(g0 : ¬ ((j : Int) < (la.length : Int))) : RunsTo Try.prog polPm 69 (sub [1, 0, 1, 0, 0] B69) (env69 (.imm .arg 1 la) (.func 48 [] []) (.i 0) .undef (.i (la.length : Int)) (.i (j : Int))) H (.exit 0) (polPm.keys 69) (env69 (.imm .arg 1 la) (.func 48 [] []) (.i 0) .undef (.i (la.length : Int)) (.i (j : Int))) H :=
  RunsTo.hin 0 60 [⟨2, 0, .bool false, H⟩] fun kf hk => ⟨_, by kernel_rfl, (oB H (decide_eq_false g0) .nil)⟩
theorem jp_z_0 (la : List HV) (H : Heap) (j : Nat) : RunsTo Try.prog polPm 69 (sub [1, 1] B69) (env69 (.imm .arg 1 la) (.func 48 [] []) (.i 0) .undef (.i (la.length : Int)) (.i (j : Int))) H .ret (polPm.keys 69) (env69 (.imm .arg 1 la) (.func 48 [] []) (.i (-1)) .undef (.i (la.length : Int)) (.i (j : Int))) H :=
  RunsTo.hin 0 60 [] fun kf hk => ⟨_, by kernel_rfl, .nil⟩
theorem cp_0 (N : Nat) (la : List HV) (H : Heap) (r : Int) (H0 : Heap) (g0 : ∀ kf, N ≤ kf → callN Try.prog polPm (kf + 1) 69 [.imm .arg 1 la, .func 48 [] []] H = some (.i r, H0)) (g1 : 0 ≤ r) : RunsTo Try.prog polPm 47 (sub [] B47) [(0, .imm .arg 1 la), (1, .func 48 [] [])] H .ret (polPm.keys 47) (env47 (.imm .arg 1 la) (.func 48 [] []) (.bool true)) H0 :=
  RunsTo.hin N 60 [⟨1, 2, .i r, H0⟩, ⟨1, 3, .bool true, H0⟩] fun kf hk => ⟨_, by kernel_rfl, (oC (g0 kf (by omega)) (oB H0 (decide_eq_true g1) .nil))⟩
theorem cp_1 (N : Nat) (la : List HV) (H : Heap) (r : Int) (H0 : Heap) (g0 : ∀ kf, N ≤ kf → callN Try.prog polPm (kf + 1) 69 [.imm .arg 1 la, .func 48 [] []] H = some (.i r, H0)) (g1 : ¬ (0 ≤ r)) : RunsTo Try.prog polPm 47 (sub [] B47) [(0, .imm .arg 1 la), (1, .func 48 [] [])] H .ret (polPm.keys 47) (env47 (.imm .arg 1 la) (.func 48 [] []) (.bool false)) H0 :=
  RunsTo.hin N 60 [⟨1, 2, .i r, H0⟩, ⟨1, 3, .bool false, H0⟩] fun kf hk => ⟨_, by kernel_rfl, (oC (g0 kf (by omega)) (oB H0 (decide_eq_false g1) .nil))⟩
noncomputable def B17 : Code := Try.f17.body.getD .skip
abbrev env17 (v0 v1 v4 v5 v6 v7 : HV) : Env := [(0, v0), (1, v1), (4, v4), (5, v5), (6, v6), (7, v7)]
theorem bd_a_0 (N : Nat) (rw la : List HV)  : RunsTo Try.prog polPm 17 (sub [0] B17) [(0, .imm .arg 1 rw), (1, .imm .arg 1 la)] [] .normal (polPm.keys 17) (env17 (.imm .arg 1 rw) (.imm .arg 1 la) (.i 0) (.i 0) .undef .undef) [] :=
  RunsTo.hin N 60 [] fun kf hk => ⟨_, by kernel_rfl, .nil⟩
theorem bd_b_0 (N : Nat) (rw la : List HV)  {y6 y7 : HV} {H0 : Heap} (g0 : ∀ kf, callN Try.prog polPm (kf + 1) 46 [.imm .arg 1 rw] [] = some (.bool true, [])) (g1 : (la.length : Int) = (rw.length : Int)) (g2 : ∀ kf, N ≤ kf → callN Try.prog polPm (kf + 1) 47 [.imm .arg 1 la, .func 48 [] []] [] = some (.bool true, H0)) : RunsTo Try.prog polPm 17 (sub [1, 0] B17) (env17 (.imm .arg 1 rw) (.imm .arg 1 la) (.i 0) (.i 0) y6 y7) [] .ret (polPm.keys 17) (env17 (.imm .arg 1 rw) (.imm .arg 1 la) (.i 0) (.i 2) y6 y7) H0 :=
  RunsTo.hin N 60 [⟨1, 1, .bool true, []⟩, ⟨1, 8, .bool false, []⟩, ⟨1, 12, .bool true, H0⟩] fun kf hk => ⟨_, by kernel_rfl, (oC (g0 kf) (oB [] (congrArg not (decide_eq_true g1)) (oC (g2 kf (by omega)) .nil)))⟩
theorem bd_b_1 (N : Nat) (rw la : List HV)  {y6 y7 : HV} {H0 : Heap} (g0 : ∀ kf, callN Try.prog polPm (kf + 1) 46 [.imm .arg 1 rw] [] = some (.bool true, [])) (g1 : (la.length : Int) = (rw.length : Int)) (g2 : ∀ kf, N ≤ kf → callN Try.prog polPm (kf + 1) 47 [.imm .arg 1 la, .func 48 [] []] [] = some (.bool false, H0)) : RunsTo Try.prog polPm 17 (sub [1, 0] B17) (env17 (.imm .arg 1 rw) (.imm .arg 1 la) (.i 0) (.i 0) y6 y7) [] .normal (polPm.keys 17) (env17 (.imm .arg 1 rw) (.imm .arg 1 la) (.i 0) (.i 0) y6 y7) H0 :=
  RunsTo.hin N 60 [⟨1, 1, .bool true, []⟩, ⟨1, 8, .bool false, []⟩, ⟨1, 12, .bool false, H0⟩] fun kf hk => ⟨_, by kernel_rfl, (oC (g0 kf) (oB [] (congrArg not (decide_eq_true g1)) (oC (g2 kf (by omega)) .nil)))⟩
theorem bd_b_2 (N : Nat) (rw la : List HV)  {y6 y7 : HV}(g0 : ∀ kf, callN Try.prog polPm (kf + 1) 46 [.imm .arg 1 rw] [] = some (.bool true, [])) (g1 : ¬ ((la.length : Int) = (rw.length : Int))) : RunsTo Try.prog polPm 17 (sub [1, 0] B17) (env17 (.imm .arg 1 rw) (.imm .arg 1 la) (.i 0) (.i 0) y6 y7) [] .ret (polPm.keys 17) (env17 (.imm .arg 1 rw) (.imm .arg 1 la) (.i 0) (.i 2) y6 y7) [] :=
  RunsTo.hin N 60 [⟨1, 1, .bool true, []⟩, ⟨1, 8, .bool true, []⟩] fun kf hk => ⟨_, by kernel_rfl, (oC (g0 kf) (oB [] (congrArg not (decide_eq_false g1)) .nil))⟩
theorem bd_b_3 (N : Nat) (rw la : List HV)  {y6 y7 : HV}(g0 : ∀ kf, callN Try.prog polPm (kf + 1) 46 [.imm .arg 1 rw] [] = some (.bool false, [])) : RunsTo Try.prog polPm 17 (sub [1, 0] B17) (env17 (.imm .arg 1 rw) (.imm .arg 1 la) (.i 0) (.i 0) y6 y7) [] .ret (polPm.keys 17) (env17 (.imm .arg 1 rw) (.imm .arg 1 la) (.i 0) (.i 2) y6 y7) [] :=
  RunsTo.hin N 60 [⟨1, 1, .bool false, []⟩] fun kf hk => ⟨_, by kernel_rfl, (oC (g0 kf) .nil)⟩
theorem bd_c_0 (N : Nat) (rw la : List HV)  {y6 y7 : HV} {l0 : List HV} {x0 : Int} (g0 : (rw.length : Int) < 3) (g1 : idxV Try.prog 22 (.imm .arg 1 rw) (.i 0) = some (.vptr (.imm .arg 1 l0))) (g2 : idxV Try.prog 23 (.imm .arg 1 l0) (.i (IntKind.i64.wrap ((rw.length : Int) - 1))) = some (.vptr (.i x0))) : RunsTo Try.prog polPm 17 (sub [1, 1, 0] B17) (env17 (.imm .arg 1 rw) (.imm .arg 1 la) (.i 0) (.i 0) y6 y7) [] .ret (polPm.keys 17) (env17 (.imm .arg 1 rw) (.imm .arg 1 la) (.i (IntKind.i64.wrap (2 * x0))) (.i 0) y6 y7) [] :=
  RunsTo.hin N 60 [⟨3, 2, .bool true, []⟩, ⟨4, 1, .vptr (.imm .arg 1 l0), []⟩, ⟨4, 6, .vptr (.i x0), []⟩] fun kf hk => ⟨_, by kernel_rfl, (oB [] (decide_eq_true g0) (oP [] g1 (oP [] g2 .nil)))⟩
theorem bd_c_1 (N : Nat) (rw la : List HV)  {y6 y7 : HV}(g0 : ¬ ((rw.length : Int) < 3)) : RunsTo Try.prog polPm 17 (sub [1, 1, 0] B17) (env17 (.imm .arg 1 rw) (.imm .arg 1 la) (.i 0) (.i 0) y6 y7) [] .normal (polPm.keys 17) (env17 (.imm .arg 1 rw) (.imm .arg 1 la) (.i 0) (.i 0) y6 y7) [] :=
  RunsTo.hin N 60 [⟨3, 2, .bool false, []⟩] fun kf hk => ⟨_, by kernel_rfl, (oB [] (decide_eq_false g0) .nil)⟩
theorem bd_d_0 (N : Nat) (rw la : List HV)  {y6 y7 : HV} : RunsTo Try.prog polPm 17 (sub [1, 1, 1, 0] B17) (env17 (.imm .arg 1 rw) (.imm .arg 1 la) (.i 0) (.i 0) y6 y7) [] .normal (polPm.keys 17) (env17 (.imm .arg 1 rw) (.imm .arg 1 la) (.i 0) (.i 0) (.ptr 0 0 0 1) y7) [.arr 11 [.agg [.i 0, .i 0, .i 0, .i 0, .i 0, .i 0, .i 0, .i 0, .i 0, .i 0, .i 0]] true 0] :=
  RunsTo.hin N 60 [] fun kf hk => ⟨_, by kernel_rfl, .nil⟩
theorem bd_e_0 (N : Nat) (rw la : List HV)  {y7 : HV} {pp0 : List HV} {n0 : Int} (g0 : builtinV Try.prog .copy [23, 23] [.aview 0 0 0 11, .imm .arg 1 la] [.arr 11 [.agg [.i 0, .i 0, .i 0, .i 0, .i 0, .i 0, .i 0, .i 0, .i 0, .i 0, .i 0]] true 0] = some (.i n0, [.arr 11 [.agg pp0] true 0])) : RunsTo Try.prog polPm 17 (sub [1, 1, 1, 1, 0] B17) (env17 (.imm .arg 1 rw) (.imm .arg 1 la) (.i 0) (.i 0) (.ptr 0 0 0 1) y7) [.arr 11 [.agg [.i 0, .i 0, .i 0, .i 0, .i 0, .i 0, .i 0, .i 0, .i 0, .i 0, .i 0]] true 0] .normal (polPm.keys 17) (env17 (.imm .arg 1 rw) (.imm .arg 1 la) (.i 0) (.i 0) (.ptr 0 0 0 1) y7) [.arr 11 [.agg pp0] true 0] :=
  RunsTo.hin N 60 [⟨6, 2, .i n0, [.arr 11 [.agg pp0] true 0]⟩] fun kf hk => ⟨_, by kernel_rfl, (oC (g0) .nil)⟩
theorem bd_f_0 (N : Nat) (rw la : List HV) (pp : List HV) {y7 : HV} {sm : Int} {aa : List HV} (g0 : loadV Try.prog [.arr 11 [.agg pp] true 0] 66 (.ptr 0 0 0 1) = some (.agg pp)) (g1 : ∀ kf, callN Try.prog polPm (kf + 1) 50 [.imm .arg 1 rw, .agg pp] [.arr 11 [.agg pp] true 0] = some (.tuple [.i sm, .agg aa], [.arr 11 [.agg pp] true 0])) (g2 : storeV Try.prog [.arr 11 [.agg pp] true 0, .arr 11 [.agg [.i 0, .i 0, .i 0, .i 0, .i 0, .i 0, .i 0, .i 0, .i 0, .i 0, .i 0]] true 0] 66 (.ptr 1 0 0 1) (.agg aa) = some [.arr 11 [.agg pp] true 0, .arr 11 [.agg aa] true 0]) : RunsTo Try.prog polPm 17 (sub [1, 1, 1, 1, 1] B17) (env17 (.imm .arg 1 rw) (.imm .arg 1 la) (.i 0) (.i 0) (.ptr 0 0 0 1) y7) [.arr 11 [.agg pp] true 0] .ret (polPm.keys 17) (env17 (.imm .arg 1 rw) (.imm .arg 1 la) (.i sm) (.i 0) (.ptr 0 0 0 1) (.i sm)) [.arr 11 [.agg pp] true 0, .arr 11 [.agg aa] true 0] :=
  RunsTo.hin N 60 [⟨7, 1, .agg pp, [.arr 11 [.agg pp] true 0]⟩, ⟨7, 2, .tuple [.i sm, .agg aa], [.arr 11 [.agg pp] true 0]⟩, ⟨7, 8, .tuple [], [.arr 11 [.agg pp] true 0, .arr 11 [.agg aa] true 0]⟩] fun kf hk => ⟨_, by kernel_rfl, (oP [.arr 11 [.agg pp] true 0] g0 (oC (g1 kf) (oS g2 .nil)))⟩
end Go.Proofs.Ytlendaofkmhgmaa
end
section
open Go Go.HL Go.HL.So
namespace Go.Proofs.Ytlendaofkmhgmaa
theorem res48 : Try.f48.results.toList = [.tmp 2] := by kernel_rfl
theorem res17 : Try.f17.results.toList = [.tmp 4, .tmp 5] := by kernel_rfl
theorem price_ok : PrimOk Try.prog 48 price48 := by
  refine primOk_pure (pol := polW) (fn := Try.f48) (cd := B48) follows_mixed soundW (by kernel_rfl) (by kernel_rfl) (fnok polW.prim _ _ (by kernel_rfl)) (by kernel_rfl) ?_
  intro args res h
  unfold price48 at h
  split at h
  · rename_i n
    cases h
    by_cases g : (-10000 : Int) ≤ n ∧ n ≤ 10000
    · exact ⟨_, _, _, .bool false, pc48_0 n g, by simp, by simp only [resultsV, res48]; rfl, by rw [decide_eq_true g]; rfl⟩
    · exact ⟨_, _, _, .bool true, pc48_1 n g, by simp, by simp only [resultsV, res48]; rfl, by rw [decide_eq_false g]; rfl⟩
  · cases h
theorem soundPm (n : Nat) : CallSound Try.prog (callN Try.prog polPm n) := sound_prim _ (fun g f h => by
  split at h
  · rename_i hg; cases h; rw [eq_of_beq hg]; exact miles_ok
  split at h
  · rename_i hg; cases h; rw [eq_of_beq hg]; exact price_ok
  split at h
  · rename_i hg; cases h; rw [eq_of_beq hg]; exact bound_ok
  · cases h) n
abbrev jpE (l : List Int) (j : Nat) : Env := env69 (.imm .arg 1 (l.map encI)) (.func 48 [] []) (.int .i64 0) .undef (.int .i64 (l.length : Int)) (.int .i64 (j : Int))
def pk (v : Int) : Prop := -10000 ≤ v ∧ v ≤ 10000
theorem prim_price (n : Int) (H : Heap) (b : Bool) (hb : (!decide (-10000 ≤ n ∧ n ≤ 10000)) = b) : ∀ k, callN Try.prog polPm (k + 1) 48 [.int .i64 n] H = some (.bool b, H) := fun k => by
  rw [prim_call (pol := polPm) (g := 48) (F := price48) (by kernel_rfl) (rs := [.int .i64 n]) rfl (res := .bool b) (by rw [← hb]; rfl)]; rfl
theorem jp_loop (l : List Int) (H : Heap) (hl : l.length ≤ 1000) : ∀ (d j : Nat), j + d = l.length →
    ∃ x E r, RunsTo Try.prog polPm 69 (sub [1, 0, 1, 0] B69) (jpE l j) H x (polPm.keys 69) E H ∧
      (((∀ v, v ∈ l.drop j → pk v) ∧ x = .exit 0 ∧ E = jpE l l.length) ∨ (x = .ret ∧ E.get 4 = .int .i64 r ∧ 0 ≤ r ∧ ¬ ∀ v, v ∈ l.drop j → pk v)) := by
  intro d
  induction d with
  | zero =>
    intro j hj
    have hj : j = l.length := by omega
    subst hj
    have s1 := jp_l_2 (l.map encI) H l.length (by simp)
    rw [List.length_map] at s1
    exact ⟨_, _, 0, RunsTo.loop_out s1 (by simp) (by kernel_rfl) (by kernel_rfl), .inl ⟨by simp, rfl, rfl⟩⟩
  | succ d ih =>
    intro j hj
    have hjl : j < l.length := by omega
    have g1 := gx hjl
    rw [getD_at hjl] at g1
    rw [List.drop_eq_getElem_cons hjl]
    by_cases he : -10000 ≤ l[j] ∧ l[j] ≤ 10000
    · obtain ⟨x, E, r, h1, h2⟩ := ih (j + 1) (by omega)
      have s1 := jp_l_1 (l.map encI) H j _ H (by simp; omega) g1 (prim_price _ H false (by rw [decide_eq_true he]; rfl))
      rw [wrap_succ (by omega), List.length_map] at s1
      refine ⟨x, E, r, RunsTo.loop s1 (by kernel_rfl) (gc_eq _ rfl) h1 rfl (by kernel_rfl) (by kernel_rfl), ?_⟩
      rcases h2 with ⟨k1, k2, k3⟩ | ⟨k1, k2, k3, k4⟩
      · exact .inl ⟨fun v hv => by
          rcases List.mem_cons.1 hv with rfl | hv
          · exact he
          · exact k1 v hv, k2, k3⟩
      · exact .inr ⟨k1, k2, k3, fun h => k4 fun v hv => h v (List.mem_cons_of_mem _ hv)⟩
    · have s1 := jp_l_0 (l.map encI) H j _ H (by simp; omega) g1 (prim_price _ H true (by rw [decide_eq_false he]; rfl))
      rw [List.length_map] at s1
      exact ⟨_, _, (j : Int), RunsTo.loop_out s1 (by simp) (by kernel_rfl) (by kernel_rfl), .inr ⟨rfl, rfl, by omega, fun h => he (h _ List.mem_cons_self)⟩⟩
theorem jp_call (l : List Int) (H : Heap) (hl : l.length ≤ 1000) : ∃ r, CallsTo (P := Try.prog) (pol := polPm) 69 [.imm .arg 1 (l.map encI), .func 48 [] []] H (.int .i64 r) H ∧ (0 ≤ r ↔ ¬ ∀ v, v ∈ l → pk v) := by
  have a1 := jp_a_0 (l.map encI) H
  have b1 := jp_b_0 (l.map encI) H
  rw [List.length_map] at b1
  obtain ⟨x, E, r, h1, h2⟩ := jp_loop l H hl l.length 0 (by omega)
  rw [List.drop_zero] at h2
  rcases h2 with ⟨k1, rfl, rfl⟩ | ⟨rfl, k2, k3, k4⟩
  · have t1 := RunsTo.seq b1 (RunsTo.block_exit (c := sub [1, 0, 1] B69) h1 (by kernel_rfl)) (c := sub [1, 0] B69) (by kernel_rfl) (by kernel_rfl)
    have z1 := jp_z_0 (l.map encI) H l.length
    rw [List.length_map] at z1
    have t2 := RunsTo.seq a1 (RunsTo.seq t1 z1 (c := sub [1] B69) (by kernel_rfl) (by kernel_rfl)) (c := B69) (by kernel_rfl) (by kernel_rfl)
    have := CallsTo.shared (P := Try.prog) (pol := polPm) (g := 69) (fn := Try.f69) (cd := B69) (args := [.imm .arg 1 (l.map encI), .func 48 [] []]) (v := .int .i64 (-1)) (by kernel_rfl) (by kernel_rfl) (by kernel_rfl) (by kernel_rfl) t2 (by kernel_rfl) (by simp) (by simp only [resultsV, res69]; rfl)
    rw [gc_eq _ rfl] at this
    exact ⟨-1, this, fun h => absurd h (by omega), fun h => absurd k1 h⟩
  · have t1 := RunsTo.seq b1 (RunsTo.block_ret (c := sub [1, 0, 1] B69) (i := 0) h1 (by kernel_rfl)) (c := sub [1, 0] B69) (by kernel_rfl) (by kernel_rfl)
    have t2 := RunsTo.seq a1 (RunsTo.seq_out t1 (by simp) (c := sub [1] B69) (b := sub [1, 1] B69) (by kernel_rfl)) (c := B69) (by kernel_rfl) (by kernel_rfl)
    have := CallsTo.shared (P := Try.prog) (pol := polPm) (g := 69) (fn := Try.f69) (cd := B69) (args := [.imm .arg 1 (l.map encI), .func 48 [] []]) (v := .int .i64 r) (by kernel_rfl) (by kernel_rfl) (by kernel_rfl) (by kernel_rfl) t2 (by kernel_rfl) (by simp) (by simp only [resultsV, res69, mapO, resultV, k2])
    rw [gc_eq _ rfl] at this
    exact ⟨r, this, by simp only [k3, true_iff]; exact k4⟩
open Classical in
theorem cp_call (l : List Int) (H : Heap) (hl : l.length ≤ 1000) : CallsTo (P := Try.prog) (pol := polPm) 47 [.imm .arg 1 (l.map encI), .func 48 [] []] H (.bool (decide (¬ ∀ v, v ∈ l → pk v))) H := by
  obtain ⟨r, hc, hr⟩ := jp_call l H hl
  obtain ⟨N, hN⟩ := CallsTo.from hc
  by_cases h0 : 0 ≤ r
  · rw [decide_eq_true (hr.1 h0)]
    have := CallsTo.shared (P := Try.prog) (pol := polPm) (g := 47) (fn := Try.f47) (cd := B47) (args := [.imm .arg 1 (l.map encI), .func 48 [] []]) (v := .bool true) (by kernel_rfl) (by kernel_rfl) (by kernel_rfl) (by kernel_rfl) (cp_0 N (l.map encI) H r H hN h0) (by kernel_rfl) (by simp) (by simp only [resultsV, res47]; rfl)
    rw [gc_eq _ rfl] at this
    exact this
  · rw [decide_eq_false (fun h => h0 (hr.2 h))]
    have := CallsTo.shared (P := Try.prog) (pol := polPm) (g := 47) (fn := Try.f47) (cd := B47) (args := [.imm .arg 1 (l.map encI), .func 48 [] []]) (v := .bool false) (by kernel_rfl) (by kernel_rfl) (by kernel_rfl) (by kernel_rfl) (cp_1 N (l.map encI) H r H hN h0) (by kernel_rfl) (by simp) (by simp only [resultsV, res47]; rfl)
    rw [gc_eq _ rfl] at this
    exact this
theorem q50 {pol' : Pol} (hp : pol'.prim 50 = some bound50) {d : List (List Int)} {ps : List Int} {v : HV} (hd : okD d) (hs : Small ps) (H : Heap) (hv : toArg H 6 v = some (.imm .arg 1 (d.map encR))) :
    ∀ kf, callN Try.prog pol' (kf + 1) 50 [v, .agg (ps.map encI)] H = some (.tuple [.int .i64 (boundS d ps), .agg ((degs (chosen d ps)).map encI)], H) := fun kf => by
  rw [prim_call (pol := pol') (g := 50) (F := bound50) hp (rs := [.imm .arg 1 (d.map encR), .agg (ps.map encI)]) (by simp only [mapO, hv, arg_agg]) (res := .tuple [.int .i64 (boundS d ps), .agg ((degs (chosen d ps)).map encI)]) (by simp only [bound50, mapO_map decR_enc, mapO_map decI_enc]; rw [if_pos ⟨hd, hs⟩])]
  have hc : ∀ (l : List Int) (H : Heap), recvCells (l.map encI) H = (l.map encI, H) := fun l => by
    induction l with
    | nil => intro H; rfl
    | cons x l ih => intro H; simp only [List.map_cons, recvCells, ih, encI, recvCell]
  simp only [recv, recvVals, recvVal, hc, recvCell]
set_option maxRecDepth 100000 in
theorem copy_ok {l : List Int} (hl : l.length ≤ 11) : builtinV Try.prog .copy [23, 23] [.aview 0 0 0 11, .imm .arg 1 (l.map encI)] [pB (List.replicate 11 0)] = some (.int .i64 (l.length : Int), [pB (pad l)]) := by
  have hs : splice ((List.replicate 11 (0 : Int)).map encI) 0 ((l.map encI).take 11) = (pad l).map encI := by
    rw [List.take_of_length_le (by simpa using hl)]
    unfold splice pad
    simp only [List.take_zero, List.nil_append, Nat.zero_add, List.length_map, List.map_append, ← List.map_drop, List.drop_replicate]
  have hall : (l.map encI).all cellV = true := by simp [encI, cellV]
  have e : copyV [pB (List.replicate 11 0)] (.aview 0 0 0 11) (.imm .arg 1 (l.map encI)) = some (.int .i64 (l.length : Int), [pB (pad l)]) := by
    show (if (1 : Nat) = 1 then (if ([HV.agg ((List.replicate 11 (0 : Int)).map encI)].length = 1 ∧ 0 + 11 ≤ ((List.replicate 11 (0 : Int)).map encI).length ∧ bndL (l.map encI) = 0 ∧ (l.map encI).all cellV = true) then some (HV.int .i64 ((min (l.map encI).length 11 : Nat) : Int), [Blk.arr 11 [.agg (splice ((List.replicate 11 (0 : Int)).map encI) 0 ((l.map encI).take 11))] true 0]) else none) else none) = _
    rw [if_pos rfl, if_pos ⟨rfl, by simp, ints_bnd l, hall⟩, hs]
    simp only [List.length_map, Nat.min_eq_left hl]
  show (match Try.prog.underlying 23 with | some (.slice e) => (match srcOf [pB (List.replicate 11 0)] (.imm .arg 1 (l.map encI)) with | some (_, k) => if tySize Try.prog e = some k then copyV [pB (List.replicate 11 0)] (.aview 0 0 0 11) (.imm .arg 1 (l.map encI)) else none | none => none) | _ => none) = _
  rw [u23]
  show (if tySize Try.prog 3 = some 1 then copyV [pB (List.replicate 11 0)] (.aview 0 0 0 11) (.imm .arg 1 (l.map encI)) else none) = _
  rw [if_pos z3, e]
open Classical in
theorem Bound_ok : PrimOk Try.prog 17 bound17 := by
  refine primOk_pure (pol := polPm) (fn := Try.f17) (cd := B17) follows_mixed soundPm (by kernel_rfl) (by kernel_rfl) (fnok polPm.prim _ _ (by kernel_rfl)) (by kernel_rfl) ?_
  intro args res h
  obtain ⟨d, l, rfl, hq⟩ := rlF_inv h
  clear h
  split at hq
  · rename_i hc
    obtain ⟨hc, hl⟩ := hc
    cases hq
    have a := bd_a_0 0 (d.map encR) (l.map encI)
    have bad : ∀ (E : Env) (Hd : Heap), RunsTo Try.prog polPm 17 (sub [1, 0] B17) (env17 (.imm .arg 1 (d.map encR)) (.imm .arg 1 (l.map encI)) (.int .i64 0) (.int .i64 0) .undef .undef) [] .ret (polPm.keys 17) E Hd → E.get 4 = .int .i64 0 → E.get 5 = .int .i64 2 → ¬ (okD d ∧ l.length = d.length ∧ prOk l) →
        ∃ x E H' v, RunsTo Try.prog polPm 17 B17 (args0 [.imm .arg 1 (d.map encR), .imm .arg 1 (l.map encI)]) [] x (polPm.keys 17) E H' ∧ (∀ i, x ≠ .exit i) ∧ resultsV Try.prog Try.f17 E H' = some v ∧ toRes H' (polPm.deep 17) v = some (if okD d ∧ l.length = d.length ∧ prOk l then .tuple [.int .i64 (bndT d l), .int .i64 0] else .tuple [.int .i64 0, .int .i64 2]) := by
      intro E Hd t h4 h5 hn
      rw [if_neg hn]
      exact ⟨_, _, _, .tuple [.int .i64 0, .int .i64 2], RunsTo.seq a (RunsTo.seq_out t (by simp) (c := sub [1] B17) (b := sub [1, 1] B17) (by kernel_rfl)) (c := B17) (by kernel_rfl) (by kernel_rfl), by simp, by simp only [resultsV, res17, mapO, resultV, h4, h5], rfl⟩
    by_cases c1 : okD d
    · have hn := c1.1
      have m1 := prim_miles (pol' := polPm) (by kernel_rfl) hc.1 hc.2 [] true (okB_true c1)
      by_cases c2 : l.length = d.length
      · obtain ⟨N, hN⟩ := CallsTo.from (cp_call l [] hl)
        by_cases c3 : prOk l
        · rw [decide_eq_false (fun h => h c3)] at hN
          rw [if_pos ⟨c1, c2, c3⟩]
          have b := bd_b_1 N (d.map encR) (l.map encI) (y6 := .undef) (y7 := .undef) m1 (by simp only [List.length_map]; omega) hN
          by_cases c4 : d.length < 3
          · have e1 : IntKind.i64.wrap (((d.map encR).length : Int) - 1) = ((d.length - 1 : Nat) : Int) := by rw [List.length_map, wrap_pred (by omega) (by omega)]
            have b1 := c1.at (i := 0) (j := d.length - 1) (by omega) (by omega)
            have c := bd_c_0 0 (d.map encR) (l.map encI) (y6 := .undef) (y7 := .undef) (by rw [List.length_map]; omega) (g22' (d := d) (v := 0) (by omega)) (by rw [e1]; exact g23' c1 (by omega) (by omega))
            rw [wrap_id (by omega) (by omega)] at c
            have t := RunsTo.seq a (RunsTo.seq b (RunsTo.seq_out c (by simp) (c := sub [1, 1] B17) (b := sub [1, 1, 1] B17) (by kernel_rfl)) (c := sub [1] B17) (by kernel_rfl) (by kernel_rfl)) (c := B17) (by kernel_rfl) (by kernel_rfl)
            have e : bndT d l = 2 * at2 d 0 (d.length - 1) := if_pos c4
            rw [e]
            exact ⟨_, _, _, .tuple [.int .i64 (2 * at2 d 0 (d.length - 1)), .int .i64 0], t, by simp, by simp only [resultsV, res17]; rfl, rfl⟩
          · have c := bd_c_1 0 (d.map encR) (l.map encI) (y6 := .undef) (y7 := .undef) (by rw [List.length_map]; omega)
            have dd := bd_d_0 0 (d.map encR) (l.map encI) (y6 := .undef) (y7 := .undef)
            have e' := bd_e_0 0 (d.map encR) (l.map encI) (y7 := .undef) (copy_ok (by omega))
            have hs := pad_small (by omega) c3
            have f := bd_f_0 0 (d.map encR) (l.map encI) ((pad l).map encI) (y7 := .undef) (pl_all (b := 0) rfl hs.1) (q50 (pol' := polPm) (by kernel_rfl) c1 hs _ (arg_rw _ d)) (pst_all (H := [pB (pad l), pB (List.replicate 11 0)]) (b := 1) (t := List.replicate 11 0) rfl rfl (degs_ok c1 _ _ 0 (chosen_in c1) CtB.zero))
            have t1 := RunsTo.seq dd (RunsTo.seq e' f (c := sub [1, 1, 1, 1] B17) (by kernel_rfl) (by kernel_rfl)) (c := sub [1, 1, 1] B17) (by kernel_rfl) (by kernel_rfl)
            have t := RunsTo.seq a (RunsTo.seq b (RunsTo.seq c t1 (c := sub [1, 1] B17) (by kernel_rfl) (by kernel_rfl)) (c := sub [1] B17) (by kernel_rfl) (by kernel_rfl)) (c := B17) (by kernel_rfl) (by kernel_rfl)
            have e : bndT d l = boundS d (pad l) := if_neg c4
            rw [e]
            exact ⟨_, _, _, .tuple [.int .i64 (boundS d (pad l)), .int .i64 0], t, by simp, by simp only [resultsV, res17]; rfl, rfl⟩
        · have c3' : ¬ ∀ v, v ∈ l → pk v := c3
          rw [decide_eq_true (p := ¬ ∀ v, v ∈ l → pk v) c3'] at hN
          exact bad _ _ (bd_b_0 N (d.map encR) (l.map encI) (y6 := .undef) (y7 := .undef) m1 (by simp only [List.length_map]; omega) hN) rfl rfl (fun h => c3 h.2.2)
      · exact bad _ _ (bd_b_2 0 (d.map encR) (l.map encI) (y6 := .undef) (y7 := .undef) m1 (by simp only [List.length_map]; omega)) rfl rfl (fun h => c2 h.2.1)
    · have m1 := prim_miles (pol' := polPm) (by kernel_rfl) hc.1 hc.2 [] false (okB_false c1)
      exact bad _ _ (bd_b_3 0 (d.map encR) (l.map encI) (y6 := .undef) (y7 := .undef) m1) rfl rfl (fun h => c1 h.1)
  · cases hq
end Go.Proofs.Ytlendaofkmhgmaa
end
section
open Go Go.HL
namespace Go.Proofs.Ytlendaofkmhgmaa
set_option maxRecDepth 100000
noncomputable def B66 : Code := Try.f66.body.getD .skip
abbrev env66 (v0 v1 v2 v6 v7 v8 v9 v10 v11 v12 : HV) : Env := [(0, v0), (1, v1), (2, v2), (6, v6), (7, v7), (8, v8), (9, v9), (10, v10), (11, v11), (12, v12)]
theorem rde_a_0 (rw la : List HV) (f : Int)  : RunsTo Try.prog polW 66 (sub [0] B66) [(0, .imm .arg 1 rw), (1, .imm .arg 1 la), (2, .i f)] [] .normal (polW.keys 66) (env66 (.imm .arg 1 rw) (.imm .arg 1 la) (.i f) (.imm .lit 3 []) .undef .undef .undef .undef .undef .undef) [] :=
  RunsTo.hin 0 60 [] fun kf hk => ⟨_, by kernel_rfl, .nil⟩
theorem rde_b_0 (rw la : List HV) (f : Int)  {y7 y8 y9 y10 y11 y12 : HV} : RunsTo Try.prog polW 66 (sub [1, 0] B66) (env66 (.imm .arg 1 rw) (.imm .arg 1 la) (.i f) (.imm .lit 3 []) y7 y8 y9 y10 y11 y12) [] .normal (polW.keys 66) (env66 (.imm .arg 1 rw) (.imm .arg 1 la) (.i f) (.imm .lit 3 []) (.sl 0 0 0 none 0 3) y8 y9 y10 y11 y12) [.arr 3 [] true 0] :=
  RunsTo.hin 0 60 [] fun kf hk => ⟨_, by kernel_rfl, .nil⟩
theorem rde_c_0 (rw la : List HV) (f : Int) (H : Heap) (b m : Nat)  {y8 y9 y10 y11 y12 : HV} : RunsTo Try.prog polW 66 (sub [1, 1, 0, 0] B66) (env66 (.imm .arg 1 rw) (.imm .arg 1 la) (.i f) (.imm .lit 3 []) (.sl b 0 m none m 3) y8 y9 y10 y11 y12) H .normal (polW.keys 66) (env66 (.imm .arg 1 rw) (.imm .arg 1 la) (.i f) (.imm .lit 3 []) (.sl b 0 m none m 3) (.i f) y9 y10 y11 y12) H :=
  RunsTo.hin 0 60 [] fun kf hk => ⟨_, by kernel_rfl, .nil⟩
theorem rde_d_0 (rw la : List HV) (f : Int) (H : Heap) (b m : Nat) (i : Nat) {y9 y10 y11 y12 : HV}(g0 : (i : Int) < (rw.length : Int)) : RunsTo Try.prog polW 66 (sub [1, 1, 0, 1, 0, 0, 0] B66) (env66 (.imm .arg 1 rw) (.imm .arg 1 la) (.i f) (.imm .lit 3 []) (.sl b 0 m none m 3) (.i (i : Int)) y9 y10 y11 y12) H .normal (polW.keys 66) (env66 (.imm .arg 1 rw) (.imm .arg 1 la) (.i f) (.imm .lit 3 []) (.sl b 0 m none m 3) (.i (i : Int)) y9 y10 y11 y12) H :=
  RunsTo.hin 0 60 [⟨3, 3, .bool true, H⟩] fun kf hk => ⟨_, by kernel_rfl, (oB H (decide_eq_true g0) .nil)⟩
theorem rde_d_1 (rw la : List HV) (f : Int) (H : Heap) (b m : Nat) (i : Nat) {y9 y10 y11 y12 : HV}(g0 : ¬ ((i : Int) < (rw.length : Int))) : RunsTo Try.prog polW 66 (sub [1, 1, 0, 1, 0, 0, 0] B66) (env66 (.imm .arg 1 rw) (.imm .arg 1 la) (.i f) (.imm .lit 3 []) (.sl b 0 m none m 3) (.i (i : Int)) y9 y10 y11 y12) H (.exit 0) (polW.keys 66) (env66 (.imm .arg 1 rw) (.imm .arg 1 la) (.i f) (.imm .lit 3 []) (.sl b 0 m none m 3) (.i (i : Int)) y9 y10 y11 y12) H :=
  RunsTo.hin 0 60 [⟨3, 3, .bool false, H⟩] fun kf hk => ⟨_, by kernel_rfl, (oB H (decide_eq_false g0) .nil)⟩
theorem rde_e_0 (rw la : List HV) (f : Int) (H : Heap) (b m : Nat) (i : Nat) {y9 y10 y11 y12 : HV} : RunsTo Try.prog polW 66 (sub [1, 1, 0, 1, 0, 0, 1, 0, 0, 0] B66) (env66 (.imm .arg 1 rw) (.imm .arg 1 la) (.i f) (.imm .lit 3 []) (.sl b 0 m none m 3) (.i (i : Int)) y9 y10 y11 y12) H .normal (polW.keys 66) (env66 (.imm .arg 1 rw) (.imm .arg 1 la) (.i f) (.imm .lit 3 []) (.sl b 0 m none m 3) (.i (i : Int)) (.i (IntKind.i64.wrap ((i : Int) + 1))) y10 y11 y12) H :=
  RunsTo.hin 0 60 [] fun kf hk => ⟨_, by kernel_rfl, .nil⟩
theorem rde_f_0 (rw la : List HV) (f : Int) (H : Heap) (b m : Nat) (i j : Nat) {y10 y11 y12 : HV}(g0 : (j : Int) < (rw.length : Int)) : RunsTo Try.prog polW 66 (sub [1, 1, 0, 1, 0, 0, 1, 0, 0, 1, 0, 0, 0] B66) (env66 (.imm .arg 1 rw) (.imm .arg 1 la) (.i f) (.imm .lit 3 []) (.sl b 0 m none m 3) (.i (i : Int)) (.i (j : Int)) y10 y11 y12) H .normal (polW.keys 66) (env66 (.imm .arg 1 rw) (.imm .arg 1 la) (.i f) (.imm .lit 3 []) (.sl b 0 m none m 3) (.i (i : Int)) (.i (j : Int)) y10 y11 y12) H :=
  RunsTo.hin 0 60 [⟨6, 3, .bool true, H⟩] fun kf hk => ⟨_, by kernel_rfl, (oB H (decide_eq_true g0) .nil)⟩
theorem rde_f_1 (rw la : List HV) (f : Int) (H : Heap) (b m : Nat) (i j : Nat) {y10 y11 y12 : HV}(g0 : ¬ ((j : Int) < (rw.length : Int))) : RunsTo Try.prog polW 66 (sub [1, 1, 0, 1, 0, 0, 1, 0, 0, 1, 0, 0, 0] B66) (env66 (.imm .arg 1 rw) (.imm .arg 1 la) (.i f) (.imm .lit 3 []) (.sl b 0 m none m 3) (.i (i : Int)) (.i (j : Int)) y10 y11 y12) H (.exit 2) (polW.keys 66) (env66 (.imm .arg 1 rw) (.imm .arg 1 la) (.i f) (.imm .lit 3 []) (.sl b 0 m none m 3) (.i (i : Int)) (.i (j : Int)) y10 y11 y12) H :=
  RunsTo.hin 0 60 [⟨6, 3, .bool false, H⟩] fun kf hk => ⟨_, by kernel_rfl, (oB H (decide_eq_false g0) .nil)⟩
theorem rde_g_0 (rw la : List HV) (f : Int) (H : Heap) (b m : Nat) (i j c : Nat) {y10 y11 y12 : HV} {l0 : List HV} {x0 : Int} {x1 : Int} {x2 : Int} {H0 : Heap} {H1 : Heap} (g0 : idxV Try.prog 22 (.imm .arg 1 rw) (.i (i : Int)) = some (.vptr (.imm .arg 1 l0))) (g1 : idxV Try.prog 23 (.imm .arg 1 l0) (.i (j : Int)) = some (.vptr (.i x0))) (g2 : idxV Try.prog 23 (.imm .arg 1 la) (.i (i : Int)) = some (.vptr (.i x1))) (g3 : idxV Try.prog 23 (.imm .arg 1 la) (.i (j : Int)) = some (.vptr (.i x2))) (g4 : some (newV (.agg [.i 0, .i 0, .i 0]) H) = some (.ptr c 0 0 1, H0)) (g5 : storeV Try.prog H0 73 (.ptr c 0 0 1) (.agg [.i (i : Int), .i (j : Int), .i (IntKind.i64.wrap (IntKind.i64.wrap (x0 + x1) + x2))]) = some H1) (gS8 : ((same (.imm .arg 1 l0) (.imm .arg 1 l0) && sameH (H : Heap) H && sameH (H0 : Heap) H0) && ((same (.i x0) (.i x0) && sameH (H : Heap) H && sameH (H0 : Heap) H0) && ((same (.i x1) (.i x1) && sameH (H : Heap) H && sameH (H0 : Heap) H0) && ((same (.i x2) (.i x2) && sameH (H : Heap) H && sameH (H0 : Heap) H0) && true)))) = true) : RunsTo Try.prog polW 66 (sub [1, 1, 0, 1, 0, 0, 1, 0, 0, 1, 0, 0, 1, 0, 0, 0] B66) (env66 (.imm .arg 1 rw) (.imm .arg 1 la) (.i f) (.imm .lit 3 []) (.sl b 0 m none m 3) (.i (i : Int)) (.i (j : Int)) y10 y11 y12) H .normal (polW.keys 66) (env66 (.imm .arg 1 rw) (.imm .arg 1 la) (.i f) (.imm .lit 3 []) (.sl b 0 m none m 3) (.i (i : Int)) (.i (j : Int)) (.ptr c 0 0 1) y11 y12) H1 :=
  RunsTo.hin 0 60 [⟨8, 4, .vptr (.imm .arg 1 l0), H⟩, ⟨8, 7, .vptr (.i x0), H⟩, ⟨8, 11, .vptr (.i x1), H⟩, ⟨8, 16, .vptr (.i x2), H⟩, ⟨8, 20, .ptr c 0 0 1, H0⟩, ⟨8, 21, .tuple [], H1⟩] fun kf hk => ⟨_, by kernel_rfl, (oC (gS8) (oP H g0 (oP H g1 (oP H g2 (oP H g3 (oC (g4) (oS g5 .nil)))))))⟩
theorem rde_h_0 (rw la : List HV) (f : Int) (H : Heap) (b m : Nat) (i j c : Nat) {y11 y12 : HV} : RunsTo Try.prog polW 66 (sub [1, 1, 0, 1, 0, 0, 1, 0, 0, 1, 0, 0, 1, 0, 0, 1, 0] B66) (env66 (.imm .arg 1 rw) (.imm .arg 1 la) (.i f) (.imm .lit 3 []) (.sl b 0 m none m 3) (.i (i : Int)) (.i (j : Int)) (.ptr c 0 0 1) y11 y12) H .normal (polW.keys 66) (env66 (.imm .arg 1 rw) (.imm .arg 1 la) (.i f) (.imm .lit 3 []) (.sl b 0 m none m 3) (.i (i : Int)) (.i (j : Int)) (.ptr c 0 0 1) (.i 0) y12) H :=
  RunsTo.hin 0 60 [] fun kf hk => ⟨_, by kernel_rfl, .nil⟩
theorem rde_i_0 (rw la : List HV) (f : Int) (H : Heap) (b m : Nat) (i j c k : Nat) {y12 : HV} {x0 : Int} {x1 : Int} (g0 : (k : Int) < (m : Int)) (g1 : idxV Try.prog 70 (.sl b 0 m none m 3) (.i (k : Int)) = some (.ptr b k 0 m)) (g2 : loadV Try.prog H 3 (.ptr b k 2 m) = some (.i x0)) (g3 : loadV Try.prog H 3 (.ptr c 0 2 1) = some (.i x1)) (g4 : x0 ≤ x1) : RunsTo Try.prog polW 66 (sub [1, 1, 0, 1, 0, 0, 1, 0, 0, 1, 0, 0, 1, 0, 0, 1, 1, 0, 0, 0] B66) (env66 (.imm .arg 1 rw) (.imm .arg 1 la) (.i f) (.imm .lit 3 []) (.sl b 0 m none m 3) (.i (i : Int)) (.i (j : Int)) (.ptr c 0 0 1) (.i (k : Int)) y12) H .normal (polW.keys 66) (env66 (.imm .arg 1 rw) (.imm .arg 1 la) (.i f) (.imm .lit 3 []) (.sl b 0 m none m 3) (.i (i : Int)) (.i (j : Int)) (.ptr c 0 0 1) (.i (IntKind.i64.wrap ((k : Int) + 1))) y12) H :=
  RunsTo.hin 0 60 [⟨10, 3, .bool true, H⟩, ⟨10, 7, .ptr b k 0 m, H⟩, ⟨10, 9, .i x0, H⟩, ⟨10, 11, .i x1, H⟩, ⟨10, 12, .bool true, H⟩] fun kf hk => ⟨_, by kernel_rfl, (oB H (decide_eq_true g0) (oP H g1 (oP H g2 (oP H g3 (oB H (decide_eq_true g4) .nil)))))⟩
theorem rde_i_1 (rw la : List HV) (f : Int) (H : Heap) (b m : Nat) (i j c k : Nat) {y12 : HV} {x0 : Int} {x1 : Int} (g0 : (k : Int) < (m : Int)) (g1 : idxV Try.prog 70 (.sl b 0 m none m 3) (.i (k : Int)) = some (.ptr b k 0 m)) (g2 : loadV Try.prog H 3 (.ptr b k 2 m) = some (.i x0)) (g3 : loadV Try.prog H 3 (.ptr c 0 2 1) = some (.i x1)) (g4 : ¬ (x0 ≤ x1)) : RunsTo Try.prog polW 66 (sub [1, 1, 0, 1, 0, 0, 1, 0, 0, 1, 0, 0, 1, 0, 0, 1, 1, 0, 0, 0] B66) (env66 (.imm .arg 1 rw) (.imm .arg 1 la) (.i f) (.imm .lit 3 []) (.sl b 0 m none m 3) (.i (i : Int)) (.i (j : Int)) (.ptr c 0 0 1) (.i (k : Int)) y12) H (.exit 4) (polW.keys 66) (env66 (.imm .arg 1 rw) (.imm .arg 1 la) (.i f) (.imm .lit 3 []) (.sl b 0 m none m 3) (.i (i : Int)) (.i (j : Int)) (.ptr c 0 0 1) (.i (k : Int)) y12) H :=
  RunsTo.hin 0 60 [⟨10, 3, .bool true, H⟩, ⟨10, 7, .ptr b k 0 m, H⟩, ⟨10, 9, .i x0, H⟩, ⟨10, 11, .i x1, H⟩, ⟨10, 12, .bool false, H⟩] fun kf hk => ⟨_, by kernel_rfl, (oB H (decide_eq_true g0) (oP H g1 (oP H g2 (oP H g3 (oB H (decide_eq_false g4) .nil)))))⟩
theorem rde_i_2 (rw la : List HV) (f : Int) (H : Heap) (b m : Nat) (i j c k : Nat) {y12 : HV}(g0 : ¬ ((k : Int) < (m : Int))) : RunsTo Try.prog polW 66 (sub [1, 1, 0, 1, 0, 0, 1, 0, 0, 1, 0, 0, 1, 0, 0, 1, 1, 0, 0, 0] B66) (env66 (.imm .arg 1 rw) (.imm .arg 1 la) (.i f) (.imm .lit 3 []) (.sl b 0 m none m 3) (.i (i : Int)) (.i (j : Int)) (.ptr c 0 0 1) (.i (k : Int)) y12) H (.exit 4) (polW.keys 66) (env66 (.imm .arg 1 rw) (.imm .arg 1 la) (.i f) (.imm .lit 3 []) (.sl b 0 m none m 3) (.i (i : Int)) (.i (j : Int)) (.ptr c 0 0 1) (.i (k : Int)) y12) H :=
  RunsTo.hin 0 60 [⟨10, 3, .bool false, H⟩] fun kf hk => ⟨_, by kernel_rfl, (oB H (decide_eq_false g0) .nil)⟩
theorem rde_j_0 (rw la : List HV) (f : Int) (H : Heap) (b m : Nat) (i j c k : Nat) (ec : Int) (q : Nat) {y12 : HV} {H0 : Heap} {H1 : Heap} {H2 : Heap} {H3 : Heap} (g0 : some (HV.sl H.length 0 0 none 0 3, H ++ [Blk.arr 3 [] true 0]) = some (.sl q 0 0 none 0 3, H0)) (g1 : sliceV Try.prog 70 (.sl b 0 m none m 3) none (some (.i (k : Int))) none = some (.sl b 0 k none m 3)) (g2 : builtinV Try.prog .append [70, 70] [.sl q 0 0 none 0 3, .sl b 0 k none m 3] H0 = some (.sl q 0 k none k 3, H1)) (g3 : loadV Try.prog H1 73 (.ptr c 0 0 1) = some (.agg [.i (i : Int), .i (j : Int), .i ec])) (g4 : appV H1 3 24 (.sl q 0 k none k 3) [.agg [.i (i : Int), .i (j : Int), .i ec]] = some (.sl q 0 (k + 1) none (k + 1) 3, H2)) (g5 : sliceV Try.prog 70 (.sl b 0 m none m 3) (some (.i (k : Int))) none none = some (.sl b k (m - k) none m 3)) (g6 : builtinV Try.prog .append [70, 70] [.sl q 0 (k + 1) none (k + 1) 3, .sl b k (m - k) none m 3] H2 = some (.sl q 0 (m + 1) none (m + 1) 3, H3)) : RunsTo Try.prog polW 66 (sub [1, 1, 0, 1, 0, 0, 1, 0, 0, 1, 0, 0, 1, 0, 0, 1, 1, 1] B66) (env66 (.imm .arg 1 rw) (.imm .arg 1 la) (.i f) (.imm .lit 3 []) (.sl b 0 m none m 3) (.i (i : Int)) (.i (j : Int)) (.ptr c 0 0 1) (.i (k : Int)) y12) H .normal (polW.keys 66) (env66 (.imm .arg 1 rw) (.imm .arg 1 la) (.i f) (.imm .lit 3 []) (.sl q 0 (m + 1) none (m + 1) 3) (.i (i : Int)) (.i (j : Int)) (.ptr c 0 0 1) (.i (k : Int)) (.sl q 0 (k + 1) none (k + 1) 3)) H3 :=
  RunsTo.hin 0 60 [⟨12, 0, .sl q 0 0 none 0 3, H0⟩, ⟨13, 3, .sl b 0 k none m 3, H0⟩, ⟨13, 4, .sl q 0 k none k 3, H1⟩, ⟨14, 1, .agg [.i (i : Int), .i (j : Int), .i ec], H1⟩, ⟨14, 3, .sl q 0 (k + 1) none (k + 1) 3, H2⟩, ⟨15, 3, .sl b k (m - k) none m 3, H2⟩, ⟨15, 4, .sl q 0 (m + 1) none (m + 1) 3, H3⟩] fun kf hk => ⟨_, by kernel_rfl, (oC (g0) (oP H0 g1 (oC (g2) (oP H1 g3 (oC (g4) (oP H2 g5 (oC (g6) .nil)))))))⟩
theorem rde_k_0 (rw la : List HV) (f : Int) (H : Heap) (b m : Nat) (i j : Nat) {y10 y11 y12 : HV} : RunsTo Try.prog polW 66 (sub [1, 1, 0, 1, 0, 0, 1, 0, 0, 1, 0, 0, 1, 1] B66) (env66 (.imm .arg 1 rw) (.imm .arg 1 la) (.i f) (.imm .lit 3 []) (.sl b 0 m none m 3) (.i (i : Int)) (.i (j : Int)) y10 y11 y12) H .normal (polW.keys 66) (env66 (.imm .arg 1 rw) (.imm .arg 1 la) (.i f) (.imm .lit 3 []) (.sl b 0 m none m 3) (.i (i : Int)) (.i (IntKind.i64.wrap ((j : Int) + 1))) y10 y11 y12) H :=
  RunsTo.hin 0 60 [] fun kf hk => ⟨_, by kernel_rfl, .nil⟩
theorem rde_l_0 (rw la : List HV) (f : Int) (H : Heap) (b m : Nat) (i : Nat) {y9 y10 y11 y12 : HV} : RunsTo Try.prog polW 66 (sub [1, 1, 0, 1, 0, 0, 1, 1] B66) (env66 (.imm .arg 1 rw) (.imm .arg 1 la) (.i f) (.imm .lit 3 []) (.sl b 0 m none m 3) (.i (i : Int)) y9 y10 y11 y12) H .normal (polW.keys 66) (env66 (.imm .arg 1 rw) (.imm .arg 1 la) (.i f) (.imm .lit 3 []) (.sl b 0 m none m 3) (.i (IntKind.i64.wrap ((i : Int) + 1))) y9 y10 y11 y12) H :=
  RunsTo.hin 0 60 [] fun kf hk => ⟨_, by kernel_rfl, .nil⟩
theorem rde_m_0 (rw la : List HV) (f : Int) (H : Heap) (b m : Nat)  {y8 y9 y10 y11 y12 : HV} : RunsTo Try.prog polW 66 (sub [1, 1, 1] B66) (env66 (.imm .arg 1 rw) (.imm .arg 1 la) (.i f) (.imm .lit 3 []) (.sl b 0 m none m 3) y8 y9 y10 y11 y12) H .ret (polW.keys 66) (env66 (.imm .arg 1 rw) (.imm .arg 1 la) (.i f) (.sl b 0 m none m 3) (.sl b 0 m none m 3) y8 y9 y10 y11 y12) H :=
  RunsTo.hin 0 60 [] fun kf hk => ⟨_, by kernel_rfl, .nil⟩
end Go.Proofs.Ytlendaofkmhgmaa
end
section
open Go Go.HL Go.HL.So
namespace Go.Proofs.Ytlendaofkmhgmaa
theorem u70 : Try.prog.underlying 70 = some (.slice 73) := by kernel_rfl
theorem s73 : tySize Try.prog 73 = some 3 := by kernel_rfl
theorem a73 : tyAgg Try.prog 73 = true := by kernel_rfl
theorem info73 : (Try.prog.info? 73).map (fun i => (i.size, i.bytes, zeroFits i)) = some (3, 24, true) := by kernel_rfl
abbrev bF (l : List Ed) : Blk := .arr 3 (l.map encF) true 0
abbrev hF (Ls : List (List Ed)) : Heap := Ls.map bF
theorem encF_bnd : ∀ (l : List Ed), bndL (l.map encF) = 0
  | [] => rfl
  | a :: l => by simp only [List.map_cons, bndL, encF_bnd l, encF, bnd]; rfl
theorem encF_any (l : List Ed) : (l.map encF).any isOwn = false := by
  rw [List.any_eq_false]
  intro v hv
  obtain ⟨k, _, rfl⟩ := List.mem_map.1 hv
  simp [encF, isOwn]
theorem same_encF : ∀ l : List Ed, sameL (l.map encF) (l.map encF) = true
  | [] => rfl
  | e :: l => by simp [sameL, same, encF, same_encF l]
theorem same_hF : ∀ Ls, sameH (hF Ls) (hF Ls) = true
  | [] => rfl
  | l :: Ls => by
    show (3 == 3 && sameL (l.map encF) (l.map encF) && true == true && 0 == 0 && sameH (hF Ls) (hF Ls)) = true
    rw [same_hF Ls, same_encF]; rfl
theorem gc_len {base r : Nat} {H : Heap} (h : H.length ≤ r) : gc base r H = H := List.take_of_length_le (by omega)
theorem hF_get {Ls : List (List Ed)} {b : Nat} {l : List Ed} (h : Ls[b]? = some l) : (hF Ls)[b]? = some (bF l) := by rw [List.getElem?_map, h]; rfl
theorem at_get {α : Type} [Inhabited α] {l : List α} {k : Nat} (h : k < l.length) : l[k]? = some (at_ l k) := by
  simp [at_, List.getD, List.getElem?_eq_getElem h]
theorem ixf {n b k : Nat} {cap : Option Nat} (hk : k < n) : idxV Try.prog 70 (.sl b 0 n cap n 3) (.int .i64 (k : Int)) = some (.ptr b k 0 n) := by
  have := idx_sl (P := Try.prog) (t := 70) (b := b) (len := n) (tot := n) (cap := cap) (ik := .i64) (n := (k : Int)) u70 s73 (by omega) (by omega)
  rwa [Int.toNat_natCast] at this
theorem fEl {l : List Ed} {k : Nat} (hk : k < l.length) : (l.map encF)[k]? = some (.agg [.int .i64 (at_ l k).2.1, .int .i64 (at_ l k).2.2, .int .i64 (at_ l k).1]) := by
  rw [List.getElem?_map, at_get hk]; rfl
theorem lf0 {H : Heap} {b k n : Nat} {l : List Ed} (hb : H[b]? = some (bF l)) (hn : l.length = n) (hk : k < n) : loadV Try.prog H 3 (.ptr b k 0 n) = some (.int .i64 (at_ l k).2.1) :=
  load_cell (b := b) hb (by simpa using hn.symm) (fEl (by omega)) a3 i3 rfl
theorem lf2 {H : Heap} {b k n : Nat} {l : List Ed} (hb : H[b]? = some (bF l)) (hn : l.length = n) (hk : k < n) : loadV Try.prog H 3 (.ptr b k 2 n) = some (.int .i64 (at_ l k).1) :=
  load_cell (b := b) hb (by simpa using hn.symm) (fEl (by omega)) a3 i3 rfl
theorem lf {H : Heap} {b k n : Nat} {l : List Ed} (hb : H[b]? = some (bF l)) (hn : l.length = n) (hk : k < n) : loadV Try.prog H 73 (.ptr b k 0 n) = some (encF (at_ l k)) :=
  load_agg (b := b) hb (by simpa using hn.symm) (fEl (by omega)) a73 s73
theorem stF {H : Heap} {b : Nat} (hb : H[b]? = some (.arr 3 [.agg [.int .i64 0, .int .i64 0, .int .i64 0]] true 0)) (e : Ed) : storeV Try.prog H 73 (.ptr b 0 0 1) (encF e) = some (H.set b (bF [e])) := by
  have := store_agg (P := Try.prog) (t := 73) (b := b) (i := 0) (tot := 1) (cs := [.int .i64 0, .int .i64 0, .int .i64 0]) (new := [.int .i64 e.2.1, .int .i64 e.2.2, .int .i64 e.1]) hb rfl rfl s73 rfl (by simp) rfl rfl
  exact this
theorem app_f1 {H : Heap} {b : Nat} {o : List Ed} (hb : H[b]? = some (bF o)) (hl : o.length ≤ 1000) (e : Ed) :
    appV H 3 24 (.sl b 0 o.length none o.length 3) [encF e] = some (.sl b 0 (o.length + 1) none (o.length + 1) 3, H.set b (bF (o ++ [e]))) := by
  have := app_sl (H := H) (k := 3) (bytes := 24) (b := b) (n := o.length) (mx := 0) (els := o.map encF) (xs := [encF e]) hb (by simp) (by simp) (by simp only [roomMax, List.length_singleton]; omega) (encF_bnd [e])
  rw [this]
  simp only [bF, List.map_append, List.map_cons, List.map_nil, List.length_singleton]
theorem set_self2 {H : Heap} {b : Nat} {B : Blk} (hb : H[b]? = some B) : H.set b B = H := by
  apply List.ext_getElem?
  intro k
  rw [List.getElem?_set]
  by_cases e : b = k
  · subst e; rw [if_pos rfl, if_pos (by rcases Nat.lt_or_ge b H.length with h | h; exact h; rw [List.getElem?_eq_none h] at hb; cases hb), hb]
  · rw [if_neg e]
theorem app_f {H : Heap} {b : Nat} {x : HV} {o xs : List Ed} (hb : H[b]? = some (bF o)) (hs : srcOf H x = some (xs.map encF, 3)) (hlen : o.length + xs.length ≤ 1000) :
    builtinV Try.prog .append [70, 70] [.sl b 0 o.length none o.length 3, x] H = some (.sl b 0 (o ++ xs).length none (o ++ xs).length 3, H.set b (bF (o ++ xs))) := by
  have hi := info73
  cases hinf : Try.prog.info? 73 with
  | none => rw [hinf] at hi; cases hi
  | some inf =>
    rw [hinf] at hi
    simp only [Option.map, Option.some.injEq, Prod.mk.injEq] at hi
    obtain ⟨e1, e2, e3⟩ := hi
    simp only [builtinV, u70, hinf, hs, e1, e2, e3]
    rw [if_pos ⟨.inl trivial, by omega, trivial⟩]
    by_cases hx : xs = []
    · subst hx
      simp only [List.map_nil, appV, if_true, List.append_nil, set_self2 hb]
    · have := app_sl (H := H) (k := 3) (bytes := 24) (b := b) (n := o.length) (mx := 0) (els := o.map encF) (xs := xs.map encF) hb (by simp) (by simpa using hx) (by rw [List.length_map]; simp only [roomMax]; omega) (encF_bnd xs)
      rw [this]
      simp [bF]
theorem src_f {H : Heap} {b off len : Nat} {o : List Ed} (hb : H[b]? = some (bF o)) (h : off + len ≤ o.length) : srcOf H (.sl b off len none o.length 3) = some (((o.drop off).take len).map encF, 3) := by
  show (if len = 0 then some ([], 3) else (view H b off len o.length 3).map fun l => (l, 3)) = _
  split
  · rename_i h0; subst h0; simp
  · have hv : view H b off len o.length 3 = some (((o.drop off).take len).map encF) := by
      unfold view
      rw [hb]
      simp [h, List.map_take, List.map_drop]
    rw [hv]; rfl
theorem slF_lo {b m k : Nat} (h : k ≤ m) : sliceV Try.prog 70 (.sl b 0 m none m 3) none (some (.int .i64 (k : Int))) none = some (.sl b 0 k none m 3) := by
  have e : boundV (some (.int .i64 (k : Int))) = some (some k) := by
    show (if (0 : Int) ≤ (k : Int) then some (some ((k : Int)).toNat) else none) = _
    rw [if_pos (by omega), Int.toNat_natCast]
  simp only [sliceV, e, boundV, u70, s73]
  simp [h]
theorem slF_hi {b m k : Nat} (h : k ≤ m) : sliceV Try.prog 70 (.sl b 0 m none m 3) (some (.int .i64 (k : Int))) none none = some (.sl b k (m - k) none m 3) := by
  have e : boundV (some (.int .i64 (k : Int))) = some (some k) := by
    show (if (0 : Int) ≤ (k : Int) then some (some ((k : Int)).toNat) else none) = _
    rw [if_pos (by omega), Int.toNat_natCast]
  simp only [sliceV, e, boundV, u70, s73]
  simp [h]
theorem frz_F {H : Heap} {no : List Nat} {n : Nat} (e : Ed) : frz H no (n + 1) (encF e) = some (encF e) := by
  show (match mapO (frz H no n) [.int .i64 e.2.1, .int .i64 e.2.2, .int .i64 e.1] with | some l => some (HV.agg l) | none => none) = _
  have h1 : ∀ x : Int, frz H no n (.int .i64 x) = some (.int .i64 x) := fun x => frz_int n x
  simp only [mapO, h1]; rfl
theorem toRes_F {H : Heap} {b : Nat} {l : List Ed} (hb : H[b]? = some (bF l)) : toRes H false (.sl b 0 l.length none l.length 3) = some (.own 3 (l.map encF)) := by
  have hr := resCell_sl (H := H) (no := [b]) (b := b) (k := 3) (m := l.length) (cap := none) (els := l.map encF) hb (by simp) (mapO_self (fun e => frz_F (n := 3) e) _)
  have ho : ownedAll H false (.sl b 0 l.length none l.length 3) = [b] := by simp [ownedAll, cellsOf, owned, hb]
  simp only [toRes, ho, List.nodup_cons, List.not_mem_nil, not_false_eq_true, List.nodup_nil, and_self, if_true, resVal, hr]
theorem recv_F (l : List Ed) (H : Heap) : recv (.own 3 (l.map encF)) H = (.sl H.length 0 l.length none l.length 3, H ++ [bF l]) := by
  simp only [recv, recvVal, recvCell, encF_any, List.length_map]
  rfl
theorem insS_at (e : Ed) : ∀ (o : List Ed) (k : Nat), k ≤ o.length → (∀ i, i < k → (at_ o i).1 ≤ e.1) → (k < o.length → e.1 < (at_ o k).1) → insS e o = o.take k ++ [e] ++ o.drop k
  | [], k, h, _, _ => by
    have : k = 0 := by simpa using h
    subst this; rfl
  | x :: o, 0, _, _, h2 => by
    have h : e.1 < x.1 := h2 (by simp)
    rw [insS, if_neg (by omega)]; rfl
  | x :: o, k + 1, h, h1, h2 => by
    have h0 : x.1 ≤ e.1 := h1 0 (by omega)
    rw [insS, if_pos h0, insS_at e o k (by simpa using h) (fun i hi => h1 (i + 1) (by omega)) (fun hk => h2 (by simpa using hk))]
    rfl
end Go.Proofs.Ytlendaofkmhgmaa
end
section
open Go Go.HL Go.HL.So
namespace Go.Proofs.Ytlendaofkmhgmaa
theorem res66 : Try.f66.results.toList = [.tmp 6] := by kernel_rfl
def rliF (f : List (List Int) → List Int → Int → Option HV) : List HV → Option HV
  | [.imm .arg 1 rw, .imm .arg 1 la, .int .i64 a] => (match mapO decR rw, mapO decI la with | some R, some ps => f R ps a | _, _ => none)
  | _ => none
theorem rliF_inv {f : List (List Int) → List Int → Int → Option HV} {args : List HV} {res : HV} (h : rliF f args = some res) : ∃ R ps a, args = [.imm .arg 1 (R.map encR), .imm .arg 1 (ps.map encI), .int .i64 a] ∧ f R ps a = some res := by
  unfold rliF at h
  split at h
  · rename_i rw la a
    split at h
    · rename_i R ps hR hp
      exact ⟨R, ps, a, by rw [mapO_inv decR_inv hR, mapO_inv decI_inv hp], h⟩
    · cases h
  · cases h
open Classical in
noncomputable def edges66 : List HV → Option HV := rliF fun R l a => if okD R ∧ l.length = R.length ∧ prOk l ∧ 0 ≤ a ∧ a ≤ R.length then some (.own 3 ((edg R l a.toNat).map encF)) else none
section
variable {d : List (List Int)} {l : List Int} {f : Nat}
abbrev rdE (d : List (List Int)) (l : List Int) (f b m : Nat) (v8 v9 v10 v11 v12 : HV) : Env := (env66 (.imm .arg 1 (d.map encR)) (.imm .arg 1 (l.map encI)) (.int .i64 (f : Int)) (.imm .lit 3 []) (.sl b 0 m none m 3) v8 v9 v10 v11 v12)
end
section
variable {d : List (List Int)} {l : List Int} {f : Nat}
theorem rd_pos {Ls : List (List Ed)} {b c i j : Nat} {o : List Ed} {e : Ed} (hb : Ls[b]? = some o) (hc : Ls[c]? = some [e]) (hl : o.length ≤ 500) : ∀ n k, k + n = o.length → (∀ x, x < k → (at_ o x).1 ≤ e.1) →
    ∃ k', k' ≤ o.length ∧ insS e o = o.take k' ++ [e] ++ o.drop k' ∧ RunsTo Try.prog polW 66 (sub [1, 1, 0, 1, 0, 0, 1, 0, 0, 1, 0, 0, 1, 0, 0, 1, 1, 0, 0] B66) (rdE d l f b o.length (.int .i64 (i : Int)) (.int .i64 (j : Int)) (.ptr c 0 0 1) (.int .i64 (k : Int)) .undef) (hF Ls) (.exit 4) (polW.keys 66)
      (rdE d l f b o.length (.int .i64 (i : Int)) (.int .i64 (j : Int)) (.ptr c 0 0 1) (.int .i64 (k' : Int)) .undef) (hF Ls) := by
  intro n
  induction n with
  | zero =>
    intro k hk hx
    have : k = o.length := by omega
    subst this
    have s := rde_i_2 (d.map encR) (l.map encI) f (hF Ls) b o.length i j c o.length (y12 := .undef) (by omega)
    exact ⟨o.length, Nat.le_refl _, insS_at e o _ (Nat.le_refl _) hx (fun h => absurd h (by omega)), RunsTo.loop_out (s) (by simp) (by kernel_rfl) (by kernel_rfl)⟩
  | succ n ih =>
    intro k hk hx
    by_cases c1 : (at_ o k).1 ≤ e.1
    · have s := rde_i_0 (d.map encR) (l.map encI) f (hF Ls) b o.length i j c k (y12 := .undef) (by omega) (ixf (by omega)) (lf2 (hF_get hb) rfl (by omega)) (lf2 (l := [e]) (k := 0) (hF_get hc) rfl (by simp)) c1
      rw [wrap_succ (by omega)] at s
      obtain ⟨k', h1, h2, r⟩ := ih (k + 1) (by omega) (fun x hxk => by
        rcases Nat.lt_or_ge x k with h | h
        · exact hx x h
        · have : x = k := by omega
          subst this; exact c1)
      exact ⟨k', h1, h2, RunsTo.loop (s) (by kernel_rfl) (gc_eq _ rfl) (r) rfl (by kernel_rfl) (by kernel_rfl)⟩
    · have s := rde_i_1 (d.map encR) (l.map encI) f (hF Ls) b o.length i j c k (y12 := .undef) (by omega) (ixf (by omega)) (lf2 (hF_get hb) rfl (by omega)) (lf2 (l := [e]) (k := 0) (hF_get hc) rfl (by simp)) c1
      exact ⟨k, by omega, insS_at e o k (by omega) hx (fun _ => Int.not_le.1 c1), RunsTo.loop_out (s) (by simp) (by kernel_rfl) (by kernel_rfl)⟩
end
section
variable {d : List (List Int)} {l : List Int} {f : Nat}
theorem get_end {α : Type} (l : List α) (x : α) : (l ++ [x])[l.length]? = some x := by simp
end
section
variable {d : List (List Int)} {l : List Int} {f : Nat}
theorem set_end {α : Type} (l : List α) (x y : α) : (l ++ [x]).set l.length y = l ++ [y] := by simp
end
section
variable {d : List (List Int)} {l : List Int} {f : Nat}
theorem hF_app (Ls : List (List Ed)) (o : List Ed) : hF Ls ++ [bF o] = hF (Ls ++ [o]) := by simp [hF]
end
section
variable {d : List (List Int)} {l : List Int} {f : Nat}
theorem hF_len (Ls : List (List Ed)) : (hF Ls).length = Ls.length := by simp [hF]
end
section
variable {d : List (List Int)} {l : List Int} {f : Nat}
theorem hF_set (Ls : List (List Ed)) (o o' : List Ed) : (hF (Ls ++ [o])).set Ls.length (bF o') = hF (Ls ++ [o']) := by
  rw [← hF_app, ← hF_len Ls, set_end, hF_app]
end
section
variable {d : List (List Int)} {l : List Int} {f : Nat}
theorem prOk.at (h : prOk l) {i : Nat} (hi : i < l.length) : -10000 ≤ l.getD i 0 ∧ l.getD i 0 ≤ 10000 := by
  have e : l.getD i 0 = l[i] := by simp [List.getD, List.getElem?_eq_getElem hi]
  rw [e]; exact h _ (List.getElem_mem _)
end
section
variable {d : List (List Int)} {l : List Int} {f : Nat}
theorem rd_in (hd : okD d) (hn : l.length = d.length) (hp : prOk l) {i : Nat} (hi : i < d.length) : ∀ k j (Ls : List (List Ed)) (o : List Ed), j + k = d.length → i < j → o.length + k ≤ 400 →
    ∃ Ls' y10 y11 y12, RunsTo Try.prog polW 66 (sub [1, 1, 0, 1, 0, 0, 1, 0, 0, 1, 0] B66) (rdE d l f Ls.length o.length (.int .i64 (i : Int)) (.int .i64 (j : Int)) .undef .undef .undef) (hF (Ls ++ [o])) (.exit 2) (polW.keys 66)
      (rdE d l f Ls'.length (rfRow d l i k j o).length (.int .i64 (i : Int)) (.int .i64 (d.length : Int)) y10 y11 y12) (hF (Ls' ++ [rfRow d l i k j o])) := by
  have hdn := hd.1
  intro k
  induction k with
  | zero =>
    intro j Ls o hj hij hl
    have : j = d.length := by omega
    subst this
    have s := rde_f_1 (d.map encR) (l.map encI) f (hF (Ls ++ [o])) Ls.length o.length i d.length (y10 := .undef) (y11 := .undef) (y12 := .undef) (by simp)
    exact ⟨Ls, _, _, _, RunsTo.loop_out (RunsTo.seq_out (s) (by simp) (c := sub [1, 1, 0, 1, 0, 0, 1, 0, 0, 1, 0, 0] B66) (b := sub [1, 1, 0, 1, 0, 0, 1, 0, 0, 1, 0, 0, 1] B66) (by kernel_rfl)) (by simp) (by kernel_rfl) (by kernel_rfl)⟩
  | succ k ih =>
    intro j Ls o hj hij hl
    have b1 := hd.at (i := i) (j := j) hi (by omega)
    have b2 := hp.at (i := i) (by omega)
    have b3 := hp.at (i := j) (by omega)
    have e : IntKind.i64.wrap (IntKind.i64.wrap (at2 d i j + l.getD i 0) + l.getD j 0) = cst d l i j := by
      rw [wrap_id (n := at2 d i j + l.getD i 0) (by omega) (by omega), wrap_id (by omega) (by omega)]; rfl
    have s := rde_f_0 (d.map encR) (l.map encI) f (hF (Ls ++ [o])) Ls.length o.length i j (y10 := .undef) (y11 := .undef) (y12 := .undef) (by rw [List.length_map]; omega)
    have hst := stF (H := hF (Ls ++ [o] ++ [[(0, 0, 0)]])) (b := (Ls ++ [o]).length) (hF_get (l := [(0, 0, 0)]) (get_end _ _)) (mkE d l i j)
    rw [hF_set] at hst
    have g1 := rde_g_0 (d.map encR) (l.map encI) f (hF (Ls ++ [o])) Ls.length o.length i j (Ls ++ [o]).length (y10 := .undef) (y11 := .undef) (y12 := .undef) (H0 := hF (Ls ++ [o] ++ [[(0, 0, 0)]])) (g22' hi) (g23' hd hi (by omega)) (gx (by omega)) (gx (by omega)) (by
      show some (HV.ptr (hF (Ls ++ [o])).length 0 0 1, hF (Ls ++ [o]) ++ [bF [(0, 0, 0)]]) = _
      rw [hF_app, hF_len]) (by rw [e]; exact hst)
      (by simp only [same, same_li, same_hF, beq_self_eq_true, Bool.and_self])
    have h1 := rde_h_0 (d.map encR) (l.map encI) f (hF (Ls ++ [o] ++ [[mkE d l i j]])) Ls.length o.length i j (Ls ++ [o]).length (y11 := .undef) (y12 := .undef)
    obtain ⟨k', hk', hins, r⟩ := rd_pos (d := d) (l := l) (f := f) (Ls := Ls ++ [o] ++ [[mkE d l i j]]) (b := Ls.length) (c := (Ls ++ [o]).length) (i := i) (j := j) (o := o) (e := mkE d l i j) (by simp) (get_end _ _) (by omega) o.length 0 (by omega) (fun x hx => absurd hx (by omega))
    generalize hM : Ls ++ [o] ++ [[mkE d l i j]] = M at *
    have hMb : M[Ls.length]? = some o := by rw [← hM]; simp
    have hMc : M[(Ls ++ [o]).length]? = some [mkE d l i j] := by rw [← hM]; exact get_end _ _
    have lt1 : Ls.length < M.length := by rw [← hM]; simp
    have lt2 : (Ls ++ [o]).length < M.length := by rw [← hM]; simp
    have hq : ∀ o', (hF (M ++ [o']))[Ls.length]? = some (bF o) := fun o' => hF_get (by rw [List.getElem?_append_left lt1]; exact hMb)
    have hcq : ∀ o', (hF (M ++ [o']))[(Ls ++ [o]).length]? = some (bF [mkE d l i j]) := fun o' => hF_get (by rw [List.getElem?_append_left lt2]; exact hMc)
    have hlast : ∀ o', (hF (M ++ [o']))[M.length]? = some (bF o') := fun o' => hF_get (get_end _ _)
    have ht : (o.take k').length = k' := by rw [List.length_take]; omega
    have ap1 := app_f (H := hF (M ++ [[]])) (b := M.length) (x := .sl Ls.length 0 k' none o.length 3) (o := []) (xs := o.take k') (hlast []) (by have := src_f (off := 0) (len := k') (hq []) (by omega); rwa [List.drop_zero] at this) (by rw [ht, List.length_nil]; omega)
    rw [hF_set, List.nil_append, ht] at ap1
    have ap2 := app_f1 (H := hF (M ++ [o.take k'])) (b := M.length) (o := o.take k') (hlast _) (by omega) (mkE d l i j)
    rw [hF_set, ht] at ap2
    have hd2 : (o.drop k').length = o.length - k' := List.length_drop
    have ap3 := app_f (H := hF (M ++ [o.take k' ++ [mkE d l i j]])) (b := M.length) (x := .sl Ls.length k' (o.length - k') none o.length 3) (o := o.take k' ++ [mkE d l i j]) (xs := o.drop k') (hlast _) (by have := src_f (off := k') (len := o.length - k') (hq (o.take k' ++ [mkE d l i j])) (by omega); rwa [List.take_of_length_le (show (o.drop k').length ≤ o.length - k' by omega)] at this) (by rw [List.length_append, ht, hd2, List.length_singleton]; omega)
    have e1 : (o.take k' ++ [mkE d l i j]).length = k' + 1 := by rw [List.length_append, ht]; rfl
    have e2 : (insS (mkE d l i j) o).length = o.length + 1 := insS_len _ _
    rw [hF_set, ← hins, e1, e2] at ap3
    have hlc := lf (l := [mkE d l i j]) (k := 0) (n := 1) (hcq (o.take k')) rfl Nat.one_pos
    have j1 := rde_j_0 (d.map encR) (l.map encI) f (hF M) Ls.length o.length i j (Ls ++ [o]).length k' (cst d l i j) M.length (y12 := .undef) (by rw [hF_len]; exact congrArg some (congrArg _ (hF_app M []))) (slF_lo hk') ap1 (hlc) ap2 (slF_hi hk') ap3
    have k1 := rde_k_0 (d.map encR) (l.map encI) f (hF (M ++ [insS (mkE d l i j) o])) M.length (o.length + 1) i j (y10 := .ptr (Ls ++ [o]).length 0 0 1) (y11 := .int .i64 (k' : Int)) (y12 := .sl M.length 0 (k' + 1) none (k' + 1) 3)
    rw [wrap_succ (by omega)] at k1
    obtain ⟨Ls', y10, y11, y12, r2⟩ := ih (j + 1) M (insS (mkE d l i j) o) (by omega) (by omega) (by omega)
    rw [e2] at r2
    have hg : gc (hF (Ls ++ [o])).length (bndE (rdE d l f M.length (o.length + 1) (.int .i64 (i : Int)) (.int .i64 ((j + 1 : Nat) : Int)) .undef .undef .undef)) (hF (M ++ [insS (mkE d l i j) o])) = hF (M ++ [insS (mkE d l i j) o]) := gc_len (by
      rw [hF_len, List.length_append]
      simp only [bndE, bnd, List.length_singleton]
      omega)
    have st := RunsTo.seq (s) (RunsTo.seq (RunsTo.block_normal (i := 3) (c := sub [1, 1, 0, 1, 0, 0, 1, 0, 0, 1, 0, 0, 1, 0] B66) (RunsTo.seq (g1) (RunsTo.seq (h1) (RunsTo.seq (RunsTo.block_exit (c := sub [1, 1, 0, 1, 0, 0, 1, 0, 0, 1, 0, 0, 1, 0, 0, 1, 1, 0] B66) (RunsTo.loop_in (e0 := (rdE d l f Ls.length o.length (.int .i64 (i : Int)) (.int .i64 (j : Int)) (.ptr (Ls ++ [o]).length 0 0 1) (.int .i64 ((0 : Nat) : Int)) .undef)) r (b := sub [1, 1, 0, 1, 0, 0, 1, 0, 0, 1, 0, 0, 1, 0, 0, 1, 1, 0, 0, 0] B66) (by kernel_rfl) (by kernel_rfl) (by kernel_rfl)) (by kernel_rfl)) (j1) (c := sub [1, 1, 0, 1, 0, 0, 1, 0, 0, 1, 0, 0, 1, 0, 0, 1, 1] B66) (by kernel_rfl) (by kernel_rfl)) (c := sub [1, 1, 0, 1, 0, 0, 1, 0, 0, 1, 0, 0, 1, 0, 0, 1] B66) (by kernel_rfl) (by kernel_rfl)) (c := sub [1, 1, 0, 1, 0, 0, 1, 0, 0, 1, 0, 0, 1, 0, 0] B66) (by kernel_rfl) (by kernel_rfl)) (by kernel_rfl)) (k1) (c := sub [1, 1, 0, 1, 0, 0, 1, 0, 0, 1, 0, 0, 1] B66) (by kernel_rfl) (by kernel_rfl)) (c := sub [1, 1, 0, 1, 0, 0, 1, 0, 0, 1, 0, 0] B66) (by kernel_rfl) (by kernel_rfl)
    exact ⟨Ls', y10, y11, y12, RunsTo.loop (st) (by kernel_rfl) hg (r2) rfl (by kernel_rfl) (by kernel_rfl)⟩
end
section
variable {d : List (List Int)} {l : List Int} {f : Nat}
theorem rfRow_len (d : List (List Int)) (p : List Int) (a : Nat) : ∀ k b o, (rfRow d p a k b o).length = o.length + k
  | 0, _, _ => rfl
  | k + 1, b, o => by rw [rfRow, rfRow_len d p a k, insS_len]; omega
end
section
variable {d : List (List Int)} {l : List Int} {f : Nat}
theorem rd_out (hd : okD d) (hn : l.length = d.length) (hp : prOk l) : ∀ k i (Ls : List (List Ed)) (o : List Ed), i + k = d.length → o.length + k * d.length ≤ 300 →
    ∃ Ls' y8 y9 y10 y11 y12, RunsTo Try.prog polW 66 (sub [1, 1, 0, 1, 0] B66) (rdE d l f Ls.length o.length (.int .i64 (i : Int)) .undef .undef .undef .undef) (hF (Ls ++ [o])) (.exit 0) (polW.keys 66)
      (rdE d l f Ls'.length (rfAll d l k i o).length y8 y9 y10 y11 y12) (hF (Ls' ++ [rfAll d l k i o])) := by
  have hdn := hd.1
  intro k
  induction k with
  | zero =>
    intro i Ls o hi hl
    have : i = d.length := by omega
    subst this
    have s := rde_d_1 (d.map encR) (l.map encI) f (hF (Ls ++ [o])) Ls.length o.length d.length (y9 := .undef) (y10 := .undef) (y11 := .undef) (y12 := .undef) (by simp)
    exact ⟨Ls, _, _, _, _, _, RunsTo.loop_out (RunsTo.seq_out (s) (by simp) (c := sub [1, 1, 0, 1, 0, 0] B66) (b := sub [1, 1, 0, 1, 0, 0, 1] B66) (by kernel_rfl)) (by simp) (by kernel_rfl) (by kernel_rfl)⟩
  | succ k ih =>
    intro i Ls o hi hl
    rw [Nat.succ_mul] at hl
    have s := rde_d_0 (d.map encR) (l.map encI) f (hF (Ls ++ [o])) Ls.length o.length i (y9 := .undef) (y10 := .undef) (y11 := .undef) (y12 := .undef) (by rw [List.length_map]; omega)
    have s2 := rde_e_0 (d.map encR) (l.map encI) f (hF (Ls ++ [o])) Ls.length o.length i (y9 := .undef) (y10 := .undef) (y11 := .undef) (y12 := .undef)
    rw [wrap_succ (by omega)] at s2
    obtain ⟨Ls', y10, y11, y12, r⟩ := rd_in (f := f) hd hn hp (i := i) (by omega) (d.length - (i + 1)) (i + 1) Ls o (by omega) (by omega) (by omega)
    have s3 := rde_l_0 (d.map encR) (l.map encI) f (hF (Ls' ++ [rfRow d l i (d.length - (i + 1)) (i + 1) o])) Ls'.length (rfRow d l i (d.length - (i + 1)) (i + 1) o).length i (y9 := .int .i64 (d.length : Int)) (y10 := y10) (y11 := y11) (y12 := y12)
    rw [wrap_succ (by omega)] at s3
    obtain ⟨Lz, y8, y9, z10, z11, z12, r2⟩ := ih (i + 1) Ls' (rfRow d l i (d.length - (i + 1)) (i + 1) o) (by omega) (by rw [rfRow_len]; omega)
    have hgl : ∀ (L : List (List Ed)), gc (hF (Ls ++ [o])).length (bndE (rdE d l f L.length (rfRow d l i (d.length - (i + 1)) (i + 1) o).length (.int .i64 ((i + 1 : Nat) : Int)) .undef .undef .undef .undef)) (hF (L ++ [rfRow d l i (d.length - (i + 1)) (i + 1) o])) = hF (L ++ [rfRow d l i (d.length - (i + 1)) (i + 1) o]) := fun L => gc_len (by
      rw [hF_len, List.length_append]
      simp only [bndE, bnd, List.length_singleton]
      omega)
    have st := RunsTo.seq (s) (RunsTo.seq (RunsTo.block_normal (i := 1) (c := sub [1, 1, 0, 1, 0, 0, 1, 0] B66) (RunsTo.seq (s2) (RunsTo.block_exit (c := sub [1, 1, 0, 1, 0, 0, 1, 0, 0, 1] B66) (RunsTo.loop_in (e0 := (rdE d l f Ls.length o.length (.int .i64 (i : Int)) (.int .i64 ((i + 1 : Nat) : Int)) .undef .undef .undef)) r (b := sub [1, 1, 0, 1, 0, 0, 1, 0, 0, 1, 0, 0] B66) (by kernel_rfl) (by kernel_rfl) (by kernel_rfl)) (by kernel_rfl)) (c := sub [1, 1, 0, 1, 0, 0, 1, 0, 0] B66) (by kernel_rfl) (by kernel_rfl)) (by kernel_rfl)) (s3) (c := sub [1, 1, 0, 1, 0, 0, 1] B66) (by kernel_rfl) (by kernel_rfl)) (c := sub [1, 1, 0, 1, 0, 0] B66) (by kernel_rfl) (by kernel_rfl)
    exact ⟨Lz, y8, y9, z10, z11, z12, RunsTo.loop (st) (by kernel_rfl) (hgl Ls') (r2) rfl (by kernel_rfl) (by kernel_rfl)⟩
end
theorem redges_ok : PrimOk Try.prog 66 edges66 := by
  refine primOk_pure (pol := polW) (fn := Try.f66) (cd := B66) follows_mixed soundW (by kernel_rfl) (by kernel_rfl) (fnok polW.prim _ _ (by kernel_rfl)) (by kernel_rfl) ?_
  intro args res h
  obtain ⟨d, l, a0, rfl, hq⟩ := rliF_inv h
  clear h
  split at hq
  · rename_i hc
    obtain ⟨hd, hn, hp, ha⟩ := hc
    cases hq
    have hdn := hd.1
    obtain ⟨f, rfl⟩ : ∃ x : Nat, a0 = (x : Int) := ⟨a0.toNat, by omega⟩
    rw [Int.toNat_natCast]
    have s0 := rde_a_0 (d.map encR) (l.map encI) f
    have s1 := rde_b_0 (d.map encR) (l.map encI) f (y7 := .undef) (y8 := .undef) (y9 := .undef) (y10 := .undef) (y11 := .undef) (y12 := .undef)
    have s2 := rde_c_0 (d.map encR) (l.map encI) f [bF []] 0 0 (y8 := .undef) (y9 := .undef) (y10 := .undef) (y11 := .undef) (y12 := .undef)
    have hkk : (d.length - f) * d.length ≤ 11 * 11 := Nat.mul_le_mul (by omega) hdn.2
    obtain ⟨Ls, y8, y9, y10, y11, y12, r⟩ := rd_out (f := f) hd hn hp (d.length - f) f [] [] (by omega) (by simp only [List.length_nil]; omega)
    rw [show rfAll d l (d.length - f) f [] = edg d l f from rfl] at r
    have s3 := rde_m_0 (d.map encR) (l.map encI) f (hF (Ls ++ [edg d l f])) Ls.length (edg d l f).length (y8 := y8) (y9 := y9) (y10 := y10) (y11 := y11) (y12 := y12)
    have t := RunsTo.seq (s0) (RunsTo.seq (s1) (RunsTo.seq (RunsTo.seq (s2) (RunsTo.block_exit (c := sub [1, 1, 0, 1] B66) (RunsTo.loop_in (e0 := (rdE d l f 0 0 (.int .i64 (f : Int)) .undef .undef .undef .undef)) r (b := sub [1, 1, 0, 1, 0, 0] B66) (by kernel_rfl) (by kernel_rfl) (by kernel_rfl)) (by kernel_rfl)) (c := sub [1, 1, 0] B66) (by kernel_rfl) (by kernel_rfl)) (s3) (c := sub [1, 1] B66) (by kernel_rfl) (by kernel_rfl)) (c := sub [1] B66) (by kernel_rfl) (by kernel_rfl)) (c := B66) (by kernel_rfl) (by kernel_rfl)
    exact ⟨_, _, _, .sl Ls.length 0 (edg d l f).length none (edg d l f).length 3, t, by simp, by simp only [resultsV, res66]; rfl, toRes_F (hF_get (get_end _ _))⟩
  · cases hq
end Go.Proofs.Ytlendaofkmhgmaa
end
section
open Go Go.HL
namespace Go.Proofs.Ytlendaofkmhgmaa
set_option maxRecDepth 100000
noncomputable def B65 : Code := Try.f65.body.getD .skip
abbrev env65 (v0 v1 v4 v5 v6 v7 v8 v9 v10 v11 : HV) : Env := [(0, v0), (1, v1), (4, v4), (5, v5), (6, v6), (7, v7), (8, v8), (9, v9), (10, v10), (11, v11)]
theorem jn_a_0 (es : List HV) (n : Nat)  : RunsTo Try.prog polW 65 (sub [0] B65) [(0, .imm .arg 3 es), (1, .i (n : Int))] [] .normal (polW.keys 65) (env65 (.imm .arg 3 es) (.i (n : Int)) (.imm .lit 3 []) .undef .undef .undef .undef .undef .undef .undef) [] :=
  RunsTo.hin 0 60 [] fun kf hk => ⟨_, by kernel_rfl, .nil⟩
theorem jn_b_0 (es : List HV) (n : Nat)  {y5 y6 y7 y8 y9 y10 y11 : HV}(g0 : makeV Try.prog false 23 (.i (n : Int)) (.i (n : Int)) [] = some (.sl 0 0 n (some n) n 1, [.arr 1 (List.replicate n (.i 0)) true 0])) : RunsTo Try.prog polW 65 (sub [1, 0] B65) (env65 (.imm .arg 3 es) (.i (n : Int)) (.imm .lit 3 []) y5 y6 y7 y8 y9 y10 y11) [] .normal (polW.keys 65) (env65 (.imm .arg 3 es) (.i (n : Int)) (.imm .lit 3 []) (.sl 0 0 n (some n) n 1) y6 y7 y8 y9 y10 y11) [.arr 1 (List.replicate n (.i 0)) true 0] :=
  RunsTo.hin 0 60 [⟨1, 1, .sl 0 0 n (some n) n 1, [.arr 1 (List.replicate n (.i 0)) true 0]⟩] fun kf hk => ⟨_, by kernel_rfl, (oC (g0) .nil)⟩
theorem jn_c_0 (es : List HV) (n : Nat) (gs : List HV) {y6 y7 y8 y9 y10 y11 : HV} : RunsTo Try.prog polW 65 (sub [1, 1, 0, 0] B65) (env65 (.imm .arg 3 es) (.i (n : Int)) (.imm .lit 3 []) (.sl 0 0 n (some n) n 1) y6 y7 y8 y9 y10 y11) [.arr 1 gs true 0] .normal (polW.keys 65) (env65 (.imm .arg 3 es) (.i (n : Int)) (.imm .lit 3 []) (.sl 0 0 n (some n) n 1) (.i 0) y7 y8 y9 y10 y11) [.arr 1 gs true 0] :=
  RunsTo.hin 0 60 [] fun kf hk => ⟨_, by kernel_rfl, .nil⟩
theorem jn_d_0 (es : List HV) (n : Nat) (gs : List HV) (i : Nat) {y7 y8 y9 y10 y11 : HV} {el0 : List HV} (g0 : (i : Int) < (n : Int)) (g1 : idxV Try.prog 23 (.sl 0 0 n (some n) n 1) (.i (i : Int)) = some (.ptr 0 i 0 n)) (g2 : storeV Try.prog [.arr 1 gs true 0] 3 (.ptr 0 i 0 n) (.i (i : Int)) = some [.arr 1 el0 true 0]) : RunsTo Try.prog polW 65 (sub [1, 1, 0, 1, 0, 0] B65) (env65 (.imm .arg 3 es) (.i (n : Int)) (.imm .lit 3 []) (.sl 0 0 n (some n) n 1) (.i (i : Int)) y7 y8 y9 y10 y11) [.arr 1 gs true 0] .normal (polW.keys 65) (env65 (.imm .arg 3 es) (.i (n : Int)) (.imm .lit 3 []) (.sl 0 0 n (some n) n 1) (.i (IntKind.i64.wrap ((i : Int) + 1))) y7 y8 y9 y10 y11) [.arr 1 el0 true 0] :=
  RunsTo.hin 0 60 [⟨3, 2, .bool true, [.arr 1 gs true 0]⟩, ⟨5, 3, .ptr 0 i 0 n, [.arr 1 gs true 0]⟩, ⟨5, 4, .tuple [], [.arr 1 el0 true 0]⟩] fun kf hk => ⟨_, by kernel_rfl, (oB [.arr 1 gs true 0] (decide_eq_true g0) (oP [.arr 1 gs true 0] g1 (oS g2 .nil)))⟩
theorem jn_d_1 (es : List HV) (n : Nat) (gs : List HV) (i : Nat) {y7 y8 y9 y10 y11 : HV}(g0 : ¬ ((i : Int) < (n : Int))) : RunsTo Try.prog polW 65 (sub [1, 1, 0, 1, 0, 0] B65) (env65 (.imm .arg 3 es) (.i (n : Int)) (.imm .lit 3 []) (.sl 0 0 n (some n) n 1) (.i (i : Int)) y7 y8 y9 y10 y11) [.arr 1 gs true 0] (.exit 0) (polW.keys 65) (env65 (.imm .arg 3 es) (.i (n : Int)) (.imm .lit 3 []) (.sl 0 0 n (some n) n 1) (.i (i : Int)) y7 y8 y9 y10 y11) [.arr 1 gs true 0] :=
  RunsTo.hin 0 60 [⟨3, 2, .bool false, [.arr 1 gs true 0]⟩] fun kf hk => ⟨_, by kernel_rfl, (oB [.arr 1 gs true 0] (decide_eq_false g0) .nil)⟩
theorem jn_e_0 (es : List HV) (n : Nat) (gs : List HV) {y6 y7 y8 y9 y10 y11 : HV} : RunsTo Try.prog polW 65 (sub [1, 1, 1, 0] B65) (env65 (.imm .arg 3 es) (.i (n : Int)) (.imm .lit 3 []) (.sl 0 0 n (some n) n 1) y6 y7 y8 y9 y10 y11) [.arr 1 gs true 0] .normal (polW.keys 65) (env65 (.imm .arg 3 es) (.i (n : Int)) (.imm .lit 3 []) (.sl 0 0 n (some n) n 1) y6 (.sl 1 0 0 none 0 3) y8 y9 y10 y11) [.arr 1 gs true 0, .arr 3 [] true 0] :=
  RunsTo.hin 0 60 [] fun kf hk => ⟨_, by kernel_rfl, .nil⟩
theorem jn_f_0 (es : List HV) (n : Nat) (gs : List HV) (m : Nat) (os : List HV) {y6 y8 y9 y10 y11 : HV} : RunsTo Try.prog polW 65 (sub [1, 1, 1, 1, 0, 0] B65) (env65 (.imm .arg 3 es) (.i (n : Int)) (.imm .lit 3 []) (.sl 0 0 n (some n) n 1) y6 (.sl 1 0 m none m 3) y8 y9 y10 y11) [.arr 1 gs true 0, .arr 3 os true 0] .normal (polW.keys 65) (env65 (.imm .arg 3 es) (.i (n : Int)) (.imm .lit 3 []) (.sl 0 0 n (some n) n 1) y6 (.sl 1 0 m none m 3) (.i 0) y9 y10 y11) [.arr 1 gs true 0, .arr 3 os true 0] :=
  RunsTo.hin 0 60 [] fun kf hk => ⟨_, by kernel_rfl, .nil⟩
theorem jn_g_0 (es : List HV) (n : Nat) (gs : List HV) (m : Nat) (os : List HV) (i : Nat) {y6 y9 y10 y11 : HV}(g0 : (i : Int) < (es.length : Int)) : RunsTo Try.prog polW 65 (sub [1, 1, 1, 1, 0, 1, 0, 0, 0] B65) (env65 (.imm .arg 3 es) (.i (n : Int)) (.imm .lit 3 []) (.sl 0 0 n (some n) n 1) y6 (.sl 1 0 m none m 3) (.i (i : Int)) y9 y10 y11) [.arr 1 gs true 0, .arr 3 os true 0] .normal (polW.keys 65) (env65 (.imm .arg 3 es) (.i (n : Int)) (.imm .lit 3 []) (.sl 0 0 n (some n) n 1) y6 (.sl 1 0 m none m 3) (.i (i : Int)) y9 y10 y11) [.arr 1 gs true 0, .arr 3 os true 0] :=
  RunsTo.hin 0 60 [⟨8, 3, .bool true, [.arr 1 gs true 0, .arr 3 os true 0]⟩] fun kf hk => ⟨_, by kernel_rfl, (oB [.arr 1 gs true 0, .arr 3 os true 0] (decide_eq_true g0) .nil)⟩
theorem jn_g_1 (es : List HV) (n : Nat) (gs : List HV) (m : Nat) (os : List HV) (i : Nat) {y6 y9 y10 y11 : HV}(g0 : ¬ ((i : Int) < (es.length : Int))) : RunsTo Try.prog polW 65 (sub [1, 1, 1, 1, 0, 1, 0, 0, 0] B65) (env65 (.imm .arg 3 es) (.i (n : Int)) (.imm .lit 3 []) (.sl 0 0 n (some n) n 1) y6 (.sl 1 0 m none m 3) (.i (i : Int)) y9 y10 y11) [.arr 1 gs true 0, .arr 3 os true 0] (.exit 2) (polW.keys 65) (env65 (.imm .arg 3 es) (.i (n : Int)) (.imm .lit 3 []) (.sl 0 0 n (some n) n 1) y6 (.sl 1 0 m none m 3) (.i (i : Int)) y9 y10 y11) [.arr 1 gs true 0, .arr 3 os true 0] :=
  RunsTo.hin 0 60 [⟨8, 3, .bool false, [.arr 1 gs true 0, .arr 3 os true 0]⟩] fun kf hk => ⟨_, by kernel_rfl, (oB [.arr 1 gs true 0, .arr 3 os true 0] (decide_eq_false g0) .nil)⟩
theorem jn_h_0 (es : List HV) (n : Nat) (gs : List HV) (m : Nat) (os : List HV) (i : Nat) (ec : Int) (ea eb : Nat) {y6 y9 y10 y11 : HV} {x0 : Int} {x1 : Int} (g0 : idxV Try.prog 70 (.imm .arg 3 es) (.i (i : Int)) = some (.vptr (.agg [.i (ea : Int), .i (eb : Int), .i ec]))) (g1 : idxV Try.prog 23 (.sl 0 0 n (some n) n 1) (.i (ea : Int)) = some (.ptr 0 ea 0 n)) (g2 : loadV Try.prog [.arr 1 gs true 0, .arr 3 os true 0] 3 (.ptr 0 ea 0 n) = some (.i x0)) (g3 : idxV Try.prog 70 (.imm .arg 3 es) (.i (i : Int)) = some (.vptr (.agg [.i (ea : Int), .i (eb : Int), .i ec]))) (g4 : idxV Try.prog 23 (.sl 0 0 n (some n) n 1) (.i (eb : Int)) = some (.ptr 0 eb 0 n)) (g5 : loadV Try.prog [.arr 1 gs true 0, .arr 3 os true 0] 3 (.ptr 0 eb 0 n) = some (.i x1)) : RunsTo Try.prog polW 65 (sub [1, 1, 1, 1, 0, 1, 0, 0, 1, 0, 0, 0] B65) (env65 (.imm .arg 3 es) (.i (n : Int)) (.imm .lit 3 []) (.sl 0 0 n (some n) n 1) y6 (.sl 1 0 m none m 3) (.i (i : Int)) y9 y10 y11) [.arr 1 gs true 0, .arr 3 os true 0] .normal (polW.keys 65) (env65 (.imm .arg 3 es) (.i (n : Int)) (.imm .lit 3 []) (.sl 0 0 n (some n) n 1) y6 (.sl 1 0 m none m 3) (.i (i : Int)) (.i x0) (.i x1) y11) [.arr 1 gs true 0, .arr 3 os true 0] :=
  RunsTo.hin 0 60 [⟨10, 3, .vptr (.agg [.i (ea : Int), .i (eb : Int), .i ec]), [.arr 1 gs true 0, .arr 3 os true 0]⟩, ⟨10, 6, .ptr 0 ea 0 n, [.arr 1 gs true 0, .arr 3 os true 0]⟩, ⟨10, 7, .i x0, [.arr 1 gs true 0, .arr 3 os true 0]⟩, ⟨10, 11, .vptr (.agg [.i (ea : Int), .i (eb : Int), .i ec]), [.arr 1 gs true 0, .arr 3 os true 0]⟩, ⟨10, 14, .ptr 0 eb 0 n, [.arr 1 gs true 0, .arr 3 os true 0]⟩, ⟨10, 15, .i x1, [.arr 1 gs true 0, .arr 3 os true 0]⟩] fun kf hk => ⟨_, by kernel_rfl, (oP [.arr 1 gs true 0, .arr 3 os true 0] g0 (oP [.arr 1 gs true 0, .arr 3 os true 0] g1 (oP [.arr 1 gs true 0, .arr 3 os true 0] g2 (oP [.arr 1 gs true 0, .arr 3 os true 0] g3 (oP [.arr 1 gs true 0, .arr 3 os true 0] g4 (oP [.arr 1 gs true 0, .arr 3 os true 0] g5 .nil))))))⟩
theorem jn_i_0 (es : List HV) (n : Nat) (gs : List HV) (m : Nat) (os : List HV) (i : Nat) (ec : Int) (ea eb : Nat) (o w : Int) {y6 y11 : HV}(g0 : w = o) : RunsTo Try.prog polW 65 (sub [1, 1, 1, 1, 0, 1, 0, 0, 1, 0, 0, 1, 0] B65) (env65 (.imm .arg 3 es) (.i (n : Int)) (.imm .lit 3 []) (.sl 0 0 n (some n) n 1) y6 (.sl 1 0 m none m 3) (.i (i : Int)) (.i w) (.i o) y11) [.arr 1 gs true 0, .arr 3 os true 0] (.exit 3) (polW.keys 65) (env65 (.imm .arg 3 es) (.i (n : Int)) (.imm .lit 3 []) (.sl 0 0 n (some n) n 1) y6 (.sl 1 0 m none m 3) (.i (i : Int)) (.i w) (.i o) y11) [.arr 1 gs true 0, .arr 3 os true 0] :=
  RunsTo.hin 0 60 [⟨11, 2, .bool true, [.arr 1 gs true 0, .arr 3 os true 0]⟩] fun kf hk => ⟨_, by kernel_rfl, (oB [.arr 1 gs true 0, .arr 3 os true 0] (decide_eq_true g0) .nil)⟩
theorem jn_i_1 (es : List HV) (n : Nat) (gs : List HV) (m : Nat) (os : List HV) (i : Nat) (ec : Int) (ea eb : Nat) (o w : Int) {y6 y11 : HV}(g0 : ¬ (w = o)) : RunsTo Try.prog polW 65 (sub [1, 1, 1, 1, 0, 1, 0, 0, 1, 0, 0, 1, 0] B65) (env65 (.imm .arg 3 es) (.i (n : Int)) (.imm .lit 3 []) (.sl 0 0 n (some n) n 1) y6 (.sl 1 0 m none m 3) (.i (i : Int)) (.i w) (.i o) y11) [.arr 1 gs true 0, .arr 3 os true 0] .normal (polW.keys 65) (env65 (.imm .arg 3 es) (.i (n : Int)) (.imm .lit 3 []) (.sl 0 0 n (some n) n 1) y6 (.sl 1 0 m none m 3) (.i (i : Int)) (.i w) (.i o) y11) [.arr 1 gs true 0, .arr 3 os true 0] :=
  RunsTo.hin 0 60 [⟨11, 2, .bool false, [.arr 1 gs true 0, .arr 3 os true 0]⟩] fun kf hk => ⟨_, by kernel_rfl, (oB [.arr 1 gs true 0, .arr 3 os true 0] (decide_eq_false g0) .nil)⟩
theorem jn_j_0 (es : List HV) (n : Nat) (gs : List HV) (m : Nat) (os : List HV) (i : Nat) (ec : Int) (ea eb : Nat) (o w : Int) {y6 y11 : HV}(g0 : idxV Try.prog 70 (.imm .arg 3 es) (.i (i : Int)) = some (.vptr (.agg [.i (ea : Int), .i (eb : Int), .i ec]))) (g1 : appV [.arr 1 gs true 0, .arr 3 os true 0] 3 24 (.sl 1 0 m none m 3) [.agg [.i (ea : Int), .i (eb : Int), .i ec]] = some (.sl 1 0 (m + 1) none (m + 1) 3, [.arr 1 gs true 0, .arr 3 (os ++ [.agg [.i (ea : Int), .i (eb : Int), .i ec]]) true 0])) : RunsTo Try.prog polW 65 (sub [1, 1, 1, 1, 0, 1, 0, 0, 1, 0, 0, 1, 1, 0] B65) (env65 (.imm .arg 3 es) (.i (n : Int)) (.imm .lit 3 []) (.sl 0 0 n (some n) n 1) y6 (.sl 1 0 m none m 3) (.i (i : Int)) (.i w) (.i o) y11) [.arr 1 gs true 0, .arr 3 os true 0] .normal (polW.keys 65) (env65 (.imm .arg 3 es) (.i (n : Int)) (.imm .lit 3 []) (.sl 0 0 n (some n) n 1) y6 (.sl 1 0 (m + 1) none (m + 1) 3) (.i (i : Int)) (.i w) (.i o) y11) [.arr 1 gs true 0, .arr 3 (os ++ [.agg [.i (ea : Int), .i (eb : Int), .i ec]]) true 0] :=
  RunsTo.hin 0 60 [⟨12, 3, .vptr (.agg [.i (ea : Int), .i (eb : Int), .i ec]), [.arr 1 gs true 0, .arr 3 os true 0]⟩, ⟨12, 6, .sl 1 0 (m + 1) none (m + 1) 3, [.arr 1 gs true 0, .arr 3 (os ++ [.agg [.i (ea : Int), .i (eb : Int), .i ec]]) true 0]⟩] fun kf hk => ⟨_, by kernel_rfl, (oP [.arr 1 gs true 0, .arr 3 os true 0] g0 (oC (g1) .nil))⟩
theorem jn_k_0 (es : List HV) (n : Nat) (gs : List HV) (m : Nat) (os : List HV) (i : Nat) (ec : Int) (ea eb : Nat) (o w : Int) {y6 y11 : HV} : RunsTo Try.prog polW 65 (sub [1, 1, 1, 1, 0, 1, 0, 0, 1, 0, 0, 1, 1, 1, 0] B65) (env65 (.imm .arg 3 es) (.i (n : Int)) (.imm .lit 3 []) (.sl 0 0 n (some n) n 1) y6 (.sl 1 0 m none m 3) (.i (i : Int)) (.i w) (.i o) y11) [.arr 1 gs true 0, .arr 3 os true 0] .normal (polW.keys 65) (env65 (.imm .arg 3 es) (.i (n : Int)) (.imm .lit 3 []) (.sl 0 0 n (some n) n 1) y6 (.sl 1 0 m none m 3) (.i (i : Int)) (.i w) (.i o) (.i 0)) [.arr 1 gs true 0, .arr 3 os true 0] :=
  RunsTo.hin 0 60 [] fun kf hk => ⟨_, by kernel_rfl, .nil⟩
theorem jn_l_0 (es : List HV) (n : Nat) (gs : List HV) (m : Nat) (os : List HV) (i : Nat) (ec : Int) (ea eb : Nat) (o w : Int) (j : Nat) {y6 : HV} {x0 : Int} {el0 : List HV} (g0 : (j : Int) < (n : Int)) (g1 : idxV Try.prog 23 (.sl 0 0 n (some n) n 1) (.i (j : Int)) = some (.ptr 0 j 0 n)) (g2 : loadV Try.prog [.arr 1 gs true 0, .arr 3 os true 0] 3 (.ptr 0 j 0 n) = some (.i x0)) (g3 : x0 = o) (g4 : idxV Try.prog 23 (.sl 0 0 n (some n) n 1) (.i (j : Int)) = some (.ptr 0 j 0 n)) (g5 : storeV Try.prog [.arr 1 gs true 0, .arr 3 os true 0] 3 (.ptr 0 j 0 n) (.i w) = some [.arr 1 el0 true 0, .arr 3 os true 0]) : RunsTo Try.prog polW 65 (sub [1, 1, 1, 1, 0, 1, 0, 0, 1, 0, 0, 1, 1, 1, 1, 0, 0] B65) (env65 (.imm .arg 3 es) (.i (n : Int)) (.imm .lit 3 []) (.sl 0 0 n (some n) n 1) y6 (.sl 1 0 m none m 3) (.i (i : Int)) (.i w) (.i o) (.i (j : Int))) [.arr 1 gs true 0, .arr 3 os true 0] .normal (polW.keys 65) (env65 (.imm .arg 3 es) (.i (n : Int)) (.imm .lit 3 []) (.sl 0 0 n (some n) n 1) y6 (.sl 1 0 m none m 3) (.i (i : Int)) (.i w) (.i o) (.i (IntKind.i64.wrap ((j : Int) + 1)))) [.arr 1 el0 true 0, .arr 3 os true 0] :=
  RunsTo.hin 0 60 [⟨14, 2, .bool true, [.arr 1 gs true 0, .arr 3 os true 0]⟩, ⟨16, 2, .ptr 0 j 0 n, [.arr 1 gs true 0, .arr 3 os true 0]⟩, ⟨16, 3, .i x0, [.arr 1 gs true 0, .arr 3 os true 0]⟩, ⟨16, 5, .bool true, [.arr 1 gs true 0, .arr 3 os true 0]⟩, ⟨17, 3, .ptr 0 j 0 n, [.arr 1 gs true 0, .arr 3 os true 0]⟩, ⟨17, 4, .tuple [], [.arr 1 el0 true 0, .arr 3 os true 0]⟩] fun kf hk => ⟨_, by kernel_rfl, (oB [.arr 1 gs true 0, .arr 3 os true 0] (decide_eq_true g0) (oP [.arr 1 gs true 0, .arr 3 os true 0] g1 (oP [.arr 1 gs true 0, .arr 3 os true 0] g2 (oB [.arr 1 gs true 0, .arr 3 os true 0] (decide_eq_true g3) (oP [.arr 1 gs true 0, .arr 3 os true 0] g4 (oS g5 .nil))))))⟩
theorem jn_l_1 (es : List HV) (n : Nat) (gs : List HV) (m : Nat) (os : List HV) (i : Nat) (ec : Int) (ea eb : Nat) (o w : Int) (j : Nat) {y6 : HV} {x0 : Int} (g0 : (j : Int) < (n : Int)) (g1 : idxV Try.prog 23 (.sl 0 0 n (some n) n 1) (.i (j : Int)) = some (.ptr 0 j 0 n)) (g2 : loadV Try.prog [.arr 1 gs true 0, .arr 3 os true 0] 3 (.ptr 0 j 0 n) = some (.i x0)) (g3 : ¬ (x0 = o)) : RunsTo Try.prog polW 65 (sub [1, 1, 1, 1, 0, 1, 0, 0, 1, 0, 0, 1, 1, 1, 1, 0, 0] B65) (env65 (.imm .arg 3 es) (.i (n : Int)) (.imm .lit 3 []) (.sl 0 0 n (some n) n 1) y6 (.sl 1 0 m none m 3) (.i (i : Int)) (.i w) (.i o) (.i (j : Int))) [.arr 1 gs true 0, .arr 3 os true 0] .normal (polW.keys 65) (env65 (.imm .arg 3 es) (.i (n : Int)) (.imm .lit 3 []) (.sl 0 0 n (some n) n 1) y6 (.sl 1 0 m none m 3) (.i (i : Int)) (.i w) (.i o) (.i (IntKind.i64.wrap ((j : Int) + 1)))) [.arr 1 gs true 0, .arr 3 os true 0] :=
  RunsTo.hin 0 60 [⟨14, 2, .bool true, [.arr 1 gs true 0, .arr 3 os true 0]⟩, ⟨16, 2, .ptr 0 j 0 n, [.arr 1 gs true 0, .arr 3 os true 0]⟩, ⟨16, 3, .i x0, [.arr 1 gs true 0, .arr 3 os true 0]⟩, ⟨16, 5, .bool false, [.arr 1 gs true 0, .arr 3 os true 0]⟩] fun kf hk => ⟨_, by kernel_rfl, (oB [.arr 1 gs true 0, .arr 3 os true 0] (decide_eq_true g0) (oP [.arr 1 gs true 0, .arr 3 os true 0] g1 (oP [.arr 1 gs true 0, .arr 3 os true 0] g2 (oB [.arr 1 gs true 0, .arr 3 os true 0] (decide_eq_false g3) .nil))))⟩
theorem jn_l_2 (es : List HV) (n : Nat) (gs : List HV) (m : Nat) (os : List HV) (i : Nat) (ec : Int) (ea eb : Nat) (o w : Int) (j : Nat) {y6 : HV}(g0 : ¬ ((j : Int) < (n : Int))) : RunsTo Try.prog polW 65 (sub [1, 1, 1, 1, 0, 1, 0, 0, 1, 0, 0, 1, 1, 1, 1, 0, 0] B65) (env65 (.imm .arg 3 es) (.i (n : Int)) (.imm .lit 3 []) (.sl 0 0 n (some n) n 1) y6 (.sl 1 0 m none m 3) (.i (i : Int)) (.i w) (.i o) (.i (j : Int))) [.arr 1 gs true 0, .arr 3 os true 0] (.exit 4) (polW.keys 65) (env65 (.imm .arg 3 es) (.i (n : Int)) (.imm .lit 3 []) (.sl 0 0 n (some n) n 1) y6 (.sl 1 0 m none m 3) (.i (i : Int)) (.i w) (.i o) (.i (j : Int))) [.arr 1 gs true 0, .arr 3 os true 0] :=
  RunsTo.hin 0 60 [⟨14, 2, .bool false, [.arr 1 gs true 0, .arr 3 os true 0]⟩] fun kf hk => ⟨_, by kernel_rfl, (oB [.arr 1 gs true 0, .arr 3 os true 0] (decide_eq_false g0) .nil)⟩
theorem jn_m_0 (es : List HV) (n : Nat) (gs : List HV) (m : Nat) (os : List HV) (i : Nat) {y6 y9 y10 y11 : HV} : RunsTo Try.prog polW 65 (sub [1, 1, 1, 1, 0, 1, 0, 0, 1, 1] B65) (env65 (.imm .arg 3 es) (.i (n : Int)) (.imm .lit 3 []) (.sl 0 0 n (some n) n 1) y6 (.sl 1 0 m none m 3) (.i (i : Int)) y9 y10 y11) [.arr 1 gs true 0, .arr 3 os true 0] .normal (polW.keys 65) (env65 (.imm .arg 3 es) (.i (n : Int)) (.imm .lit 3 []) (.sl 0 0 n (some n) n 1) y6 (.sl 1 0 m none m 3) (.i (IntKind.i64.wrap ((i : Int) + 1))) y9 y10 y11) [.arr 1 gs true 0, .arr 3 os true 0] :=
  RunsTo.hin 0 60 [] fun kf hk => ⟨_, by kernel_rfl, .nil⟩
theorem jn_n_0 (es : List HV) (n : Nat) (gs : List HV) (m : Nat) (os : List HV) {y6 y8 y9 y10 y11 : HV} : RunsTo Try.prog polW 65 (sub [1, 1, 1, 1, 1] B65) (env65 (.imm .arg 3 es) (.i (n : Int)) (.imm .lit 3 []) (.sl 0 0 n (some n) n 1) y6 (.sl 1 0 m none m 3) y8 y9 y10 y11) [.arr 1 gs true 0, .arr 3 os true 0] .ret (polW.keys 65) (env65 (.imm .arg 3 es) (.i (n : Int)) (.sl 1 0 m none m 3) (.sl 0 0 n (some n) n 1) y6 (.sl 1 0 m none m 3) y8 y9 y10 y11) [.arr 1 gs true 0, .arr 3 os true 0] :=
  RunsTo.hin 0 60 [] fun kf hk => ⟨_, by kernel_rfl, .nil⟩
end Go.Proofs.Ytlendaofkmhgmaa
end
section
open Go Go.HL Go.HL.So
namespace Go.Proofs.Ytlendaofkmhgmaa
theorem res65 : Try.f65.results.toList = [.tmp 4] := by kernel_rfl
def decF : HV → Option Ed
  | .agg [.int .i64 a, .int .i64 b, .int .i64 c] => some (c, a, b)
  | _ => none
theorem decF_enc (e : Ed) : decF (encF e) = some e := rfl
theorem decF_inv {v : HV} {e : Ed} (h : decF v = some e) : v = encF e := by
  unfold decF at h
  split at h
  · cases h; rfl
  · cases h
open Classical in
noncomputable def joined65 : List HV → Option HV
  | [.imm .arg 3 es, .int .i64 n] => (match mapO decF es with | some l => if (0 ≤ n ∧ n ≤ 1000) ∧ EIn n.toNat l ∧ l.length ≤ 500 then some (.own 3 ((krD l (iota n.toNat)).map encF)) else none | none => none)
  | _ => none
section
variable {es : List Ed} {n : Nat}
abbrev jnE (es : List Ed) (n m : Nat) (v6 v8 v9 v10 v11 : HV) : Env := (env65 (.imm .arg 3 (es.map encF)) (.int .i64 (n : Int)) (.imm .lit 3 []) (.sl 0 0 n (some n) n 1) v6 (.sl 1 0 m none m 3) v8 v9 v10 v11)
end
section
variable {es : List Ed} {n : Nat}
abbrev jnH (g : List Int) (os : List Ed) : Heap := [bI g, bF os]
end
section
variable {es : List Ed} {n : Nat}
theorem gef {k : Nat} (hk : k < es.length) : idxV Try.prog 70 (.imm .arg 3 (es.map encF)) (.int .i64 (k : Int)) = some (.vptr (encF (at_ es k))) := by
  have : (if (0 : Int) ≤ (k : Int) ∧ (k : Int) < ((es.map encF).length : Int) ∧ tySize Try.prog 73 = some 3 then (match (es.map encF)[((k : Int)).toNat]? with | some v => some (HV.vptr v) | none => none) else none) = some (.vptr (encF (at_ es k))) := by
    rw [if_pos ⟨by omega, by rw [List.length_map]; omega, s73⟩, Int.toNat_natCast, List.getElem?_map, at_get hk]
    rfl
  simp only [idxV, u70]
  exact this
end
section
variable {es : List Ed} {n : Nat}
theorem jn_in {i ea eb : Nat} {ec o w : Int} {os : List Ed} (hN : n ≤ 1000) : ∀ k j (g : List Int), g.length = n → j + k = n →
    RunsTo Try.prog polW 65 (sub [1, 1, 1, 1, 0, 1, 0, 0, 1, 0, 0, 1, 1, 1, 1, 0] B65) (jnE es n os.length .undef (.int .i64 (i : Int)) (.int .i64 w) (.int .i64 o) (.int .i64 (j : Int))) (jnH g os) (.exit 4) (polW.keys 65)
      (jnE es n os.length .undef (.int .i64 (i : Int)) (.int .i64 w) (.int .i64 o) (.int .i64 (n : Int))) (jnH (rlb o w k j g) os) := by
  intro k
  induction k with
  | zero =>
    intro j g hg hj
    have : j = n := by omega
    subst this
    exact RunsTo.loop_out ((jn_l_2 (es.map encF) j (g.map encI) os.length (os.map encF) i ec ea eb o w j (y6 := .undef) (by omega))) (by simp) (by kernel_rfl) (by kernel_rfl)
  | succ k ih =>
    intro j g hg hj
    by_cases c : g.getD j 0 = o
    · have s := jn_l_0 (es.map encF) n (g.map encI) os.length (os.map encF) i ec ea eb o w j (y6 := .undef) (by omega) (ixo (by omega)) (ldg (H := jnH g os) (g := g) rfl hg (by omega)) c (ixo (by omega)) (stg (H := jnH g os) (b := 0) (k := j) rfl hg (by omega) w)
      rw [wrap_succ (by omega)] at s
      have r := ih (j + 1) (g.set j w) (by simpa using hg) (by omega)
      rw [rlb, if_pos c]
      exact RunsTo.loop (s) (by kernel_rfl) (gc_eq _ rfl) (r) rfl (by kernel_rfl) (by kernel_rfl)
    · have s := jn_l_1 (es.map encF) n (g.map encI) os.length (os.map encF) i ec ea eb o w j (y6 := .undef) (by omega) (ixo (by omega)) (ldg (H := jnH g os) (g := g) rfl hg (by omega)) c
      rw [wrap_succ (by omega)] at s
      have r := ih (j + 1) g hg (by omega)
      rw [rlb, if_neg c]
      exact RunsTo.loop (s) (by kernel_rfl) (gc_eq _ rfl) (r) rfl (by kernel_rfl) (by kernel_rfl)
end
section
variable {es : List Ed} {n : Nat}
theorem jn_out (hN : n ≤ 1000) (he : EIn n es) (hq : es.length ≤ 500) : ∀ k i (os : List Ed) (g : List Int), i + k = es.length → g.length = n → os.length + k ≤ 500 →
    ∃ g' y8 y9 y10 y11, RunsTo Try.prog polW 65 (sub [1, 1, 1, 1, 0, 1, 0] B65) (jnE es n os.length .undef (.int .i64 (i : Int)) .undef .undef .undef) (jnH g os) (.exit 2) (polW.keys 65)
      (jnE es n (os ++ krD (es.drop i) g).length .undef y8 y9 y10 y11) (jnH g' (os ++ krD (es.drop i) g)) := by
  intro k
  induction k with
  | zero =>
    intro i os g hi hg ho
    have : i = es.length := by omega
    subst this
    rw [List.drop_length, krD, List.append_nil]
    have s := jn_g_1 (es.map encF) n (g.map encI) os.length (os.map encF) es.length (y6 := .undef) (y9 := .undef) (y10 := .undef) (y11 := .undef) (by simp)
    exact ⟨g, _, _, _, _, RunsTo.loop_out (RunsTo.seq_out (s) (by simp) (c := sub [1, 1, 1, 1, 0, 1, 0, 0] B65) (b := sub [1, 1, 1, 1, 0, 1, 0, 0, 1] B65) (by kernel_rfl)) (by simp) (by kernel_rfl) (by kernel_rfl)⟩
  | succ k ih =>
    intro i os g hi hg ho
    have hdrop : es.drop i = at_ es i :: es.drop (i + 1) := by
      rw [List.drop_eq_getElem_cons (by omega)]
      simp [at_, List.getD, List.getElem?_eq_getElem (show i < es.length by omega)]
    have hmem : at_ es i ∈ es := by
      have : at_ es i = es[i] := by simp [at_, List.getD, List.getElem?_eq_getElem (show i < es.length by omega)]
      rw [this]; exact List.getElem_mem _
    obtain ⟨ec, ea, eb, hae, ha, hb⟩ : ∃ (ec : Int) (ea eb : Nat), at_ es i = mkQ ec ea eb ∧ ea < n ∧ eb < n := by
      obtain ⟨⟨h1, h2⟩, h3, h4⟩ := he _ hmem
      refine ⟨(at_ es i).1, (at_ es i).2.1.toNat, (at_ es i).2.2.toNat, ?_, h2, h4⟩
      show at_ es i = ((at_ es i).1, _, _)
      rw [Int.toNat_of_nonneg h1, Int.toNat_of_nonneg h3]
    rw [hdrop, hae, krD]
    simp only [Int.toNat_natCast]
    have hx := gef (es := es) (k := i) (by omega)
    rw [hae] at hx
    have s := jn_g_0 (es.map encF) n (g.map encI) os.length (os.map encF) i (y6 := .undef) (y9 := .undef) (y10 := .undef) (y11 := .undef) (by rw [List.length_map]; omega)
    have s2 := jn_h_0 (es.map encF) n (g.map encI) os.length (os.map encF) i ec ea eb (y6 := .undef) (y9 := .undef) (y10 := .undef) (y11 := .undef) hx (ixo ha) (ldg (H := jnH g os) (g := g) rfl hg ha) hx (ixo hb) (ldg (H := jnH g os) (g := g) rfl hg hb)
    by_cases c : g.getD ea 0 = g.getD eb 0
    · rw [if_pos c]
      have s3 := jn_i_0 (es.map encF) n (g.map encI) os.length (os.map encF) i ec ea eb (g.getD eb 0) (g.getD ea 0) (y6 := .undef) (y11 := .undef) c
      have s4 := jn_m_0 (es.map encF) n (g.map encI) os.length (os.map encF) i (y6 := .undef) (y9 := .int .i64 (g.getD ea 0)) (y10 := .int .i64 (g.getD eb 0)) (y11 := .undef)
      rw [wrap_succ (by omega)] at s4
      have st := RunsTo.seq (s) (RunsTo.seq (RunsTo.block_exit (c := sub [1, 1, 1, 1, 0, 1, 0, 0, 1, 0] B65) (RunsTo.seq (s2) (RunsTo.seq_out (s3) (by simp) (c := sub [1, 1, 1, 1, 0, 1, 0, 0, 1, 0, 0, 1] B65) (b := sub [1, 1, 1, 1, 0, 1, 0, 0, 1, 0, 0, 1, 1] B65) (by kernel_rfl)) (c := sub [1, 1, 1, 1, 0, 1, 0, 0, 1, 0, 0] B65) (by kernel_rfl) (by kernel_rfl)) (by kernel_rfl)) (s4) (c := sub [1, 1, 1, 1, 0, 1, 0, 0, 1] B65) (by kernel_rfl) (by kernel_rfl)) (c := sub [1, 1, 1, 1, 0, 1, 0, 0] B65) (by kernel_rfl) (by kernel_rfl)
      obtain ⟨g', y8, y9, y10, y11, r⟩ := ih (i + 1) os g (by omega) hg (by omega)
      exact ⟨g', y8, y9, y10, y11, RunsTo.loop (st) (by kernel_rfl) (gc_eq _ rfl) (r) rfl (by kernel_rfl) (by kernel_rfl)⟩
    · rw [if_neg c]
      have s3 := jn_i_1 (es.map encF) n (g.map encI) os.length (os.map encF) i ec ea eb (g.getD eb 0) (g.getD ea 0) (y6 := .undef) (y11 := .undef) c
      have s5 := jn_j_0 (es.map encF) n (g.map encI) os.length (os.map encF) i ec ea eb (g.getD eb 0) (g.getD ea 0) (y6 := .undef) (y11 := .undef) hx (by
        have := app_f1 (H := jnH g os) (b := 1) (o := os) rfl (by omega) (mkQ ec ea eb)
        simp only [bF, List.map_append, List.map_cons, List.map_nil] at this
        exact this)
      have hs : os.map encF ++ [HV.agg [.int .i64 (ea : Int), .int .i64 (eb : Int), .int .i64 ec]] = (os ++ [mkQ ec ea eb]).map encF := by simp [encF]
      rw [hs] at s5
      have s6 := jn_k_0 (es.map encF) n (g.map encI) (os.length + 1) ((os ++ [mkQ ec ea eb]).map encF) i ec ea eb (g.getD eb 0) (g.getD ea 0) (y6 := .undef) (y11 := .undef)
      have r0 := jn_in (es := es) (i := i) (ea := ea) (eb := eb) (ec := ec) (o := g.getD eb 0) (w := g.getD ea 0) (os := os ++ [mkQ ec ea eb]) hN n 0 g hg (by omega)
      rw [show (os ++ [mkQ ec ea eb]).length = os.length + 1 by simp] at r0
      have s4 := jn_m_0 (es.map encF) n ((rlb (g.getD eb 0) (g.getD ea 0) n 0 g).map encI) (os.length + 1) ((os ++ [mkQ ec ea eb]).map encF) i (y6 := .undef) (y9 := .int .i64 (g.getD ea 0)) (y10 := .int .i64 (g.getD eb 0)) (y11 := .int .i64 (n : Int))
      rw [wrap_succ (by omega)] at s4
      have st := RunsTo.seq (s) (RunsTo.seq (RunsTo.block_normal (i := 3) (c := sub [1, 1, 1, 1, 0, 1, 0, 0, 1, 0] B65) (RunsTo.seq (s2) (RunsTo.seq (s3) (RunsTo.seq (s5) (RunsTo.seq (s6) (RunsTo.block_exit (c := sub [1, 1, 1, 1, 0, 1, 0, 0, 1, 0, 0, 1, 1, 1, 1] B65) (RunsTo.loop_in (e0 := (jnE es n (os.length + 1) .undef (.int .i64 (i : Int)) (.int .i64 (g.getD ea 0)) (.int .i64 (g.getD eb 0)) (.int .i64 ((0 : Nat) : Int)))) r0 (b := sub [1, 1, 1, 1, 0, 1, 0, 0, 1, 0, 0, 1, 1, 1, 1, 0, 0] B65) (by kernel_rfl) (by kernel_rfl) (by kernel_rfl)) (by kernel_rfl)) (c := sub [1, 1, 1, 1, 0, 1, 0, 0, 1, 0, 0, 1, 1, 1] B65) (by kernel_rfl) (by kernel_rfl)) (c := sub [1, 1, 1, 1, 0, 1, 0, 0, 1, 0, 0, 1, 1] B65) (by kernel_rfl) (by kernel_rfl)) (c := sub [1, 1, 1, 1, 0, 1, 0, 0, 1, 0, 0, 1] B65) (by kernel_rfl) (by kernel_rfl)) (c := sub [1, 1, 1, 1, 0, 1, 0, 0, 1, 0, 0] B65) (by kernel_rfl) (by kernel_rfl)) (by kernel_rfl)) (s4) (c := sub [1, 1, 1, 1, 0, 1, 0, 0, 1] B65) (by kernel_rfl) (by kernel_rfl)) (c := sub [1, 1, 1, 1, 0, 1, 0, 0] B65) (by kernel_rfl) (by kernel_rfl)
      have hg2 : (rlb (g.getD eb 0) (g.getD ea 0) n 0 g).length = n := by rw [rlb_len, hg]
      obtain ⟨g', y8, y9, y10, y11, r⟩ := ih (i + 1) (os ++ [mkQ ec ea eb]) _ (by omega) hg2 (by simp; omega)
      rw [List.append_assoc] at r
      rw [hg]
      rw [show (os ++ [mkQ ec ea eb]).length = os.length + 1 by simp] at r
      exact ⟨g', y8, y9, y10, y11, RunsTo.loop (st) (by kernel_rfl) (gc_eq _ rfl) (r) rfl (by kernel_rfl) (by kernel_rfl)⟩
end
section
variable {es : List Ed} {n : Nat}
theorem jn_init (hN : n ≤ 1000) : ∀ k i (g : List Int), i + k = n → g.length = n → (∀ x, x < i → g.getD x 0 = (x : Int)) →
    RunsTo Try.prog polW 65 (sub [1, 1, 0, 1, 0] B65) (env65 (.imm .arg 3 (es.map encF)) (.int .i64 (n : Int)) (.imm .lit 3 []) (.sl 0 0 n (some n) n 1) (.int .i64 (i : Int)) .undef .undef .undef .undef .undef) [bI g] (.exit 0) (polW.keys 65)
      (env65 (.imm .arg 3 (es.map encF)) (.int .i64 (n : Int)) (.imm .lit 3 []) (.sl 0 0 n (some n) n 1) (.int .i64 (n : Int)) .undef .undef .undef .undef .undef) [bI (iota n)] := by
  intro k
  induction k with
  | zero =>
    intro i g hi hg hx
    have : i = n := by omega
    subst this
    have e : g = iota i := by
      apply List.ext_getElem?
      intro x
      by_cases hxl : x < i
      · have h1 := hx x hxl
        have h2 := iota_at hxl
        rw [List.getElem?_eq_getElem (by omega), List.getElem?_eq_getElem (by rw [iota_len]; exact hxl)]
        simp only [List.getD, List.getElem?_eq_getElem (show x < g.length by omega), Option.getD_some] at h1
        simp only [List.getD, List.getElem?_eq_getElem (show x < (iota i).length by rw [iota_len]; exact hxl), Option.getD_some] at h2
        rw [h1, h2]
      · rw [List.getElem?_eq_none (by omega), List.getElem?_eq_none (by rw [iota_len]; omega)]
    rw [e]
    exact RunsTo.loop_out ((jn_d_1 (es.map encF) i ((iota i).map encI) i (y7 := .undef) (y8 := .undef) (y9 := .undef) (y10 := .undef) (y11 := .undef) (by omega))) (by simp) (by kernel_rfl) (by kernel_rfl)
  | succ k ih =>
    intro i g hi hg hx
    have s := jn_d_0 (es.map encF) n (g.map encI) i (y7 := .undef) (y8 := .undef) (y9 := .undef) (y10 := .undef) (y11 := .undef) (by omega) (ixo (by omega)) (stg (H := [bI g]) (b := 0) (k := i) rfl hg (by omega) (i : Int))
    rw [wrap_succ (by omega)] at s
    have r := ih (i + 1) (g.set i (i : Int)) (by omega) (by simpa using hg) (fun x hx2 => by
      rw [getDs _ _ _ _ (by omega)]
      split
      · rename_i e; rw [e]
      · exact hx x (by omega))
    exact RunsTo.loop (s) (by kernel_rfl) (gc_eq _ rfl) (r) rfl (by kernel_rfl) (by kernel_rfl)
end
theorem joined_ok : PrimOk Try.prog 65 joined65 := by
  refine primOk_pure (pol := polW) (fn := Try.f65) (cd := B65) follows_mixed soundW (by kernel_rfl) (by kernel_rfl) (fnok polW.prim _ _ (by kernel_rfl)) (by kernel_rfl) ?_
  intro args res h
  unfold joined65 at h
  split at h
  case h_2 => cases h
  rename_i ev n0
  split at h
  case h_2 => cases h
  rename_i es hes
  have hev : ev = es.map encF := mapO_inv (fun _ _ h => decF_inv h) hes
  subst hev
  split at h
  case isFalse => cases h
  rename_i hc
  obtain ⟨hn0, he, hq⟩ := hc
  cases h
  obtain ⟨n, rfl⟩ : ∃ x : Nat, n0 = (x : Int) := ⟨n0.toNat, by omega⟩
  rw [Int.toNat_natCast] at he ⊢
  have s0 := jn_a_0 (es.map encF) n
  have mk := makeV_ok (P := Try.prog) (H := []) (t := 23) (e := 3) (k := 1) (bt := 8) (zv := .int .i64 0) (n := (n : Int)) u23 (by kernel_rfl) (by simp [cellsOf, cellV]) (by simp [cellsOf]) (by omega) (by omega) (by simp only [roomMax]; omega)
  rw [Int.toNat_natCast] at mk
  have hrep : List.replicate n (HV.int .i64 0) = (List.replicate n (0 : Int)).map encI := by simp [encI]
  have s1 := jn_b_0 (es.map encF) n (y5 := .undef) (y6 := .undef) (y7 := .undef) (y8 := .undef) (y9 := .undef) (y10 := .undef) (y11 := .undef) mk
  rw [hrep] at s1
  have s2 := jn_c_0 (es.map encF) n ((List.replicate n (0 : Int)).map encI) (y6 := .undef) (y7 := .undef) (y8 := .undef) (y9 := .undef) (y10 := .undef) (y11 := .undef)
  have r1 := jn_init (es := es) (n := n) (by omega) n 0 (List.replicate n 0) (by omega) (by simp) (fun x hx => absurd hx (by omega))
  have s3 := jn_e_0 (es.map encF) n ((iota n).map encI) (y6 := .int .i64 (n : Int)) (y7 := .undef) (y8 := .undef) (y9 := .undef) (y10 := .undef) (y11 := .undef)
  have s4 := jn_f_0 (es.map encF) n ((iota n).map encI) 0 [] (y6 := .int .i64 (n : Int)) (y8 := .undef) (y9 := .undef) (y10 := .undef) (y11 := .undef)
  obtain ⟨g', y8, y9, y10, y11, r2⟩ := jn_out (es := es) (n := n) (by omega) he hq es.length 0 [] (iota n) (by omega) (iota_len n) (by simp; omega)
  rw [List.nil_append, List.drop_zero] at r2
  have s5 := jn_n_0 (es.map encF) n (g'.map encI) (krD es (iota n)).length ((krD es (iota n)).map encF) (y6 := .undef) (y8 := y8) (y9 := y9) (y10 := y10) (y11 := y11)
  have t := RunsTo.seq (s0) (RunsTo.seq (s1) (RunsTo.seq (RunsTo.seq (s2) (RunsTo.block_exit (c := sub [1, 1, 0, 1] B65) (RunsTo.loop_in (e0 := (env65 (.imm .arg 3 (es.map encF)) (.int .i64 (n : Int)) (.imm .lit 3 []) (.sl 0 0 n (some n) n 1) (.int .i64 ((0 : Nat) : Int)) .undef .undef .undef .undef .undef)) r1 (b := sub [1, 1, 0, 1, 0, 0] B65) (by kernel_rfl) (by kernel_rfl) (by kernel_rfl)) (by kernel_rfl)) (c := sub [1, 1, 0] B65) (by kernel_rfl) (by kernel_rfl)) (RunsTo.seq (s3) (RunsTo.seq (RunsTo.seq (s4) (RunsTo.block_exit (c := sub [1, 1, 1, 1, 0, 1] B65) (RunsTo.loop_in (e0 := (jnE es n 0 (.int .i64 (n : Int)) (.int .i64 ((0 : Nat) : Int)) .undef .undef .undef)) r2 (b := sub [1, 1, 1, 1, 0, 1, 0, 0] B65) (by kernel_rfl) (by kernel_rfl) (by kernel_rfl)) (by kernel_rfl)) (c := sub [1, 1, 1, 1, 0] B65) (by kernel_rfl) (by kernel_rfl)) (s5) (c := sub [1, 1, 1, 1] B65) (by kernel_rfl) (by kernel_rfl)) (c := sub [1, 1, 1] B65) (by kernel_rfl) (by kernel_rfl)) (c := sub [1, 1] B65) (by kernel_rfl) (by kernel_rfl)) (c := sub [1] B65) (by kernel_rfl) (by kernel_rfl)) (c := B65) (by kernel_rfl) (by kernel_rfl)
  exact ⟨_, _, _, .sl 1 0 (krD es (iota n)).length none (krD es (iota n)).length 3, t, by simp, by simp only [resultsV, res65]; rfl, toRes_F rfl⟩
end Go.Proofs.Ytlendaofkmhgmaa
end
section
open Go Go.HL Go.HL.So
namespace Go.Proofs.Ytlendaofkmhgmaa
noncomputable def polCh : Pol := { pol with prim := fun g => if g == 66 then some edges66 else if g == 65 then some joined65 else none }
theorem soundCh (n : Nat) : CallSound Try.prog (callN Try.prog polCh n) := sound_prim _ (fun g f h => by
  split at h
  · rename_i hg; cases h; rw [eq_of_beq hg]; exact redges_ok
  split at h
  · rename_i hg; cases h; rw [eq_of_beq hg]; exact joined_ok
  · cases h) n
end Go.Proofs.Ytlendaofkmhgmaa
end
section
open Go Go.HL
namespace Go.Proofs.Ytlendaofkmhgmaa
set_option maxRecDepth 100000
noncomputable def B51 : Code := Try.f51.body.getD .skip
abbrev env51 (v0 v1 v4 v5 v6 v7 v8 : HV) : Env := [(0, v0), (1, v1), (4, v4), (5, v5), (6, v6), (7, v7), (8, v8)]
theorem ch_a_0 (rw la : List HV)  : RunsTo Try.prog polCh 51 (sub [0] B51) [(0, .imm .arg 1 rw), (1, .imm .arg 1 la)] [] .normal (polCh.keys 51) (env51 (.imm .arg 1 rw) (.imm .arg 1 la) (.imm .lit 3 []) .undef .undef .undef .undef) [] :=
  RunsTo.hin 0 60 [] fun kf hk => ⟨_, by kernel_rfl, .nil⟩
theorem ch_b_0 (rw la : List HV)  {y5 y6 y7 y8 : HV} {p : Nat} {us : List HV} {m : Nat} {cs : List HV} (g0 : ∀ kf, callN Try.prog polCh (kf + 1) 66 [.imm .arg 1 rw, .imm .arg 1 la, .i 1] [] = some (.sl 0 0 p none p 3, [.arr 3 us true 0])) (g1 : ∀ kf, callN Try.prog polCh (kf + 1) 65 [.sl 0 0 p none p 3, .i (rw.length : Int)] [.arr 3 us true 0] = some (.sl 1 0 m none m 3, [.arr 3 us true 0, .arr 3 cs true 0])) : RunsTo Try.prog polCh 51 (sub [1, 0] B51) (env51 (.imm .arg 1 rw) (.imm .arg 1 la) (.imm .lit 3 []) y5 y6 y7 y8) [] .normal (polCh.keys 51) (env51 (.imm .arg 1 rw) (.imm .arg 1 la) (.imm .lit 3 []) (.sl 1 0 m none m 3) y6 y7 y8) [.arr 3 us true 0, .arr 3 cs true 0] :=
  RunsTo.hin 0 60 [⟨1, 2, .sl 0 0 p none p 3, [.arr 3 us true 0]⟩, ⟨1, 5, .sl 1 0 m none m 3, [.arr 3 us true 0, .arr 3 cs true 0]⟩] fun kf hk => ⟨_, by kernel_rfl, (oC (g0 kf) (oC (g1 kf) .nil))⟩
theorem ch_c_0 (rw la : List HV) (us : List HV) (m : Nat) (cs : List HV) {y6 y7 y8 : HV} {q : Nat} {es : List HV} (g0 : ∀ kf, callN Try.prog polCh (kf + 1) 66 [.imm .arg 1 rw, .imm .arg 1 la, .i 0] [.arr 3 us true 0, .arr 3 cs true 0] = some (.sl 2 0 q none q 3, [.arr 3 us true 0, .arr 3 cs true 0, .arr 3 es true 0])) : RunsTo Try.prog polCh 51 (sub [1, 1, 0] B51) (env51 (.imm .arg 1 rw) (.imm .arg 1 la) (.imm .lit 3 []) (.sl 1 0 m none m 3) y6 y7 y8) [.arr 3 us true 0, .arr 3 cs true 0] .normal (polCh.keys 51) (env51 (.imm .arg 1 rw) (.imm .arg 1 la) (.imm .lit 3 []) (.sl 1 0 m none m 3) (.sl 2 0 q none q 3) y7 y8) [.arr 3 us true 0, .arr 3 cs true 0, .arr 3 es true 0] :=
  RunsTo.hin 0 60 [⟨2, 2, .sl 2 0 q none q 3, [.arr 3 us true 0, .arr 3 cs true 0, .arr 3 es true 0]⟩] fun kf hk => ⟨_, by kernel_rfl, (oC (g0 kf) .nil)⟩
theorem ch_d_0 (rw la : List HV) (us : List HV) (m : Nat) (cs : List HV) (q : Nat) (es : List HV) {y7 y8 : HV} : RunsTo Try.prog polCh 51 (sub [1, 1, 1, 0] B51) (env51 (.imm .arg 1 rw) (.imm .arg 1 la) (.imm .lit 3 []) (.sl 1 0 m none m 3) (.sl 2 0 q none q 3) y7 y8) [.arr 3 us true 0, .arr 3 cs true 0, .arr 3 es true 0] .normal (polCh.keys 51) (env51 (.imm .arg 1 rw) (.imm .arg 1 la) (.imm .lit 3 []) (.sl 1 0 m none m 3) (.sl 2 0 q none q 3) (.i 0) y8) [.arr 3 us true 0, .arr 3 cs true 0, .arr 3 es true 0] :=
  RunsTo.hin 0 60 [] fun kf hk => ⟨_, by kernel_rfl, .nil⟩
theorem ch_e_0 (rw la : List HV) (us : List HV) (m : Nat) (cs : List HV) (q : Nat) (es : List HV) {y8 : HV} : RunsTo Try.prog polCh 51 (sub [1, 1, 1, 1, 0, 0] B51) (env51 (.imm .arg 1 rw) (.imm .arg 1 la) (.imm .lit 3 []) (.sl 1 0 m none m 3) (.sl 2 0 q none q 3) (.i 0) y8) [.arr 3 us true 0, .arr 3 cs true 0, .arr 3 es true 0] .normal (polCh.keys 51) (env51 (.imm .arg 1 rw) (.imm .arg 1 la) (.imm .lit 3 []) (.sl 1 0 m none m 3) (.sl 2 0 q none q 3) (.i 0) (.i 0)) [.arr 3 us true 0, .arr 3 cs true 0, .arr 3 es true 0] :=
  RunsTo.hin 0 60 [] fun kf hk => ⟨_, by kernel_rfl, .nil⟩
theorem ch_f_0 (rw la : List HV) (us : List HV) (m : Nat) (cs : List HV) (q : Nat) (es : List HV) (w i : Nat) (ec : Int) (ea eb : Nat)(g0 : (i : Int) < (q : Int)) (g1 : (w : Int) < 2) (g2 : idxV Try.prog 70 (.sl 2 0 q none q 3) (.i (i : Int)) = some (.ptr 2 i 0 q)) (g3 : loadV Try.prog [.arr 3 us true 0, .arr 3 cs true 0, .arr 3 es true 0] 3 (.ptr 2 i 0 q) = some (.i (ea : Int))) (g4 : (ea : Int) = 0) (g5 : idxV Try.prog 70 (.sl 2 0 q none q 3) (.i (i : Int)) = some (.ptr 2 i 0 q)) (g6 : loadV Try.prog [.arr 3 us true 0, .arr 3 cs true 0, .arr 3 es true 0] 73 (.ptr 2 i 0 q) = some (.agg [.i (ea : Int), .i (eb : Int), .i ec])) (g7 : appV [.arr 3 us true 0, .arr 3 cs true 0, .arr 3 es true 0] 3 24 (.sl 1 0 m none m 3) [.agg [.i (ea : Int), .i (eb : Int), .i ec]] = some (.sl 1 0 (m + 1) none (m + 1) 3, [.arr 3 us true 0, .arr 3 (cs ++ [.agg [.i (ea : Int), .i (eb : Int), .i ec]]) true 0, .arr 3 es true 0])) : RunsTo Try.prog polCh 51 (sub [1, 1, 1, 1, 0, 1, 0, 0] B51) (env51 (.imm .arg 1 rw) (.imm .arg 1 la) (.imm .lit 3 []) (.sl 1 0 m none m 3) (.sl 2 0 q none q 3) (.i (w : Int)) (.i (i : Int))) [.arr 3 us true 0, .arr 3 cs true 0, .arr 3 es true 0] .normal (polCh.keys 51) (env51 (.imm .arg 1 rw) (.imm .arg 1 la) (.imm .lit 3 []) (.sl 1 0 (m + 1) none (m + 1) 3) (.sl 2 0 q none q 3) (.i (IntKind.i64.wrap ((w : Int) + 1))) (.i (IntKind.i64.wrap ((i : Int) + 1)))) [.arr 3 us true 0, .arr 3 (cs ++ [.agg [.i (ea : Int), .i (eb : Int), .i ec]]) true 0, .arr 3 es true 0] :=
  RunsTo.hin 0 60 [⟨5, 3, .bool true, [.arr 3 us true 0, .arr 3 cs true 0, .arr 3 es true 0]⟩, ⟨5, 6, .bool true, [.arr 3 us true 0, .arr 3 cs true 0, .arr 3 es true 0]⟩, ⟨7, 2, .ptr 2 i 0 q, [.arr 3 us true 0, .arr 3 cs true 0, .arr 3 es true 0]⟩, ⟨7, 4, .i (ea : Int), [.arr 3 us true 0, .arr 3 cs true 0, .arr 3 es true 0]⟩, ⟨7, 5, .bool true, [.arr 3 us true 0, .arr 3 cs true 0, .arr 3 es true 0]⟩, ⟨8, 3, .ptr 2 i 0 q, [.arr 3 us true 0, .arr 3 cs true 0, .arr 3 es true 0]⟩, ⟨8, 4, .agg [.i (ea : Int), .i (eb : Int), .i ec], [.arr 3 us true 0, .arr 3 cs true 0, .arr 3 es true 0]⟩, ⟨8, 6, .sl 1 0 (m + 1) none (m + 1) 3, [.arr 3 us true 0, .arr 3 (cs ++ [.agg [.i (ea : Int), .i (eb : Int), .i ec]]) true 0, .arr 3 es true 0]⟩] fun kf hk => ⟨_, by kernel_rfl, (oB [.arr 3 us true 0, .arr 3 cs true 0, .arr 3 es true 0] (decide_eq_true g0) (oB [.arr 3 us true 0, .arr 3 cs true 0, .arr 3 es true 0] (decide_eq_true g1) (oP [.arr 3 us true 0, .arr 3 cs true 0, .arr 3 es true 0] g2 (oP [.arr 3 us true 0, .arr 3 cs true 0, .arr 3 es true 0] g3 (oB [.arr 3 us true 0, .arr 3 cs true 0, .arr 3 es true 0] (decide_eq_true g4) (oP [.arr 3 us true 0, .arr 3 cs true 0, .arr 3 es true 0] g5 (oP [.arr 3 us true 0, .arr 3 cs true 0, .arr 3 es true 0] g6 (oC (g7) .nil))))))))⟩
theorem ch_f_1 (rw la : List HV) (us : List HV) (m : Nat) (cs : List HV) (q : Nat) (es : List HV) (w i : Nat) (ec : Int) (ea eb : Nat)(g0 : (i : Int) < (q : Int)) (g1 : (w : Int) < 2) (g2 : idxV Try.prog 70 (.sl 2 0 q none q 3) (.i (i : Int)) = some (.ptr 2 i 0 q)) (g3 : loadV Try.prog [.arr 3 us true 0, .arr 3 cs true 0, .arr 3 es true 0] 3 (.ptr 2 i 0 q) = some (.i (ea : Int))) (g4 : ¬ ((ea : Int) = 0)) : RunsTo Try.prog polCh 51 (sub [1, 1, 1, 1, 0, 1, 0, 0] B51) (env51 (.imm .arg 1 rw) (.imm .arg 1 la) (.imm .lit 3 []) (.sl 1 0 m none m 3) (.sl 2 0 q none q 3) (.i (w : Int)) (.i (i : Int))) [.arr 3 us true 0, .arr 3 cs true 0, .arr 3 es true 0] .normal (polCh.keys 51) (env51 (.imm .arg 1 rw) (.imm .arg 1 la) (.imm .lit 3 []) (.sl 1 0 m none m 3) (.sl 2 0 q none q 3) (.i (w : Int)) (.i (IntKind.i64.wrap ((i : Int) + 1)))) [.arr 3 us true 0, .arr 3 cs true 0, .arr 3 es true 0] :=
  RunsTo.hin 0 60 [⟨5, 3, .bool true, [.arr 3 us true 0, .arr 3 cs true 0, .arr 3 es true 0]⟩, ⟨5, 6, .bool true, [.arr 3 us true 0, .arr 3 cs true 0, .arr 3 es true 0]⟩, ⟨7, 2, .ptr 2 i 0 q, [.arr 3 us true 0, .arr 3 cs true 0, .arr 3 es true 0]⟩, ⟨7, 4, .i (ea : Int), [.arr 3 us true 0, .arr 3 cs true 0, .arr 3 es true 0]⟩, ⟨7, 5, .bool false, [.arr 3 us true 0, .arr 3 cs true 0, .arr 3 es true 0]⟩] fun kf hk => ⟨_, by kernel_rfl, (oB [.arr 3 us true 0, .arr 3 cs true 0, .arr 3 es true 0] (decide_eq_true g0) (oB [.arr 3 us true 0, .arr 3 cs true 0, .arr 3 es true 0] (decide_eq_true g1) (oP [.arr 3 us true 0, .arr 3 cs true 0, .arr 3 es true 0] g2 (oP [.arr 3 us true 0, .arr 3 cs true 0, .arr 3 es true 0] g3 (oB [.arr 3 us true 0, .arr 3 cs true 0, .arr 3 es true 0] (decide_eq_false g4) .nil)))))⟩
theorem ch_f_2 (rw la : List HV) (us : List HV) (m : Nat) (cs : List HV) (q : Nat) (es : List HV) (w i : Nat) (ec : Int) (ea eb : Nat)(g0 : (i : Int) < (q : Int)) (g1 : ¬ ((w : Int) < 2)) : RunsTo Try.prog polCh 51 (sub [1, 1, 1, 1, 0, 1, 0, 0] B51) (env51 (.imm .arg 1 rw) (.imm .arg 1 la) (.imm .lit 3 []) (.sl 1 0 m none m 3) (.sl 2 0 q none q 3) (.i (w : Int)) (.i (i : Int))) [.arr 3 us true 0, .arr 3 cs true 0, .arr 3 es true 0] (.exit 0) (polCh.keys 51) (env51 (.imm .arg 1 rw) (.imm .arg 1 la) (.imm .lit 3 []) (.sl 1 0 m none m 3) (.sl 2 0 q none q 3) (.i (w : Int)) (.i (i : Int))) [.arr 3 us true 0, .arr 3 cs true 0, .arr 3 es true 0] :=
  RunsTo.hin 0 60 [⟨5, 3, .bool true, [.arr 3 us true 0, .arr 3 cs true 0, .arr 3 es true 0]⟩, ⟨5, 6, .bool false, [.arr 3 us true 0, .arr 3 cs true 0, .arr 3 es true 0]⟩] fun kf hk => ⟨_, by kernel_rfl, (oB [.arr 3 us true 0, .arr 3 cs true 0, .arr 3 es true 0] (decide_eq_true g0) (oB [.arr 3 us true 0, .arr 3 cs true 0, .arr 3 es true 0] (decide_eq_false g1) .nil))⟩
theorem ch_f_3 (rw la : List HV) (us : List HV) (m : Nat) (cs : List HV) (q : Nat) (es : List HV) (w i : Nat) (ec : Int) (ea eb : Nat)(g0 : ¬ ((i : Int) < (q : Int))) : RunsTo Try.prog polCh 51 (sub [1, 1, 1, 1, 0, 1, 0, 0] B51) (env51 (.imm .arg 1 rw) (.imm .arg 1 la) (.imm .lit 3 []) (.sl 1 0 m none m 3) (.sl 2 0 q none q 3) (.i (w : Int)) (.i (i : Int))) [.arr 3 us true 0, .arr 3 cs true 0, .arr 3 es true 0] (.exit 0) (polCh.keys 51) (env51 (.imm .arg 1 rw) (.imm .arg 1 la) (.imm .lit 3 []) (.sl 1 0 m none m 3) (.sl 2 0 q none q 3) (.i (w : Int)) (.i (i : Int))) [.arr 3 us true 0, .arr 3 cs true 0, .arr 3 es true 0] :=
  RunsTo.hin 0 60 [⟨5, 3, .bool false, [.arr 3 us true 0, .arr 3 cs true 0, .arr 3 es true 0]⟩] fun kf hk => ⟨_, by kernel_rfl, (oB [.arr 3 us true 0, .arr 3 cs true 0, .arr 3 es true 0] (decide_eq_false g0) .nil)⟩
theorem ch_g_0 (rw la : List HV) (us : List HV) (m : Nat) (cs : List HV) (q : Nat) (es : List HV) {y7 y8 : HV} : RunsTo Try.prog polCh 51 (sub [1, 1, 1, 1, 1] B51) (env51 (.imm .arg 1 rw) (.imm .arg 1 la) (.imm .lit 3 []) (.sl 1 0 m none m 3) (.sl 2 0 q none q 3) y7 y8) [.arr 3 us true 0, .arr 3 cs true 0, .arr 3 es true 0] .ret (polCh.keys 51) (env51 (.imm .arg 1 rw) (.imm .arg 1 la) (.sl 1 0 m none m 3) (.sl 1 0 m none m 3) (.sl 2 0 q none q 3) y7 y8) [.arr 3 us true 0, .arr 3 cs true 0, .arr 3 es true 0] :=
  RunsTo.hin 0 60 [] fun kf hk => ⟨_, by kernel_rfl, .nil⟩
end Go.Proofs.Ytlendaofkmhgmaa
end
section
open Go Go.HL Go.HL.So
namespace Go.Proofs.Ytlendaofkmhgmaa
theorem res51 : Try.f51.results.toList = [.tmp 4] := by kernel_rfl
open Classical in
noncomputable def chosen51 : List HV → Option HV := rlF fun R l => if okD R ∧ l.length = R.length ∧ prOk l then some (.own 3 ((chosen R l).map encF)) else none
section
variable {d : List (List Int)} {l : List Int}
theorem arg_encF (H : Heap) (n : Nat) (e : Ed) : toArg H (n + 1) (encF e) = some (encF e) := by
  show (match mapO (toArg H n) [.int .i64 e.2.1, .int .i64 e.2.2, .int .i64 e.1] with | some l => some (HV.agg l) | none => none) = _
  have h1 : ∀ x : Int, toArg H n (.int .i64 x) = some (.int .i64 x) := fun x => by cases n <;> rfl
  simp only [mapO, h1]; rfl
end
section
variable {d : List (List Int)} {l : List Int}
theorem arg_F {H : Heap} {l : List Ed} {b m : Nat} (hm : l.length = m) (hb : H[b]? = some (bF l)) : toArg H 6 (.sl b 0 m none m 3) = some (.imm .arg 3 (l.map encF)) := by
  subst hm
  have e : toArg H 6 (.sl b 0 l.length none l.length 3) = if l.length = 0 then some (.imm .arg 3 []) else match view H b 0 l.length l.length 3 with | some l => (match mapO (toArg H 5) l with | some l => some (.imm .arg 3 l) | none => none) | none => none := rfl
  rw [e]
  split
  · rename_i h0
    rw [List.length_eq_zero_iff.1 h0]; rfl
  · have hv : view H b 0 l.length l.length 3 = some (l.map encF) := by
      unfold view
      rw [hb]
      simp only [bF]
      simp
      exact List.take_of_length_le (by simp)
    have hm : mapO (toArg H 5) (l.map encF) = some (l.map encF) := mapO_self (f := toArg H 5) (g := encF) (fun e => arg_encF H 4 e) l
    rw [hv]
    simp only [hm]
end
section
variable {d : List (List Int)} {l : List Int}
theorem q66 {pol' : Pol} (hp : pol'.prim 66 = some edges66) (hd : okD d) (hn : l.length = d.length) (hl : prOk l) {f : Nat} (hf : f ≤ d.length) (H : Heap) :
    ∀ kf, callN Try.prog pol' (kf + 1) 66 [.imm .arg 1 (d.map encR), .imm .arg 1 (l.map encI), .int .i64 (f : Int)] H = some (.sl H.length 0 (edg d l f).length none (edg d l f).length 3, H ++ [bF (edg d l f)]) := fun kf => by
  rw [prim_call (pol := pol') (g := 66) (F := edges66) hp (rs := [.imm .arg 1 (d.map encR), .imm .arg 1 (l.map encI), .int .i64 (f : Int)]) (by simp only [mapO, arg_rw, arg_li]; rfl) (res := .own 3 ((edg d l f).map encF)) (by simp only [edges66, rliF, mapO_map decR_enc, mapO_map decI_enc]; rw [if_pos ⟨hd, hn, hl, by omega, by omega⟩, Int.toNat_natCast]), recv_F]
end
section
variable {d : List (List Int)} {l : List Int}
theorem q65 {pol' : Pol} (hp : pol'.prim 65 = some joined65) {es : List Ed} {n b : Nat} {H : Heap} (hb : H[b]? = some (bF es)) (hn : n ≤ 1000) (he : EIn n es) (hq : es.length ≤ 500) :
    ∀ kf, callN Try.prog pol' (kf + 1) 65 [.sl b 0 es.length none es.length 3, .int .i64 (n : Int)] H = some (.sl H.length 0 (krD es (iota n)).length none (krD es (iota n)).length 3, H ++ [bF (krD es (iota n))]) := fun kf => by
  rw [prim_call (pol := pol') (g := 65) (F := joined65) hp (rs := [.imm .arg 3 (es.map encF), .int .i64 (n : Int)]) (by simp only [mapO, arg_F rfl hb]; rfl) (res := .own 3 ((krD es (iota n)).map encF)) (by simp only [joined65, mapO_map decF_enc]; rw [if_pos ⟨by omega, by rw [Int.toNat_natCast]; exact he, hq⟩, Int.toNat_natCast]), recv_F]
end
section
variable {d : List (List Int)} {l : List Int}
abbrev chE (d : List (List Int)) (l : List Int) (m q : Nat) (v7 v8 : HV) : Env := (env51 (.imm .arg 1 (d.map encR)) (.imm .arg 1 (l.map encI)) (.imm .lit 3 []) (.sl 1 0 m none m 3) (.sl 2 0 q none q 3) v7 v8)
end
section
variable {d : List (List Int)} {l : List Int}
abbrev chH (us cs es : List Ed) : Heap := [bF us, bF cs, bF es]
end
section
variable {d : List (List Int)} {l : List Int}
theorem ch_loop (us : List Ed) {es : List Ed} {n : Nat} (he : EIn n es) (hq : es.length ≤ 500) : ∀ (k i w : Nat) (cs : List Ed), i + k = es.length → w ≤ 2 → cs.length + k ≤ 700 →
    ∃ y7 y8, RunsTo Try.prog polCh 51 (sub [1, 1, 1, 1, 0, 1, 0] B51) (chE d l cs.length es.length (.int .i64 (w : Int)) (.int .i64 (i : Int))) (chH us cs es) (.exit 0) (polCh.keys 51)
      (chE d l (cs ++ two2 w (es.drop i)).length es.length y7 y8) (chH us (cs ++ two2 w (es.drop i)) es) := by
  intro k
  induction k with
  | zero =>
    intro i w cs hi hw ho
    have : i = es.length := by omega
    subst this
    rw [List.drop_length, two2, List.append_nil]
    exact ⟨_, _, RunsTo.loop_out ((ch_f_3 (d.map encR) (l.map encI) (us.map encF) cs.length (cs.map encF) es.length (es.map encF) w es.length 0 0 0 (by omega))) (by simp) (by kernel_rfl) (by kernel_rfl)⟩
  | succ k ih =>
    intro i w cs hi hw ho
    have hdrop : es.drop i = at_ es i :: es.drop (i + 1) := by
      rw [List.drop_eq_getElem_cons (by omega)]
      simp [at_, List.getD, List.getElem?_eq_getElem (show i < es.length by omega)]
    have hmem : at_ es i ∈ es := by
      have : at_ es i = es[i] := by simp [at_, List.getD, List.getElem?_eq_getElem (show i < es.length by omega)]
      rw [this]; exact List.getElem_mem _
    obtain ⟨ec, ea, eb, hae, ha, hb⟩ : ∃ (ec : Int) (ea eb : Nat), at_ es i = mkQ ec ea eb ∧ ea < n ∧ eb < n := by
      obtain ⟨⟨h1, h2⟩, h3, h4⟩ := he _ hmem
      refine ⟨(at_ es i).1, (at_ es i).2.1.toNat, (at_ es i).2.2.toNat, ?_, h2, h4⟩
      show at_ es i = ((at_ es i).1, _, _)
      rw [Int.toNat_of_nonneg h1, Int.toNat_of_nonneg h3]
    by_cases c2 : w < 2
    · rw [hdrop, hae, two2]
      have hl0 := lf0 (H := chH us cs es) (b := 2) (k := i) (l := es) rfl rfl (by omega)
      have hl := lf (H := chH us cs es) (b := 2) (k := i) (l := es) rfl rfl (by omega)
      rw [hae] at hl hl0
      by_cases c : (ea : Int) = 0
      · have s := ch_f_0 (d.map encR) (l.map encI) (us.map encF) cs.length (cs.map encF) es.length (es.map encF) w i ec ea eb (by omega) (by omega) (ixf (by omega)) hl0 c (ixf (by omega)) hl (by
          have := app_f1 (H := chH us cs es) (b := 1) (o := cs) rfl (by omega) (mkQ ec ea eb)
          simp only [bF, List.map_append, List.map_cons, List.map_nil] at this
          exact this)
        have hs : cs.map encF ++ [HV.agg [.int .i64 (ea : Int), .int .i64 (eb : Int), .int .i64 ec]] = (cs ++ [mkQ ec ea eb]).map encF := by simp [encF]
        rw [wrap_succ (by omega), wrap_succ (by omega), hs] at s
        obtain ⟨y7, y8, r⟩ := ih (i + 1) (w + 1) (cs ++ [mkQ ec ea eb]) (by omega) (by omega) (by simp; omega)
        rw [if_pos ⟨c, c2⟩]
        rw [List.append_assoc, show (cs ++ [mkQ ec ea eb]).length = cs.length + 1 by simp] at r
        exact ⟨y7, y8, RunsTo.loop (s) (by kernel_rfl) (gc_eq _ rfl) (r) rfl (by kernel_rfl) (by kernel_rfl)⟩
      · have s := ch_f_1 (d.map encR) (l.map encI) (us.map encF) cs.length (cs.map encF) es.length (es.map encF) w i ec ea eb (by omega) (by omega) (ixf (by omega)) hl0 c
        rw [wrap_succ (by omega)] at s
        obtain ⟨y7, y8, r⟩ := ih (i + 1) w cs (by omega) (by omega) (by omega)
        rw [if_neg (fun h => c h.1)]
        exact ⟨y7, y8, RunsTo.loop (s) (by kernel_rfl) (gc_eq _ rfl) (r) rfl (by kernel_rfl) (by kernel_rfl)⟩
    · rw [two2_full _ w (by omega), List.append_nil]
      exact ⟨_, _, RunsTo.loop_out ((ch_f_2 (d.map encR) (l.map encI) (us.map encF) cs.length (cs.map encF) es.length (es.map encF) w i 0 0 0 (by omega) (by omega))) (by simp) (by kernel_rfl) (by kernel_rfl)⟩
end
theorem chosen_ok : PrimOk Try.prog 51 chosen51 := by
  refine primOk_pure (pol := polCh) (fn := Try.f51) (cd := B51) follows_mixed soundCh (by kernel_rfl) (by kernel_rfl) (fnok polCh.prim _ _ (by kernel_rfl)) (by kernel_rfl) ?_
  intro args res h
  obtain ⟨d, l, rfl, hq⟩ := rlF_inv h
  clear h
  split at hq
  · rename_i hc
    obtain ⟨hd, hn, hp⟩ := hc
    cases hq
    have hdn := hd.1
    have h1 := edg_len (ps := l) (f := 1) hd (by omega)
    have h0 := edg_len (ps := l) (f := 0) hd (by omega)
    have e1 := edg_in (d := d) (ps := l) (f := 1) (by omega)
    have e0 := edg_in (d := d) (ps := l) (f := 0) (by omega)
    have hk : treeL d l 1 = krD (edg d l 1) (iota d.length) := kr_eq _ _ _ e1 (Eqv.refl (iota_len _))
    have hlen := krP_len (edg d l 1) (iota d.length)
    have hc : chosen d l = krD (edg d l 1) (iota d.length) ++ two2 0 (edg d l 0) := by rw [← hk]; rfl
    have hlen' : (krD (edg d l 1) (iota d.length)).length ≤ 121 := by rw [← hk]; unfold treeL; omega
    rw [hc]
    generalize hT : krD (edg d l 1) (iota d.length) = T at *
    have s0 := ch_a_0 (d.map encR) (l.map encI)
    have k65 := q65 (pol' := polCh) (by kernel_rfl) (H := [bF (edg d l 1)]) (b := 0) rfl (by omega) e1 (by omega)
    rw [hT] at k65
    have s1 := ch_b_0 (d.map encR) (l.map encI) (y5 := .undef) (y6 := .undef) (y7 := .undef) (y8 := .undef) (q66 (pol' := polCh) (by kernel_rfl) hd hn hp (f := 1) (by omega) []) (by rw [List.length_map]; exact k65)
    have s2 := ch_c_0 (d.map encR) (l.map encI) ((edg d l 1).map encF) T.length (T.map encF) (y6 := .undef) (y7 := .undef) (y8 := .undef) (q66 (pol' := polCh) (by kernel_rfl) hd hn hp (f := 0) (by omega) [bF (edg d l 1), bF T])
    have s3 := ch_d_0 (d.map encR) (l.map encI) ((edg d l 1).map encF) T.length (T.map encF) (edg d l 0).length ((edg d l 0).map encF) (y7 := .undef) (y8 := .undef)
    have s4 := ch_e_0 (d.map encR) (l.map encI) ((edg d l 1).map encF) T.length (T.map encF) (edg d l 0).length ((edg d l 0).map encF) (y8 := .undef)
    obtain ⟨y7, y8, r⟩ := ch_loop (d := d) (l := l) (edg d l 1) e0 (by omega) (edg d l 0).length 0 0 T (by omega) (by omega) (by omega)
    rw [List.drop_zero] at r
    have s5 := ch_g_0 (d.map encR) (l.map encI) ((edg d l 1).map encF) (T ++ two2 0 (edg d l 0)).length ((T ++ two2 0 (edg d l 0)).map encF) (edg d l 0).length ((edg d l 0).map encF) (y7 := y7) (y8 := y8)
    have t := RunsTo.seq (s0) (RunsTo.seq (s1) (RunsTo.seq (s2) (RunsTo.seq (s3) (RunsTo.seq (RunsTo.seq (s4) (RunsTo.block_exit (c := sub [1, 1, 1, 1, 0, 1] B51) (RunsTo.loop_in (e0 := (chE d l T.length (edg d l 0).length (.int .i64 ((0 : Nat) : Int)) (.int .i64 ((0 : Nat) : Int)))) r (b := sub [1, 1, 1, 1, 0, 1, 0, 0] B51) (by kernel_rfl) (by kernel_rfl) (by kernel_rfl)) (by kernel_rfl)) (c := sub [1, 1, 1, 1, 0] B51) (by kernel_rfl) (by kernel_rfl)) (s5) (c := sub [1, 1, 1, 1] B51) (by kernel_rfl) (by kernel_rfl)) (c := sub [1, 1, 1] B51) (by kernel_rfl) (by kernel_rfl)) (c := sub [1, 1] B51) (by kernel_rfl) (by kernel_rfl)) (c := sub [1] B51) (by kernel_rfl) (by kernel_rfl)) (c := B51) (by kernel_rfl) (by kernel_rfl)
    exact ⟨_, _, _, .sl 1 0 (T ++ two2 0 (edg d l 0)).length none (T ++ two2 0 (edg d l 0)).length 3, t, by simp, by simp only [resultsV, res51]; rfl, toRes_F rfl⟩
  · cases hq
end Go.Proofs.Ytlendaofkmhgmaa
end
section
open Go Go.HL
namespace Go.Proofs.Ytlendaofkmhgmaa
set_option maxRecDepth 100000
noncomputable def B19 : Code := Try.f19.body.getD .skip
abbrev env19 (v0 v1 v4 v5 : HV) : Env := [(0, v0), (1, v1), (4, v4), (5, v5)]
theorem rp_a_0 (la : List HV) (n : Int)  : RunsTo Try.prog polW 19 (sub [0] B19) [(0, .imm .arg 1 la), (1, .i n)] [] .normal (polW.keys 19) (env19 (.imm .arg 1 la) (.i n) (.bool false) .undef) [] :=
  RunsTo.hin 0 60 [] fun kf hk => ⟨_, by kernel_rfl, .nil⟩
theorem rp_b_0 (la : List HV) (n : Int)  {y5 : HV} : RunsTo Try.prog polW 19 (sub [1, 0, 0] B19) (env19 (.imm .arg 1 la) (.i n) (.bool false) y5) [] .normal (polW.keys 19) (env19 (.imm .arg 1 la) (.i n) (.bool false) (.i 0)) [] :=
  RunsTo.hin 0 60 [] fun kf hk => ⟨_, by kernel_rfl, .nil⟩
theorem rp_c_0 (la : List HV) (n : Int) (i : Nat) {x0 : Int} (g0 : (i : Int) < (la.length : Int)) (g1 : idxV Try.prog 23 (.imm .arg 1 la) (.i (i : Int)) = some (.vptr (.i x0))) (g2 : x0 < (-10000)) : RunsTo Try.prog polW 19 (sub [1, 0, 1, 0, 0] B19) (env19 (.imm .arg 1 la) (.i n) (.bool false) (.i (i : Int))) [] .ret (polW.keys 19) (env19 (.imm .arg 1 la) (.i n) (.bool false) (.i (i : Int))) [] :=
  RunsTo.hin 0 60 [⟨2, 3, .bool true, []⟩, ⟨4, 2, .vptr (.i x0), []⟩, ⟨4, 4, .bool true, []⟩] fun kf hk => ⟨_, by kernel_rfl, (oB [] (decide_eq_true g0) (oP [] g1 (oB [] (decide_eq_true g2) .nil)))⟩
theorem rp_c_1 (la : List HV) (n : Int) (i : Nat) {x0 : Int} {x1 : Int} (g0 : (i : Int) < (la.length : Int)) (g1 : idxV Try.prog 23 (.imm .arg 1 la) (.i (i : Int)) = some (.vptr (.i x0))) (g2 : ¬ (x0 < (-10000))) (g3 : idxV Try.prog 23 (.imm .arg 1 la) (.i (i : Int)) = some (.vptr (.i x1))) (g4 : 10000 < x1) : RunsTo Try.prog polW 19 (sub [1, 0, 1, 0, 0] B19) (env19 (.imm .arg 1 la) (.i n) (.bool false) (.i (i : Int))) [] .ret (polW.keys 19) (env19 (.imm .arg 1 la) (.i n) (.bool false) (.i (i : Int))) [] :=
  RunsTo.hin 0 60 [⟨2, 3, .bool true, []⟩, ⟨4, 2, .vptr (.i x0), []⟩, ⟨4, 4, .bool false, []⟩, ⟨4, 8, .vptr (.i x1), []⟩, ⟨4, 10, .bool true, []⟩] fun kf hk => ⟨_, by kernel_rfl, (oB [] (decide_eq_true g0) (oP [] g1 (oB [] (decide_eq_false g2) (oP [] g3 (oB [] (decide_eq_true g4) .nil)))))⟩
theorem rp_c_2 (la : List HV) (n : Int) (i : Nat) {x0 : Int} {x1 : Int} (g0 : (i : Int) < (la.length : Int)) (g1 : idxV Try.prog 23 (.imm .arg 1 la) (.i (i : Int)) = some (.vptr (.i x0))) (g2 : ¬ (x0 < (-10000))) (g3 : idxV Try.prog 23 (.imm .arg 1 la) (.i (i : Int)) = some (.vptr (.i x1))) (g4 : ¬ (10000 < x1)) : RunsTo Try.prog polW 19 (sub [1, 0, 1, 0, 0] B19) (env19 (.imm .arg 1 la) (.i n) (.bool false) (.i (i : Int))) [] .normal (polW.keys 19) (env19 (.imm .arg 1 la) (.i n) (.bool false) (.i (IntKind.i64.wrap ((i : Int) + 1)))) [] :=
  RunsTo.hin 0 60 [⟨2, 3, .bool true, []⟩, ⟨4, 2, .vptr (.i x0), []⟩, ⟨4, 4, .bool false, []⟩, ⟨4, 8, .vptr (.i x1), []⟩, ⟨4, 10, .bool false, []⟩] fun kf hk => ⟨_, by kernel_rfl, (oB [] (decide_eq_true g0) (oP [] g1 (oB [] (decide_eq_false g2) (oP [] g3 (oB [] (decide_eq_false g4) .nil)))))⟩
theorem rp_c_3 (la : List HV) (n : Int) (i : Nat)(g0 : ¬ ((i : Int) < (la.length : Int))) : RunsTo Try.prog polW 19 (sub [1, 0, 1, 0, 0] B19) (env19 (.imm .arg 1 la) (.i n) (.bool false) (.i (i : Int))) [] (.exit 0) (polW.keys 19) (env19 (.imm .arg 1 la) (.i n) (.bool false) (.i (i : Int))) [] :=
  RunsTo.hin 0 60 [⟨2, 3, .bool false, []⟩] fun kf hk => ⟨_, by kernel_rfl, (oB [] (decide_eq_false g0) .nil)⟩
theorem rp_d_0 (la : List HV) (n : Int)  {y5 : HV}(g0 : (la.length : Int) = n) : RunsTo Try.prog polW 19 (sub [1, 1] B19) (env19 (.imm .arg 1 la) (.i n) (.bool false) y5) [] .ret (polW.keys 19) (env19 (.imm .arg 1 la) (.i n) (.bool true) y5) [] :=
  RunsTo.hin 0 60 [⟨6, 3, .bool true, []⟩] fun kf hk => ⟨_, by kernel_rfl, (oB [] (decide_eq_true g0) .nil)⟩
theorem rp_d_1 (la : List HV) (n : Int)  {y5 : HV}(g0 : ¬ ((la.length : Int) = n)) : RunsTo Try.prog polW 19 (sub [1, 1] B19) (env19 (.imm .arg 1 la) (.i n) (.bool false) y5) [] .ret (polW.keys 19) (env19 (.imm .arg 1 la) (.i n) (.bool false) y5) [] :=
  RunsTo.hin 0 60 [⟨6, 3, .bool false, []⟩] fun kf hk => ⟨_, by kernel_rfl, (oB [] (decide_eq_false g0) .nil)⟩
end Go.Proofs.Ytlendaofkmhgmaa
end
section
open Go Go.HL Go.HL.So
namespace Go.Proofs.Ytlendaofkmhgmaa
noncomputable def polRb : Pol := { pol with prim := fun g => if g == 51 then some chosen51 else none }
theorem soundRb (n : Nat) : CallSound Try.prog (callN Try.prog polRb n) := sound_prim _ (fun g f h => by
  split at h
  · rename_i hg; cases h; rw [eq_of_beq hg]; exact chosen_ok
  · cases h) n
end Go.Proofs.Ytlendaofkmhgmaa
end
section
open Go Go.HL
namespace Go.Proofs.Ytlendaofkmhgmaa
set_option maxRecDepth 100000
noncomputable def B21 : Code := Try.f21.body.getD .skip
abbrev env21 (v0 v1 v4 v5 v6 v7 v8 v9 : HV) : Env := [(0, v0), (1, v1), (4, v4), (5, v5), (6, v6), (7, v7), (8, v8), (9, v9)]
theorem rb_a_0 (rw la : List HV)  : RunsTo Try.prog polRb 21 (sub [0] B21) [(0, .imm .arg 1 rw), (1, .imm .arg 1 la)] [] .normal (polRb.keys 21) (env21 (.imm .arg 1 rw) (.imm .arg 1 la) (.i 0) .undef .undef .undef .undef .undef) [] :=
  RunsTo.hin 0 60 [] fun kf hk => ⟨_, by kernel_rfl, .nil⟩
theorem rb_b_0 (rw la : List HV)  {y5 y6 y7 y8 y9 : HV} : RunsTo Try.prog polRb 21 (sub [1, 0] B21) (env21 (.imm .arg 1 rw) (.imm .arg 1 la) (.i 0) y5 y6 y7 y8 y9) [] .normal (polRb.keys 21) (env21 (.imm .arg 1 rw) (.imm .arg 1 la) (.i 0) (.i (rw.length : Int)) y6 y7 y8 y9) [] :=
  RunsTo.hin 0 60 [] fun kf hk => ⟨_, by kernel_rfl, .nil⟩
theorem rb_c_0 (rw la : List HV) (n : Nat) {y6 y7 y8 y9 : HV}(g0 : (n : Int) = 1) : RunsTo Try.prog polRb 21 (sub [1, 1, 0] B21) (env21 (.imm .arg 1 rw) (.imm .arg 1 la) (.i 0) (.i (n : Int)) y6 y7 y8 y9) [] .ret (polRb.keys 21) (env21 (.imm .arg 1 rw) (.imm .arg 1 la) (.i 0) (.i (n : Int)) y6 y7 y8 y9) [] :=
  RunsTo.hin 0 60 [⟨2, 1, .bool true, []⟩] fun kf hk => ⟨_, by kernel_rfl, (oB [] (decide_eq_true g0) .nil)⟩
theorem rb_c_1 (rw la : List HV) (n : Nat) {y6 y7 y8 y9 : HV}(g0 : ¬ ((n : Int) = 1)) : RunsTo Try.prog polRb 21 (sub [1, 1, 0] B21) (env21 (.imm .arg 1 rw) (.imm .arg 1 la) (.i 0) (.i (n : Int)) y6 y7 y8 y9) [] .normal (polRb.keys 21) (env21 (.imm .arg 1 rw) (.imm .arg 1 la) (.i 0) (.i (n : Int)) y6 y7 y8 y9) [] :=
  RunsTo.hin 0 60 [⟨2, 1, .bool false, []⟩] fun kf hk => ⟨_, by kernel_rfl, (oB [] (decide_eq_false g0) .nil)⟩
theorem rb_d_0 (rw la : List HV) (n : Nat) {y6 y7 y8 y9 : HV} {l0 : List HV} {x0 : Int} (g0 : (n : Int) = 2) (g1 : idxV Try.prog 22 (.imm .arg 1 rw) (.i 0) = some (.vptr (.imm .arg 1 l0))) (g2 : idxV Try.prog 23 (.imm .arg 1 l0) (.i 1) = some (.vptr (.i x0))) : RunsTo Try.prog polRb 21 (sub [1, 1, 1, 0] B21) (env21 (.imm .arg 1 rw) (.imm .arg 1 la) (.i 0) (.i (n : Int)) y6 y7 y8 y9) [] .ret (polRb.keys 21) (env21 (.imm .arg 1 rw) (.imm .arg 1 la) (.i (IntKind.i64.wrap (2 * x0))) (.i (n : Int)) y6 y7 y8 y9) [] :=
  RunsTo.hin 0 60 [⟨4, 1, .bool true, []⟩, ⟨5, 1, .vptr (.imm .arg 1 l0), []⟩, ⟨5, 3, .vptr (.i x0), []⟩] fun kf hk => ⟨_, by kernel_rfl, (oB [] (decide_eq_true g0) (oP [] g1 (oP [] g2 .nil)))⟩
theorem rb_d_1 (rw la : List HV) (n : Nat) {y6 y7 y8 y9 : HV}(g0 : ¬ ((n : Int) = 2)) : RunsTo Try.prog polRb 21 (sub [1, 1, 1, 0] B21) (env21 (.imm .arg 1 rw) (.imm .arg 1 la) (.i 0) (.i (n : Int)) y6 y7 y8 y9) [] .normal (polRb.keys 21) (env21 (.imm .arg 1 rw) (.imm .arg 1 la) (.i 0) (.i (n : Int)) y6 y7 y8 y9) [] :=
  RunsTo.hin 0 60 [⟨4, 1, .bool false, []⟩] fun kf hk => ⟨_, by kernel_rfl, (oB [] (decide_eq_false g0) .nil)⟩
theorem rb_e_0 (rw la : List HV) (n : Nat) {y6 y7 y8 y9 : HV} : RunsTo Try.prog polRb 21 (sub [1, 1, 1, 1, 0] B21) (env21 (.imm .arg 1 rw) (.imm .arg 1 la) (.i 0) (.i (n : Int)) y6 y7 y8 y9) [] .normal (polRb.keys 21) (env21 (.imm .arg 1 rw) (.imm .arg 1 la) (.i 0) (.i (n : Int)) (.i 0) y7 y8 y9) [] :=
  RunsTo.hin 0 60 [] fun kf hk => ⟨_, by kernel_rfl, .nil⟩
theorem rb_f_0 (rw la : List HV) (n : Nat) {y7 y8 y9 : HV} {m : Nat} {cs : List HV} (g0 : ∀ kf, callN Try.prog polRb (kf + 1) 51 [.imm .arg 1 rw, .imm .arg 1 la] [] = some (.sl 0 0 m none m 3, [.arr 3 cs true 0])) : RunsTo Try.prog polRb 21 (sub [1, 1, 1, 1, 1, 0] B21) (env21 (.imm .arg 1 rw) (.imm .arg 1 la) (.i 0) (.i (n : Int)) (.i 0) y7 y8 y9) [] .normal (polRb.keys 21) (env21 (.imm .arg 1 rw) (.imm .arg 1 la) (.i 0) (.i (n : Int)) (.i 0) (.sl 0 0 m none m 3) y8 y9) [.arr 3 cs true 0] :=
  RunsTo.hin 0 60 [⟨7, 2, .sl 0 0 m none m 3, [.arr 3 cs true 0]⟩] fun kf hk => ⟨_, by kernel_rfl, (oC (g0 kf) .nil)⟩
theorem rb_g_0 (rw la : List HV) (n m : Nat) (cs : List HV) {y8 y9 : HV} : RunsTo Try.prog polRb 21 (sub [1, 1, 1, 1, 1, 1, 0, 0] B21) (env21 (.imm .arg 1 rw) (.imm .arg 1 la) (.i 0) (.i (n : Int)) (.i 0) (.sl 0 0 m none m 3) y8 y9) [.arr 3 cs true 0] .normal (polRb.keys 21) (env21 (.imm .arg 1 rw) (.imm .arg 1 la) (.i 0) (.i (n : Int)) (.i 0) (.sl 0 0 m none m 3) (.i 0) y9) [.arr 3 cs true 0] :=
  RunsTo.hin 0 60 [] fun kf hk => ⟨_, by kernel_rfl, .nil⟩
theorem rb_h_0 (rw la : List HV) (n m : Nat) (cs : List HV) (sm : Int) (i : Nat) {y9 : HV} {x0 : Int} (g0 : (i : Int) < (m : Int)) (g1 : idxV Try.prog 70 (.sl 0 0 m none m 3) (.i (i : Int)) = some (.ptr 0 i 0 m)) (g2 : loadV Try.prog [.arr 3 cs true 0] 3 (.ptr 0 i 2 m) = some (.i x0)) : RunsTo Try.prog polRb 21 (sub [1, 1, 1, 1, 1, 1, 0, 1, 0, 0] B21) (env21 (.imm .arg 1 rw) (.imm .arg 1 la) (.i 0) (.i (n : Int)) (.i sm) (.sl 0 0 m none m 3) (.i (i : Int)) y9) [.arr 3 cs true 0] .normal (polRb.keys 21) (env21 (.imm .arg 1 rw) (.imm .arg 1 la) (.i 0) (.i (n : Int)) (.i (IntKind.i64.wrap (sm + x0))) (.sl 0 0 m none m 3) (.i (IntKind.i64.wrap ((i : Int) + 1))) y9) [.arr 3 cs true 0] :=
  RunsTo.hin 0 60 [⟨9, 3, .bool true, [.arr 3 cs true 0]⟩, ⟨11, 3, .ptr 0 i 0 m, [.arr 3 cs true 0]⟩, ⟨11, 5, .i x0, [.arr 3 cs true 0]⟩] fun kf hk => ⟨_, by kernel_rfl, (oB [.arr 3 cs true 0] (decide_eq_true g0) (oP [.arr 3 cs true 0] g1 (oP [.arr 3 cs true 0] g2 .nil)))⟩
theorem rb_h_1 (rw la : List HV) (n m : Nat) (cs : List HV) (sm : Int) (i : Nat) {y9 : HV}(g0 : ¬ ((i : Int) < (m : Int))) : RunsTo Try.prog polRb 21 (sub [1, 1, 1, 1, 1, 1, 0, 1, 0, 0] B21) (env21 (.imm .arg 1 rw) (.imm .arg 1 la) (.i 0) (.i (n : Int)) (.i sm) (.sl 0 0 m none m 3) (.i (i : Int)) y9) [.arr 3 cs true 0] (.exit 0) (polRb.keys 21) (env21 (.imm .arg 1 rw) (.imm .arg 1 la) (.i 0) (.i (n : Int)) (.i sm) (.sl 0 0 m none m 3) (.i (i : Int)) y9) [.arr 3 cs true 0] :=
  RunsTo.hin 0 60 [⟨9, 3, .bool false, [.arr 3 cs true 0]⟩] fun kf hk => ⟨_, by kernel_rfl, (oB [.arr 3 cs true 0] (decide_eq_false g0) .nil)⟩
theorem rb_i_0 (rw la : List HV) (n m : Nat) (cs : List HV) (sm : Int) {y8 y9 : HV} : RunsTo Try.prog polRb 21 (sub [1, 1, 1, 1, 1, 1, 1, 0, 0] B21) (env21 (.imm .arg 1 rw) (.imm .arg 1 la) (.i 0) (.i (n : Int)) (.i sm) (.sl 0 0 m none m 3) y8 y9) [.arr 3 cs true 0] .normal (polRb.keys 21) (env21 (.imm .arg 1 rw) (.imm .arg 1 la) (.i 0) (.i (n : Int)) (.i sm) (.sl 0 0 m none m 3) y8 (.i 0)) [.arr 3 cs true 0] :=
  RunsTo.hin 0 60 [] fun kf hk => ⟨_, by kernel_rfl, .nil⟩
theorem rb_j_0 (rw la : List HV) (n m : Nat) (cs : List HV) (sm : Int) (i : Nat) {y7 y8 : HV} {x0 : Int} (g0 : (i : Int) < (n : Int)) (g1 : idxV Try.prog 23 (.imm .arg 1 la) (.i (i : Int)) = some (.vptr (.i x0))) : RunsTo Try.prog polRb 21 (sub [1, 1, 1, 1, 1, 1, 1, 0, 1, 0, 0] B21) (env21 (.imm .arg 1 rw) (.imm .arg 1 la) (.i 0) (.i (n : Int)) (.i sm) y7 y8 (.i (i : Int))) [.arr 3 cs true 0] .normal (polRb.keys 21) (env21 (.imm .arg 1 rw) (.imm .arg 1 la) (.i 0) (.i (n : Int)) (.i (IntKind.i64.wrap (sm - IntKind.i64.wrap (2 * x0)))) y7 y8 (.i (IntKind.i64.wrap ((i : Int) + 1)))) [.arr 3 cs true 0] :=
  RunsTo.hin 0 60 [⟨13, 2, .bool true, [.arr 3 cs true 0]⟩, ⟨15, 3, .vptr (.i x0), [.arr 3 cs true 0]⟩] fun kf hk => ⟨_, by kernel_rfl, (oB [.arr 3 cs true 0] (decide_eq_true g0) (oP [.arr 3 cs true 0] g1 .nil))⟩
theorem rb_j_1 (rw la : List HV) (n m : Nat) (cs : List HV) (sm : Int) (i : Nat) {y7 y8 : HV}(g0 : ¬ ((i : Int) < (n : Int))) : RunsTo Try.prog polRb 21 (sub [1, 1, 1, 1, 1, 1, 1, 0, 1, 0, 0] B21) (env21 (.imm .arg 1 rw) (.imm .arg 1 la) (.i 0) (.i (n : Int)) (.i sm) y7 y8 (.i (i : Int))) [.arr 3 cs true 0] (.exit 2) (polRb.keys 21) (env21 (.imm .arg 1 rw) (.imm .arg 1 la) (.i 0) (.i (n : Int)) (.i sm) y7 y8 (.i (i : Int))) [.arr 3 cs true 0] :=
  RunsTo.hin 0 60 [⟨13, 2, .bool false, [.arr 3 cs true 0]⟩] fun kf hk => ⟨_, by kernel_rfl, (oB [.arr 3 cs true 0] (decide_eq_false g0) .nil)⟩
theorem rb_k_0 (rw la : List HV) (n m : Nat) (cs : List HV) (sm : Int) {y7 y8 y9 : HV} : RunsTo Try.prog polRb 21 (sub [1, 1, 1, 1, 1, 1, 1, 1] B21) (env21 (.imm .arg 1 rw) (.imm .arg 1 la) (.i 0) (.i (n : Int)) (.i sm) y7 y8 y9) [.arr 3 cs true 0] .ret (polRb.keys 21) (env21 (.imm .arg 1 rw) (.imm .arg 1 la) (.i sm) (.i (n : Int)) (.i sm) y7 y8 y9) [.arr 3 cs true 0] :=
  RunsTo.hin 0 60 [] fun kf hk => ⟨_, by kernel_rfl, .nil⟩
end Go.Proofs.Ytlendaofkmhgmaa
end
section
open Go Go.HL Go.HL.So
namespace Go.Proofs.Ytlendaofkmhgmaa
theorem res19 : Try.f19.results.toList = [.tmp 4] := by kernel_rfl
theorem res21 : Try.f21.results.toList = [.tmp 4] := by kernel_rfl
open Classical in
noncomputable def prices19 : List HV → Option HV := lnF fun l n => if l.length ≤ 1000 then some (.bool (decide (prOk l ∧ (l.length : Int) = n))) else none
open Classical in
noncomputable def bound21 : List HV → Option HV := rlF fun R l => if okD R ∧ l.length = R.length ∧ prOk l then some (.int .i64 (bndT R l)) else none
theorem rp_loop {l : List Int} {n : Int} (hl : l.length ≤ 1000) : ∀ k i, i + k = l.length →
    ∃ x E, RunsTo Try.prog polW 19 (sub [1, 0, 1, 0] B19) (env19 (.imm .arg 1 (l.map encI)) (.int .i64 n) (.bool false) (.int .i64 (i : Int))) [] x (polW.keys 19) E [] ∧
      (((∀ v ∈ l.drop i, -10000 ≤ v ∧ v ≤ 10000) ∧ x = .exit 0 ∧ E = (env19 (.imm .arg 1 (l.map encI)) (.int .i64 n) (.bool false) (.int .i64 (l.length : Int)))) ∨ (x = .ret ∧ E.get 4 = .bool false ∧ ¬ ∀ v ∈ l.drop i, -10000 ≤ v ∧ v ≤ 10000)) := by
  intro k
  induction k with
  | zero =>
    intro i hi
    have : i = l.length := by omega
    subst this
    exact ⟨_, _, RunsTo.loop_out ((rp_c_3 (l.map encI) n l.length (by simp))) (by simp) (by kernel_rfl) (by kernel_rfl), .inl ⟨by simp, rfl, rfl⟩⟩
  | succ k ih =>
    intro i hi
    have hg := gx (l := l) (y := i) (by omega)
    rw [getD_at (show i < l.length by omega)] at hg
    rw [List.drop_eq_getElem_cons (by omega)]
    by_cases c1 : l[i] < -10000
    · exact ⟨_, _, RunsTo.loop_out ((rp_c_0 (l.map encI) n i (by rw [List.length_map]; omega) hg c1)) (by simp) (by kernel_rfl) (by kernel_rfl), .inr ⟨rfl, rfl, fun h => absurd (h _ List.mem_cons_self) (by omega)⟩⟩
    · by_cases c2 : 10000 < l[i]
      · exact ⟨_, _, RunsTo.loop_out ((rp_c_1 (l.map encI) n i (by rw [List.length_map]; omega) hg c1 hg c2)) (by simp) (by kernel_rfl) (by kernel_rfl), .inr ⟨rfl, rfl, fun h => absurd (h _ List.mem_cons_self) (by omega)⟩⟩
      · have s := rp_c_2 (l.map encI) n i (by rw [List.length_map]; omega) hg c1 hg c2
        rw [wrap_succ (by omega)] at s
        obtain ⟨x, E, r, h⟩ := ih (i + 1) (by omega)
        refine ⟨x, E, RunsTo.loop (s) (by kernel_rfl) (gc_eq _ rfl) (r) rfl (by kernel_rfl) (by kernel_rfl), ?_⟩
        rcases h with ⟨h1, h2⟩ | ⟨h1, h2, h3⟩
        · exact .inl ⟨fun v hv => by
            rcases List.mem_cons.1 hv with rfl | hv
            · omega
            · exact h1 v hv, h2⟩
        · exact .inr ⟨h1, h2, fun h => h3 fun v hv => h v (List.mem_cons_of_mem _ hv)⟩
open Classical in
theorem prices_ok : PrimOk Try.prog 19 prices19 := by
  refine primOk_pure (pol := polW) (fn := Try.f19) (cd := B19) follows_mixed soundW (by kernel_rfl) (by kernel_rfl) (fnok polW.prim _ _ (by kernel_rfl)) (by kernel_rfl) ?_
  intro args res h
  obtain ⟨l, n, rfl, hq⟩ := lnF_inv h
  clear h
  split at hq
  · rename_i hl
    cases hq
    have s0 := rp_a_0 (l.map encI) n
    have s1 := rp_b_0 (l.map encI) n (y5 := .undef)
    obtain ⟨x, E, r, hr⟩ := rp_loop (n := n) hl l.length 0 (by omega)
    rw [List.drop_zero] at hr
    rcases hr with ⟨h1, rfl, rfl⟩ | ⟨rfl, h2, h3⟩
    · by_cases c : (l.length : Int) = n
      · have s2 := rp_d_0 (l.map encI) n (y5 := .int .i64 (l.length : Int)) (by rw [List.length_map]; exact c)
        have t := RunsTo.seq (s0) (RunsTo.seq (RunsTo.seq (s1) (RunsTo.block_exit (c := sub [1, 0, 1] B19) (RunsTo.loop_in (e0 := (env19 (.imm .arg 1 (l.map encI)) (.int .i64 n) (.bool false) (.int .i64 ((0 : Nat) : Int)))) r (b := sub [1, 0, 1, 0, 0] B19) (by kernel_rfl) (by kernel_rfl) (by kernel_rfl)) (by kernel_rfl)) (c := sub [1, 0] B19) (by kernel_rfl) (by kernel_rfl)) (s2) (c := sub [1] B19) (by kernel_rfl) (by kernel_rfl)) (c := B19) (by kernel_rfl) (by kernel_rfl)
        exact ⟨_, _, _, .bool true, t, by simp, by simp only [resultsV, res19]; rfl, by rw [decide_eq_true (p := prOk l ∧ (l.length : Int) = n) ⟨h1, c⟩]; rfl⟩
      · have s2 := rp_d_1 (l.map encI) n (y5 := .int .i64 (l.length : Int)) (by rw [List.length_map]; exact c)
        have t := RunsTo.seq (s0) (RunsTo.seq (RunsTo.seq (s1) (RunsTo.block_exit (c := sub [1, 0, 1] B19) (RunsTo.loop_in (e0 := (env19 (.imm .arg 1 (l.map encI)) (.int .i64 n) (.bool false) (.int .i64 ((0 : Nat) : Int)))) r (b := sub [1, 0, 1, 0, 0] B19) (by kernel_rfl) (by kernel_rfl) (by kernel_rfl)) (by kernel_rfl)) (c := sub [1, 0] B19) (by kernel_rfl) (by kernel_rfl)) (s2) (c := sub [1] B19) (by kernel_rfl) (by kernel_rfl)) (c := B19) (by kernel_rfl) (by kernel_rfl)
        exact ⟨_, _, _, .bool false, t, by simp, by simp only [resultsV, res19]; rfl, by rw [decide_eq_false (p := prOk l ∧ (l.length : Int) = n) (fun h => c h.2)]; rfl⟩
    · have t := RunsTo.seq (s0) (RunsTo.seq_out (RunsTo.seq (s1) (RunsTo.block_ret (i := 0) (c := sub [1, 0, 1] B19) (RunsTo.loop_in (e0 := (env19 (.imm .arg 1 (l.map encI)) (.int .i64 n) (.bool false) (.int .i64 ((0 : Nat) : Int)))) r (b := sub [1, 0, 1, 0, 0] B19) (by kernel_rfl) (by kernel_rfl) (by kernel_rfl)) (by kernel_rfl)) (c := sub [1, 0] B19) (by kernel_rfl) (by kernel_rfl)) (by simp) (c := sub [1] B19) (b := sub [1, 1] B19) (by kernel_rfl)) (c := B19) (by kernel_rfl) (by kernel_rfl)
      exact ⟨_, _, _, .bool false, t, by simp, by simp only [resultsV, res19, mapO, resultV, h2], by rw [decide_eq_false (p := prOk l ∧ (l.length : Int) = n) (fun h => h3 h.1)]; rfl⟩
  · cases hq
theorem edg_cong {d : List (List Int)} {p p' : List Int} {f : Nat} (hf : f ≤ d.length) (h : ∀ a, a < d.length → p.getD a 0 = p'.getD a 0) : edg d p f = edg d p' f := by
  obtain ⟨h1, h2⟩ := edg_ok (d := d) (p := p) hf
  obtain ⟨h3, h4⟩ := edg_ok (d := d) (p := p') hf
  refine strict_eq h1 h3 fun e => (h2 e).trans (Iff.trans ?_ (h4 e).symm)
  have key : ∀ x y, x < y → y < d.length → mkE d p x y = mkE d p' x y := fun x y hxy hy => by
    simp only [mkE, cst]
    rw [h x (by omega), h y hy]
  constructor
  · rintro ⟨x, y, hh, e⟩; exact ⟨x, y, hh, by rw [e, key x y hh.2.1 hh.2.2]⟩
  · rintro ⟨x, y, hh, e⟩; exact ⟨x, y, hh, by rw [e, key x y hh.2.1 hh.2.2]⟩
theorem chosen_cong {d : List (List Int)} {p p' : List Int} (hd : 1 ≤ d.length) (h : ∀ a, a < d.length → p.getD a 0 = p'.getD a 0) : chosen d p = chosen d p' := by
  unfold chosen treeL
  rw [edg_cong (f := 1) hd h, edg_cong (f := 0) (by omega) h]
theorem pad_get (l : List Int) (a : Nat) (ha : a < l.length) : (pad l).getD a 0 = l.getD a 0 := by
  simp only [pad, List.getD, List.getElem?_append_left ha]
theorem sumP_app (a b : List Int) (s : Int) : sumP (a ++ b) s = sumP b (sumP a s) := by simp [sumP, List.foldl_append]
theorem sumP_zero : ∀ (k : Nat) (s : Int), sumP (List.replicate k 0) s = s
  | 0, _ => rfl
  | k + 1, s => by
    have := sumP_zero k (s - 2 * 0)
    rw [show s - 2 * 0 = s by omega] at this
    show sumP (List.replicate k 0) (s - 2 * 0) = s
    rw [show s - 2 * 0 = s by omega, this]
theorem sumP_pad (l : List Int) (s : Int) : sumP (pad l) s = sumP l s := by rw [pad, sumP_app, sumP_zero]
section
variable {d : List (List Int)} {l : List Int} {n : Nat}
theorem rb_s1 {cs : List Ed} {y9 : HV} (hc : costOk cs) (hq : cs.length ≤ 500) : ∀ (k i : Nat) (s : Int), i + k = cs.length → -3000000000 * (i : Int) ≤ s → s ≤ 3000000000 * (i : Int) →
    RunsTo Try.prog polRb 21 (sub [1, 1, 1, 1, 1, 1, 0, 1, 0] B21) (env21 (.imm .arg 1 (d.map encR)) (.imm .arg 1 (l.map encI)) (.int .i64 0) (.int .i64 (n : Int)) (.int .i64 s) (.sl 0 0 cs.length none cs.length 3) (.int .i64 (i : Int)) .undef) [bF cs] (.exit 0) (polRb.keys 21)
      (env21 (.imm .arg 1 (d.map encR)) (.imm .arg 1 (l.map encI)) (.int .i64 0) (.int .i64 (n : Int)) (.int .i64 (sumA (cs.drop i) s)) (.sl 0 0 cs.length none cs.length 3) (.int .i64 (cs.length : Int)) .undef) [bF cs] := by
  intro k
  induction k with
  | zero =>
    intro i s hi h1 h2
    have : i = cs.length := by omega
    subst this
    rw [List.drop_length]
    exact RunsTo.loop_out ((rb_h_1 (d.map encR) (l.map encI) n cs.length (cs.map encF) s cs.length (y9 := .undef) (by omega))) (by simp) (by kernel_rfl) (by kernel_rfl)
  | succ k ih =>
    intro i s hi h1 h2
    have hdrop : cs.drop i = at_ cs i :: cs.drop (i + 1) := by
      rw [List.drop_eq_getElem_cons (by omega)]
      simp [at_, List.getD, List.getElem?_eq_getElem (show i < cs.length by omega)]
    have hmem : at_ cs i ∈ cs := by
      have : at_ cs i = cs[i] := by simp [at_, List.getD, List.getElem?_eq_getElem (show i < cs.length by omega)]
      rw [this]; exact List.getElem_mem _
    have hco := hc _ hmem
    rw [hdrop]
    have s1 := rb_h_0 (d.map encR) (l.map encI) n cs.length (cs.map encF) s i (y9 := .undef) (by omega) (ixf (by omega)) (lf2 (H := [bF cs]) (b := 0) rfl rfl (by omega))
    have w3 : IntKind.i64.wrap (s + (at_ cs i).1) = s + (at_ cs i).1 := wrap_id (by omega) (by omega)
    rw [wrap_succ (by omega), w3] at s1
    have r := ih (i + 1) (s + (at_ cs i).1) (by omega) (by omega) (by omega)
    exact RunsTo.loop (s1) (by kernel_rfl) (gc_eq _ rfl) (r) rfl (by kernel_rfl) (by kernel_rfl)
end
section
variable {d : List (List Int)} {l : List Int} {n : Nat}
theorem rb_s2 {cs : List Ed} (hn : l.length = n) (hN : n ≤ 11) (hp : prOk l) : ∀ (k i : Nat) (s : Int), i + k = n → -10000000000000 - 20000 * (i : Int) ≤ s → s ≤ 10000000000000 + 20000 * (i : Int) →
    RunsTo Try.prog polRb 21 (sub [1, 1, 1, 1, 1, 1, 1, 0, 1, 0] B21) (env21 (.imm .arg 1 (d.map encR)) (.imm .arg 1 (l.map encI)) (.int .i64 0) (.int .i64 (n : Int)) (.int .i64 s) .undef .undef (.int .i64 (i : Int))) [bF cs] (.exit 2) (polRb.keys 21)
      (env21 (.imm .arg 1 (d.map encR)) (.imm .arg 1 (l.map encI)) (.int .i64 0) (.int .i64 (n : Int)) (.int .i64 (sumP (l.drop i) s)) .undef .undef (.int .i64 (n : Int))) [bF cs] := by
  intro k
  induction k with
  | zero =>
    intro i s hi h1 h2
    have : i = n := by omega
    subst this
    rw [List.drop_of_length_le (by omega)]
    exact RunsTo.loop_out ((rb_j_1 (d.map encR) (l.map encI) i 0 (cs.map encF) s i (y7 := .undef) (y8 := .undef) (by omega))) (by simp) (by kernel_rfl) (by kernel_rfl)
  | succ k ih =>
    intro i s hi h1 h2
    have hdrop : l.drop i = l.getD i 0 :: l.drop (i + 1) := by
      rw [List.drop_eq_getElem_cons (by omega), getD_at (show i < l.length by omega)]
    have b := hp.at (i := i) (by omega)
    rw [hdrop]
    have s1 := rb_j_0 (d.map encR) (l.map encI) n 0 (cs.map encF) s i (y7 := .undef) (y8 := .undef) (by omega) (gx (by omega))
    have w2 : IntKind.i64.wrap (2 * l.getD i 0) = 2 * l.getD i 0 := wrap_id (by omega) (by omega)
    have w3 : IntKind.i64.wrap (s - 2 * l.getD i 0) = s - 2 * l.getD i 0 := wrap_id (by omega) (by omega)
    rw [wrap_succ (by omega), w2, w3] at s1
    have r := ih (i + 1) (s - 2 * l.getD i 0) (by omega) (by omega) (by omega)
    exact RunsTo.loop (s1) (by kernel_rfl) (gc_eq _ rfl) (r) rfl (by kernel_rfl) (by kernel_rfl)
end
theorem sumA_bd : ∀ (l : List Ed) (s : Int), costOk l → s - 3000000000 * (l.length : Int) ≤ sumA l s ∧ sumA l s ≤ s + 3000000000 * (l.length : Int)
  | [], s, _ => by simp [sumA]
  | e :: l, s, h => by
    have h1 := h e (by simp)
    have h2 := sumA_bd l (s + e.1) (fun x hx => h x (by simp [hx]))
    show s - 3000000000 * ((e :: l).length : Int) ≤ sumA l (s + e.1) ∧ sumA l (s + e.1) ≤ _
    rw [List.length_cons]
    omega
theorem q51 {pol' : Pol} (hp : pol'.prim 51 = some chosen51) {d : List (List Int)} {l : List Int} (hd : okD d) (hn : l.length = d.length) (hl : prOk l) (H : Heap) :
    ∀ kf, callN Try.prog pol' (kf + 1) 51 [.imm .arg 1 (d.map encR), .imm .arg 1 (l.map encI)] H = some (.sl H.length 0 (chosen d l).length none (chosen d l).length 3, H ++ [bF (chosen d l)]) := fun kf => by
  rw [prim_call (pol := pol') (g := 51) (F := chosen51) hp (rs := [.imm .arg 1 (d.map encR), .imm .arg 1 (l.map encI)]) (by simp only [mapO, arg_rw, arg_li]) (res := .own 3 ((chosen d l).map encF)) (by simp only [chosen51, rlF, mapO_map decR_enc, mapO_map decI_enc]; rw [if_pos ⟨hd, hn, hl⟩]), recv_F]
theorem rbound_ok : PrimOk Try.prog 21 bound21 := by
  refine primOk_pure (pol := polRb) (fn := Try.f21) (cd := B21) follows_mixed soundRb (by kernel_rfl) (by kernel_rfl) (fnok polRb.prim _ _ (by kernel_rfl)) (by kernel_rfl) ?_
  intro args res h
  obtain ⟨d, l, rfl, hq⟩ := rlF_inv h
  clear h
  split at hq
  · rename_i hc
    obtain ⟨hd, hn, hp⟩ := hc
    cases hq
    have hdn := hd.1
    have s0 := rb_a_0 (d.map encR) (l.map encI)
    have s1 := rb_b_0 (d.map encR) (l.map encI) (y5 := .undef) (y6 := .undef) (y7 := .undef) (y8 := .undef) (y9 := .undef)
    rw [List.length_map] at s1
    by_cases c1 : d.length = 1
    · have s2 := rb_c_0 (d.map encR) (l.map encI) d.length (y6 := .undef) (y7 := .undef) (y8 := .undef) (y9 := .undef) (by omega)
      have t := RunsTo.seq (s0) (RunsTo.seq (s1) (RunsTo.seq_out (s2) (by simp) (c := sub [1, 1] B21) (b := sub [1, 1, 1] B21) (by kernel_rfl)) (c := sub [1] B21) (by kernel_rfl) (by kernel_rfl)) (c := B21) (by kernel_rfl) (by kernel_rfl)
      have e : bndT d l = 0 := by
        unfold bndT
        rw [if_pos (by omega), c1]
        have := (hd.2.2 0 (by omega) 0 (by omega)).2.2 rfl
        rw [show (1 - 1 : Nat) = 0 from rfl, this]; rfl
      rw [e]
      exact ⟨_, _, _, .int .i64 0, t, by simp, by simp only [resultsV, res21]; rfl, rfl⟩
    have s2 := rb_c_1 (d.map encR) (l.map encI) d.length (y6 := .undef) (y7 := .undef) (y8 := .undef) (y9 := .undef) (by omega)
    by_cases c2 : d.length = 2
    · have b1 := hd.at (i := 0) (j := 1) (by omega) (by omega)
      have s3 := rb_d_0 (d.map encR) (l.map encI) d.length (y6 := .undef) (y7 := .undef) (y8 := .undef) (y9 := .undef) (by omega) (g22' (d := d) (v := 0) (by omega)) (g23' (d := d) (v := 0) (u := 1) hd (by omega) (by omega))
      rw [wrap_id (by omega) (by omega)] at s3
      have t := RunsTo.seq (s0) (RunsTo.seq (s1) (RunsTo.seq (s2) (RunsTo.seq_out (s3) (by simp) (c := sub [1, 1, 1] B21) (b := sub [1, 1, 1, 1] B21) (by kernel_rfl)) (c := sub [1, 1] B21) (by kernel_rfl) (by kernel_rfl)) (c := sub [1] B21) (by kernel_rfl) (by kernel_rfl)) (c := B21) (by kernel_rfl) (by kernel_rfl)
      have e : bndT d l = 2 * at2 d 0 1 := by
        unfold bndT
        rw [if_pos (by omega), c2]
      rw [e]
      exact ⟨_, _, _, .int .i64 (2 * at2 d 0 1), t, by simp, by simp only [resultsV, res21]; rfl, rfl⟩
    have s3 := rb_d_1 (d.map encR) (l.map encI) d.length (y6 := .undef) (y7 := .undef) (y8 := .undef) (y9 := .undef) (by omega)
    have s4 := rb_e_0 (d.map encR) (l.map encI) d.length (y6 := .undef) (y7 := .undef) (y8 := .undef) (y9 := .undef)
    have s5 := rb_f_0 (d.map encR) (l.map encI) d.length (y7 := .undef) (y8 := .undef) (y9 := .undef) (q51 (pol' := polRb) (by kernel_rfl) hd hn hp [])
    have e : bndT d l = sumP l (sumA (chosen d l) 0) := by
      unfold bndT
      rw [if_neg (by omega)]
      show sumP (pad l) (sumA (chosen d (pad l)) 0) = _
      rw [sumP_pad, chosen_cong (p := pad l) (p' := l) (by omega) (fun a ha => pad_get l a (by omega))]
    have hco : costOk (chosen d l) := by
      rw [← chosen_cong (p := pad l) (p' := l) (by omega) (fun a ha => pad_get l a (by omega))]
      exact chosen_cost hd (pad_small (by omega) hp)
    have hcl := chosen_len (ps := l) hd
    rw [e]
    generalize chosen d l = cs at *
    have s6 := rb_g_0 (d.map encR) (l.map encI) d.length cs.length (cs.map encF) (y8 := .undef) (y9 := .undef)
    have r1 := rb_s1 (d := d) (l := l) (n := d.length) (y9 := .undef) hco (by omega) cs.length 0 0 (by omega) (by omega) (by omega)
    rw [List.drop_zero] at r1
    have hb := sumA_bd cs 0 hco
    generalize sumA cs 0 = sm at *
    have s7 := rb_i_0 (d.map encR) (l.map encI) d.length cs.length (cs.map encF) sm (y8 := .int .i64 (cs.length : Int)) (y9 := .undef)
    have r2 := rb_s2 (d := d) (l := l) (n := d.length) (cs := cs) hn (by omega) hp d.length 0 sm (by omega) (by omega) (by omega)
    rw [List.drop_zero] at r2
    have s8 := rb_k_0 (d.map encR) (l.map encI) d.length 0 (cs.map encF) (sumP l sm) (y7 := .undef) (y8 := .undef) (y9 := .int .i64 (d.length : Int))
    have t := RunsTo.seq (s0) (RunsTo.seq (s1) (RunsTo.seq (s2) (RunsTo.seq (s3) (RunsTo.seq (s4) (RunsTo.seq (s5) (RunsTo.seq (RunsTo.seq (s6) (RunsTo.block_exit (c := sub [1, 1, 1, 1, 1, 1, 0, 1] B21) (RunsTo.loop_in (e0 := (env21 (.imm .arg 1 (d.map encR)) (.imm .arg 1 (l.map encI)) (.int .i64 0) (.int .i64 (d.length : Int)) (.int .i64 0) (.sl 0 0 cs.length none cs.length 3) (.int .i64 ((0 : Nat) : Int)) .undef)) r1 (b := sub [1, 1, 1, 1, 1, 1, 0, 1, 0, 0] B21) (by kernel_rfl) (by kernel_rfl) (by kernel_rfl)) (by kernel_rfl)) (c := sub [1, 1, 1, 1, 1, 1, 0] B21) (by kernel_rfl) (by kernel_rfl)) (RunsTo.seq (RunsTo.seq (s7) (RunsTo.block_exit (c := sub [1, 1, 1, 1, 1, 1, 1, 0, 1] B21) (RunsTo.loop_in (e0 := (env21 (.imm .arg 1 (d.map encR)) (.imm .arg 1 (l.map encI)) (.int .i64 0) (.int .i64 (d.length : Int)) (.int .i64 sm) (.sl 0 0 cs.length none cs.length 3) (.int .i64 (cs.length : Int)) (.int .i64 ((0 : Nat) : Int)))) r2 (b := sub [1, 1, 1, 1, 1, 1, 1, 0, 1, 0, 0] B21) (by kernel_rfl) (by kernel_rfl) (by kernel_rfl)) (by kernel_rfl)) (c := sub [1, 1, 1, 1, 1, 1, 1, 0] B21) (by kernel_rfl) (by kernel_rfl)) (s8) (c := sub [1, 1, 1, 1, 1, 1, 1] B21) (by kernel_rfl) (by kernel_rfl)) (c := sub [1, 1, 1, 1, 1, 1] B21) (by kernel_rfl) (by kernel_rfl)) (c := sub [1, 1, 1, 1, 1] B21) (by kernel_rfl) (by kernel_rfl)) (c := sub [1, 1, 1, 1] B21) (by kernel_rfl) (by kernel_rfl)) (c := sub [1, 1, 1] B21) (by kernel_rfl) (by kernel_rfl)) (c := sub [1, 1] B21) (by kernel_rfl) (by kernel_rfl)) (c := sub [1] B21) (by kernel_rfl) (by kernel_rfl)) (c := B21) (by kernel_rfl) (by kernel_rfl)
    exact ⟨_, _, _, .int .i64 (sumP l sm), t, by simp, by simp only [resultsV, res21]; rfl, rfl⟩
  · cases hq
end Go.Proofs.Ytlendaofkmhgmaa
end
section
open Go Go.HL
namespace Go.Proofs.Ytlendaofkmhgmaa
noncomputable def polLb3 : Pol := { pol with prim := fun g => if g == 20 then some awakeF else if g == 15 then some table15 else if g == 16 then some list16 else if g == 17 then some bound17 else if g == 18 then some miles46 else if g == 19 then some prices19 else if g == 21 then some bound21 else none }
theorem soundLb3 (n : Nat) : CallSound Try.prog (callN Try.prog polLb3 n) := sound_prim _ (fun g f h => by
  split at h
  · rename_i hg; cases h; rw [eq_of_beq hg]; exact awake_prim
  split at h
  · rename_i hg; cases h; rw [eq_of_beq hg]; exact table_ok
  split at h
  · rename_i hg; cases h; rw [eq_of_beq hg]; exact list_ok
  split at h
  · rename_i hg; cases h; rw [eq_of_beq hg]; exact Bound_ok
  split at h
  · rename_i hg; cases h; rw [eq_of_beq hg]; exact dist_ok
  split at h
  · rename_i hg; cases h; rw [eq_of_beq hg]; exact prices_ok
  split at h
  · rename_i hg; cases h; rw [eq_of_beq hg]; exact rbound_ok
  · cases h) n
end Go.Proofs.Ytlendaofkmhgmaa
end
section
open Go Go.HL
namespace Go.Proofs.Ytlendaofkmhgmaa
set_option maxRecDepth 100000
noncomputable def B3 : Code := Try.f3.body.getD .skip
abbrev env3 (v0 v1 v4 v5 v6 v7 v8 : HV) : Env := [(0, v0), (1, v1), (4, v4), (5, v5), (6, v6), (7, v7), (8, v8)]
theorem lbo_a_0 (N : Nat) (rw la : List HV) : RunsTo Try.prog polLb3 3 (sub [0] B3) [(0, .imm .arg 1 rw), (1, .imm .arg 1 la)] [] .normal (polLb3.keys 3) (env3 (.imm .arg 1 rw) (.imm .arg 1 la) (.bool false) .undef .undef .undef .undef) [] :=
  RunsTo.hin N 60 [] fun kf hk => ⟨_, by kernel_rfl, .nil⟩
theorem lbo_b_0 (N : Nat) (rw la : List HV) (n : Nat) (xs : List HV) (m : Nat) (ts : List HV) (g0 : ∀ kf, callN Try.prog polLb3 (kf + 1) 15 [.imm .arg 1 rw] [] = some (.sl 0 0 n none n 1, [.arr 1 xs true 0])) (g1 : ∀ kf, callN Try.prog polLb3 (kf + 1) 16 [.imm .arg 1 la] [.arr 1 xs true 0] = some (.sl 1 0 m none m 1, [.arr 1 xs true 0, .arr 1 ts true 0])) : RunsTo Try.prog polLb3 3 (sub [1, 0] B3) (env3 (.imm .arg 1 rw) (.imm .arg 1 la) (.bool false) .undef .undef .undef .undef) [] .normal (polLb3.keys 3) (env3 (.imm .arg 1 rw) (.imm .arg 1 la) (.bool false) (.sl 0 0 n none n 1) (.sl 1 0 m none m 1) .undef .undef) [.arr 1 xs true 0, .arr 1 ts true 0] :=
  RunsTo.hin N 60 [⟨1, 1, .sl 0 0 n none n 1, [.arr 1 xs true 0]⟩, ⟨1, 3, .sl 1 0 m none m 1, [.arr 1 xs true 0, .arr 1 ts true 0]⟩] fun kf hk => ⟨_, by kernel_rfl, (oC (g0 kf) (oC (g1 kf) .nil))⟩
theorem lbo_c_0 (N : Nat) (rw la : List HV) (n m : Nat) (xs ts : List HV) (a : Int) (e : Int) (g0 : ∀ kf, callN Try.prog polLb3 (kf + 1) 17 [.sl 0 0 n none n 1, .sl 1 0 m none m 1] [.arr 1 xs true 0, .arr 1 ts true 0] = some (.tuple [.i a, .i e], [.arr 1 xs true 0, .arr 1 ts true 0])) : RunsTo Try.prog polLb3 3 (sub [1, 1, 0] B3) (env3 (.imm .arg 1 rw) (.imm .arg 1 la) (.bool false) (.sl 0 0 n none n 1) (.sl 1 0 m none m 1) .undef .undef) [.arr 1 xs true 0, .arr 1 ts true 0] .normal (polLb3.keys 3) (env3 (.imm .arg 1 rw) (.imm .arg 1 la) (.bool false) (.sl 0 0 n none n 1) (.sl 1 0 m none m 1) (.i a) (.i e)) [.arr 1 xs true 0, .arr 1 ts true 0] :=
  RunsTo.hin N 60 [⟨2, 2, .tuple [.i a, .i e], [.arr 1 xs true 0, .arr 1 ts true 0]⟩] fun kf hk => ⟨_, by kernel_rfl, (oC (g0 kf) .nil)⟩
theorem lbo_d_0 (N : Nat) (rw la : List HV) (n m : Nat) (xs ts : List HV) (a e : Int)(g0 : ∀ kf, callN Try.prog polLb3 (kf + 1) 18 [.sl 0 0 n none n 1] [.arr 1 xs true 0, .arr 1 ts true 0] = some (.bool true, [.arr 1 xs true 0, .arr 1 ts true 0])) (g1 : ∀ kf, callN Try.prog polLb3 (kf + 1) 19 [.sl 1 0 m none m 1, .i (n : Int)] [.arr 1 xs true 0, .arr 1 ts true 0] = some (.bool true, [.arr 1 xs true 0, .arr 1 ts true 0])) : RunsTo Try.prog polLb3 3 (sub [1, 1, 1, 0] B3) (env3 (.imm .arg 1 rw) (.imm .arg 1 la) (.bool false) (.sl 0 0 n none n 1) (.sl 1 0 m none m 1) (.i a) (.i e)) [.arr 1 xs true 0, .arr 1 ts true 0] .normal (polLb3.keys 3) (env3 (.imm .arg 1 rw) (.imm .arg 1 la) (.bool false) (.sl 0 0 n none n 1) (.sl 1 0 m none m 1) (.i a) (.i e)) [.arr 1 xs true 0, .arr 1 ts true 0] :=
  RunsTo.hin N 60 [⟨3, 1, .bool true, [.arr 1 xs true 0, .arr 1 ts true 0]⟩, ⟨3, 7, .bool true, [.arr 1 xs true 0, .arr 1 ts true 0]⟩] fun kf hk => ⟨_, by kernel_rfl, (oC (g0 kf) (oC (g1 kf) .nil))⟩
theorem lbo_d_1 (N : Nat) (rw la : List HV) (n m : Nat) (xs ts : List HV) (a e : Int)(g0 : ∀ kf, callN Try.prog polLb3 (kf + 1) 18 [.sl 0 0 n none n 1] [.arr 1 xs true 0, .arr 1 ts true 0] = some (.bool true, [.arr 1 xs true 0, .arr 1 ts true 0])) (g1 : ∀ kf, callN Try.prog polLb3 (kf + 1) 19 [.sl 1 0 m none m 1, .i (n : Int)] [.arr 1 xs true 0, .arr 1 ts true 0] = some (.bool false, [.arr 1 xs true 0, .arr 1 ts true 0])) (g2 : a = 0) (g3 : e = 2) : RunsTo Try.prog polLb3 3 (sub [1, 1, 1, 0] B3) (env3 (.imm .arg 1 rw) (.imm .arg 1 la) (.bool false) (.sl 0 0 n none n 1) (.sl 1 0 m none m 1) (.i a) (.i e)) [.arr 1 xs true 0, .arr 1 ts true 0] .ret (polLb3.keys 3) (env3 (.imm .arg 1 rw) (.imm .arg 1 la) (.bool true) (.sl 0 0 n none n 1) (.sl 1 0 m none m 1) (.i a) (.i e)) [.arr 1 xs true 0, .arr 1 ts true 0] :=
  RunsTo.hin N 60 [⟨3, 1, .bool true, [.arr 1 xs true 0, .arr 1 ts true 0]⟩, ⟨3, 7, .bool false, [.arr 1 xs true 0, .arr 1 ts true 0]⟩, ⟨4, 1, .bool true, [.arr 1 xs true 0, .arr 1 ts true 0]⟩, ⟨4, 4, .bool true, [.arr 1 xs true 0, .arr 1 ts true 0]⟩] fun kf hk => ⟨_, by kernel_rfl, (oC (g0 kf) (oC (g1 kf) (oB [.arr 1 xs true 0, .arr 1 ts true 0] (decide_eq_true g2) (oB [.arr 1 xs true 0, .arr 1 ts true 0] (decide_eq_true g3) .nil))))⟩
theorem lbo_d_4 (N : Nat) (rw la : List HV) (n m : Nat) (xs ts : List HV) (a e : Int)(g0 : ∀ kf, callN Try.prog polLb3 (kf + 1) 18 [.sl 0 0 n none n 1] [.arr 1 xs true 0, .arr 1 ts true 0] = some (.bool false, [.arr 1 xs true 0, .arr 1 ts true 0])) (g1 : a = 0) (g2 : e = 2) : RunsTo Try.prog polLb3 3 (sub [1, 1, 1, 0] B3) (env3 (.imm .arg 1 rw) (.imm .arg 1 la) (.bool false) (.sl 0 0 n none n 1) (.sl 1 0 m none m 1) (.i a) (.i e)) [.arr 1 xs true 0, .arr 1 ts true 0] .ret (polLb3.keys 3) (env3 (.imm .arg 1 rw) (.imm .arg 1 la) (.bool true) (.sl 0 0 n none n 1) (.sl 1 0 m none m 1) (.i a) (.i e)) [.arr 1 xs true 0, .arr 1 ts true 0] :=
  RunsTo.hin N 60 [⟨3, 1, .bool false, [.arr 1 xs true 0, .arr 1 ts true 0]⟩, ⟨4, 1, .bool true, [.arr 1 xs true 0, .arr 1 ts true 0]⟩, ⟨4, 4, .bool true, [.arr 1 xs true 0, .arr 1 ts true 0]⟩] fun kf hk => ⟨_, by kernel_rfl, (oC (g0 kf) (oB [.arr 1 xs true 0, .arr 1 ts true 0] (decide_eq_true g1) (oB [.arr 1 xs true 0, .arr 1 ts true 0] (decide_eq_true g2) .nil)))⟩
theorem lbo_e_0 (N : Nat) (rw la : List HV) (n m : Nat) (xs ts : List HV) (a e : Int) (c : Int) (g0 : ∀ kf, callN Try.prog polLb3 (kf + 1) 21 [.sl 0 0 n none n 1, .sl 1 0 m none m 1] [.arr 1 xs true 0, .arr 1 ts true 0] = some (.i c, [.arr 1 xs true 0, .arr 1 ts true 0])) (g1 : a = c) (g2 : e = 0) : RunsTo Try.prog polLb3 3 (sub [1, 1, 1, 1] B3) (env3 (.imm .arg 1 rw) (.imm .arg 1 la) (.bool false) (.sl 0 0 n none n 1) (.sl 1 0 m none m 1) (.i a) (.i e)) [.arr 1 xs true 0, .arr 1 ts true 0] .ret (polLb3.keys 3) (env3 (.imm .arg 1 rw) (.imm .arg 1 la) (.bool true) (.sl 0 0 n none n 1) (.sl 1 0 m none m 1) (.i a) (.i e)) [.arr 1 xs true 0, .arr 1 ts true 0] :=
  RunsTo.hin N 60 [⟨5, 3, .i c, [.arr 1 xs true 0, .arr 1 ts true 0]⟩, ⟨5, 4, .bool true, [.arr 1 xs true 0, .arr 1 ts true 0]⟩, ⟨5, 7, .bool true, [.arr 1 xs true 0, .arr 1 ts true 0]⟩] fun kf hk => ⟨_, by kernel_rfl, (oC (g0 kf) (oB [.arr 1 xs true 0, .arr 1 ts true 0] (decide_eq_true g1) (oB [.arr 1 xs true 0, .arr 1 ts true 0] (decide_eq_true g2) .nil)))⟩
end Go.Proofs.Ytlendaofkmhgmaa
end
section
open Go Go.HL
namespace Go.Proofs.Ytlendaofkmhgmaa
theorem res3 : Try.f3.results.toList = [.tmp 4] := by kernel_rfl
section
variable {pol' : Pol} {d : List (List Int)} {l : List Int} {H : Heap} (hx : H[0]? = some (.arr 1 (d.map encO) true 0)) (ht : H[1]? = some (bI l))
open Classical in
theorem q17 (hp : pol'.prim 17 = some bound17) (hx : H[0]? = some (.arr 1 (d.map encO) true 0)) (ht : H[1]? = some (bI l)) (h1 : d.length ≤ 1000) (h2 : (d.all fun r => decide (r.length ≤ 1000)) = true) (h3 : l.length ≤ 1000) {a e : Int} (he : (if okD d ∧ l.length = d.length ∧ prOk l then (bndT d l, (0 : Int)) else (0, 2)) = (a, e)) : ∀ k, callN Try.prog pol' (k + 1) 17 [.sl 0 0 d.length none d.length 1, .sl 1 0 l.length none l.length 1] H = some (.tuple [.int .i64 a, .int .i64 e], H) := fun k => by
  rw [prim_call (pol := pol') (g := 17) (F := bound17) hp (rs := [.imm .arg 1 (d.map encR), .imm .arg 1 (l.map encI)]) (by simp only [mapO, arg_rs rfl hx, arg_sl rfl ht]) (res := .tuple [.int .i64 a, .int .i64 e]) (by
    simp only [bound17, rlF, mapO_map decR_enc, mapO_map decI_enc]
    rw [if_pos ⟨⟨h1, h2⟩, h3⟩]
    split at he <;> rename_i hc <;> cases he
    · rw [if_pos hc]
    · rw [if_neg hc])]; rfl
end
section
variable {pol' : Pol} {d : List (List Int)} {l : List Int} {H : Heap} (hx : H[0]? = some (.arr 1 (d.map encO) true 0)) (ht : H[1]? = some (bI l))
theorem q18p (hp : pol'.prim 18 = some miles46) (hx : H[0]? = some (.arr 1 (d.map encO) true 0)) (h1 : d.length ≤ 1000) (h2 : (d.all fun r => decide (r.length ≤ 1000)) = true) (b : Bool) (hb : okB d = b) : ∀ k, callN Try.prog pol' (k + 1) 18 [.sl 0 0 d.length none d.length 1] H = some (.bool b, H) := fun k => by
  rw [prim_call (pol := pol') (g := 18) (F := miles46) hp (rs := [.imm .arg 1 (d.map encR)]) (by simp only [mapO, arg_rs rfl hx]) (res := .bool b) (by simp only [miles46, rwF, mapO_map decR_enc]; rw [if_pos ⟨h1, h2⟩, hb])]; rfl
end
section
variable {pol' : Pol} {d : List (List Int)} {l : List Int} {H : Heap} (hx : H[0]? = some (.arr 1 (d.map encO) true 0)) (ht : H[1]? = some (bI l))
open Classical in
theorem q19 (hp : pol'.prim 19 = some prices19) (ht : H[1]? = some (bI l)) (n : Nat) (hl : l.length ≤ 1000) (b : Bool) (hb : decide (prOk l ∧ (l.length : Int) = (n : Int)) = b) : ∀ k, callN Try.prog pol' (k + 1) 19 [.sl 1 0 l.length none l.length 1, .int .i64 (n : Int)] H = some (.bool b, H) := fun k => by
  rw [prim_call (pol := pol') (g := 19) (F := prices19) hp (rs := [.imm .arg 1 (l.map encI), .int .i64 (n : Int)]) (by simp only [mapO, arg_sl rfl ht]; rfl) (res := .bool b) (by simp only [prices19, lnF, mapO_map decI_enc]; rw [if_pos hl, hb])]; rfl
end
section
variable {pol' : Pol} {d : List (List Int)} {l : List Int} {H : Heap} (hx : H[0]? = some (.arr 1 (d.map encO) true 0)) (ht : H[1]? = some (bI l))
theorem q21 (hp : pol'.prim 21 = some bound21) (hx : H[0]? = some (.arr 1 (d.map encO) true 0)) (ht : H[1]? = some (bI l)) (h1 : okD d) (h2 : l.length = d.length) (h3 : prOk l) : ∀ k, callN Try.prog pol' (k + 1) 21 [.sl 0 0 d.length none d.length 1, .sl 1 0 l.length none l.length 1] H = some (.int .i64 (bndT d l), H) := fun k => by
  rw [prim_call (pol := pol') (g := 21) (F := bound21) hp (rs := [.imm .arg 1 (d.map encR), .imm .arg 1 (l.map encI)]) (by simp only [mapO, arg_rs rfl hx, arg_sl rfl ht]) (res := .int .i64 (bndT d l)) (by simp only [bound21, rlF, mapO_map decR_enc, mapO_map decI_enc]; rw [if_pos ⟨h1, h2, h3⟩])]; rfl
end
open Classical in
theorem roundBounds_law (R0 : List (List Int)) (l0 : List Int) : ∃ E H, RunsTo Try.prog polLb3 3 B3 (args0 [.imm .arg 1 (R0.map encR), .imm .arg 1 (l0.map encI)]) [] .ret (polLb3.keys 3) E H ∧ E.get 4 = .bool true := by
  have a1 := lbo_a_0 0 (R0.map encR) (l0.map encI)
  have k15 : ∀ k, callN Try.prog polLb3 (k + 1) 15 [.imm .arg 1 (R0.map encR)] [] = some (.sl 0 0 (tabL R0).length none (tabL R0).length 1, [.arr 1 ((tabL R0).map encO) true 0]) := fun k => by
    rw [prim_call (pol := polLb3) (g := 15) (F := table15) (by kernel_rfl) (rs := [.imm .arg 1 (R0.map encR)]) (by simp only [mapO, arg_rw]) (res := .own 1 ((tabL R0).map encO)) (by simp only [table15, rwF, mapO_map decR_enc]), recv_rows]; rfl
  have k16 : ∀ k, callN Try.prog polLb3 (k + 1) 16 [.imm .arg 1 (l0.map encI)] [.arr 1 ((tabL R0).map encO) true 0] = some (.sl 1 0 (l0.take 13).length none (l0.take 13).length 1, [.arr 1 ((tabL R0).map encO) true 0, bI (l0.take 13)]) := fun k => by
    rw [prim_call (pol := polLb3) (g := 16) (F := list16) (by kernel_rfl) (rs := [.imm .arg 1 (l0.map encI)]) (by simp only [mapO, arg_li]) (res := .own 1 ((l0.take 13).map encI)) (by simp only [list16, liF, mapO_map decI_enc]), recv_ints]; rfl
  have b1 := lbo_b_0 0 (R0.map encR) (l0.map encI) _ _ _ _ k15 k16
  obtain ⟨hd12, hdr⟩ := tabL_len R0
  have hl13 : (l0.take 13).length ≤ 13 := by rw [List.length_take]; omega
  generalize tabL R0 = d at b1 hd12 hdr
  generalize l0.take 13 = l at b1 hl13
  have up : ∀ (a e : Int) (E : Env) (H : Heap), (if okD d ∧ l.length = d.length ∧ prOk l then (bndT d l, (0 : Int)) else (0, 2)) = (a, e) →
      RunsTo Try.prog polLb3 3 (sub [1, 1, 1] B3) (env3 (.imm .arg 1 (R0.map encR)) (.imm .arg 1 (l0.map encI)) (.bool false) (.sl 0 0 d.length none d.length 1) (.sl 1 0 l.length none l.length 1) (.int .i64 a) (.int .i64 e)) [.arr 1 (d.map encO) true 0, bI l] .ret (polLb3.keys 3) E H →
      RunsTo Try.prog polLb3 3 B3 (args0 [.imm .arg 1 (R0.map encR), .imm .arg 1 (l0.map encI)]) [] .ret (polLb3.keys 3) E H := fun a e E H he t => by
    have c1 := lbo_c_0 0 (R0.map encR) (l0.map encI) d.length l.length (d.map encO) (l.map encI) a e (q17 (pol' := polLb3) (by kernel_rfl) (d := d) (l := l) (H := [.arr 1 (d.map encO) true 0, bI l]) rfl rfl (by omega) hdr (by omega) he)
    have t1 := RunsTo.seq c1 t (c := sub [1, 1] B3) (by kernel_rfl) (by kernel_rfl)
    exact RunsTo.seq a1 (RunsTo.seq b1 t1 (c := sub [1] B3) (by kernel_rfl) (by kernel_rfl)) (c := B3) (by kernel_rfl) (by kernel_rfl)
  by_cases c1 : okD d
  · have hd := c1.1
    have k18 := q18p (pol' := polLb3) (by kernel_rfl) (d := d) (H := [.arr 1 (d.map encO) true 0, bI l]) rfl (by omega) hdr true (okB_true c1)
    by_cases c2 : prOk l ∧ (l.length : Int) = (d.length : Int)
    · have k19 := q19 (pol' := polLb3) (by kernel_rfl) (l := l) (H := [.arr 1 (d.map encO) true 0, bI l]) rfl d.length (by omega) true (decide_eq_true c2)
      have d1 := lbo_d_0 0 (R0.map encR) (l0.map encI) d.length l.length (d.map encO) (l.map encI) (bndT d l) 0 k18 k19
      have e1 := lbo_e_0 0 (R0.map encR) (l0.map encI) d.length l.length (d.map encO) (l.map encI) (bndT d l) 0 _ (q21 (pol' := polLb3) (by kernel_rfl) (d := d) (l := l) (H := [.arr 1 (d.map encO) true 0, bI l]) rfl rfl c1 (by omega) c2.1) rfl rfl
      exact ⟨_, _, up (bndT d l) 0 _ _ (if_pos ⟨c1, by omega, c2.1⟩) (RunsTo.seq d1 e1 (c := sub [1, 1, 1] B3) (by kernel_rfl) (by kernel_rfl)), rfl⟩
    · have k19 := q19 (pol' := polLb3) (by kernel_rfl) (l := l) (H := [.arr 1 (d.map encO) true 0, bI l]) rfl d.length (by omega) false (decide_eq_false c2)
      have x1 := lbo_d_1 0 (R0.map encR) (l0.map encI) d.length l.length (d.map encO) (l.map encI) 0 2 k18 k19 rfl rfl
      exact ⟨_, _, up 0 2 _ _ (if_neg fun h => c2 ⟨h.2.2, by omega⟩) (RunsTo.seq_out x1 (by simp) (c := sub [1, 1, 1] B3) (b := sub [1, 1, 1, 1] B3) (by kernel_rfl)), rfl⟩
  · have k18 := q18p (pol' := polLb3) (by kernel_rfl) (d := d) (H := [.arr 1 (d.map encO) true 0, bI l]) rfl (by omega) hdr false (okB_false c1)
    have x1 := lbo_d_4 0 (R0.map encR) (l0.map encI) d.length l.length (d.map encO) (l.map encI) 0 2 k18 rfl rfl
    exact ⟨_, _, up 0 2 _ _ (if_neg fun h => c1 h.1) (RunsTo.seq_out x1 (by simp) (c := sub [1, 1, 1] B3) (b := sub [1, 1, 1, 1] B3) (by kernel_rfl)), rfl⟩
end Go.Proofs.Ytlendaofkmhgmaa
end
section
namespace Go.HL
open Go.ChangeShapes Go.WideShapes Go.ChangeAt Go.RowKit Go.Deep
theorem okNil (w : World) (r : Nat) : okOf Ctx.nil w.heap.size false r := by
  refine ⟨fun hM => ?_, by simp⟩
  obtain ⟨b, y, h1, _, _⟩ := M_iff.1 hM
  simp [Ctx.nil] at h1
theorem cell_lt {w : World} {a : Addr} {v : Value} (h : w.cell? a = some v) : a.block < w.heap.size := by
  rcases Nat.lt_or_ge a.block w.heap.size with hl | hl
  · exact hl
  · have : w.heap[a.block]? = none := by simp [hl]
    simp [World.cell?, this] at h
end Go.HL
end
section
namespace Go.HL
open Go.ChangeShapes Go.WideShapes Go.ChangeAt Go.RowKit Go.Deep
theorem arg_ints_ok {H : Type} {enc : TypeId × Value → H} {P : Program} {W : World} {base : Nat} {t q : TypeId} {v : Value} {d : DataW H} {ps : List MemPlace} (ht : P.underlying t = some (.slice q)) (hq : P.underlying q = some (.int .i64)) (cq : P.cellsOf q = 1)
    (hval : Value.okWide P W .any base t v) (hd : DataW.Trod enc P W 0 (fun _ => true) true t v d ps) : ∃ l : List Int, V W (okOf Ctx.nil W.heap.size) Ctx.nil (.imm .arg 1 (l.map encI)) v := by
  obtain ⟨a, len, cap, rfl⟩ := okWide_slice ht hval
  obtain ⟨fuel, hf⟩ := hd
  rcases open_slice ht hf with ⟨h0, _⟩ | ⟨a', len', cap', m, n, D, Pl, h0, hb, hl, hm, hmm, hx, hel⟩
  · simp [Value.cells] at h0
    obtain ⟨rfl, rfl, rfl⟩ := h0
    exact ⟨[], .imm .arg 1 [] none 0 (fun _ => .bool false) (by simp) (by simp) (by simp) (by simp) (by simp) (by simp)⟩
  · simp [Value.cells] at h0
    obtain ⟨rfl, rfl, rfl⟩ := h0
    have hlm : len ≤ m := by rw [hmm]; split <;> omega
    have each : ∀ i, i < len → ∃ z : Int, W.cell? (a'.add i) = some (.int .i64 z) := by
      intro i hi
      obtain ⟨cs', h1, h2⟩ := hel i (by omega)
      rw [cq] at h1
      obtain ⟨_, hlen, hcell⟩ := World.cells?_some h1
      match cs', hlen with
      | [v0], _ =>
        obtain ⟨z0, e0, _, _⟩ := DataW.trod_int hq h2
        simp at e0
        subst e0
        have c0 := hcell 0 (by omega)
        rw [add_add] at c0
        exact ⟨z0, by simpa using c0⟩
    obtain ⟨f, hf⟩ := choose_lt each
    refine ⟨(List.range len).map f, ?_⟩
    have hlen : (((List.range len).map f).map encI).length = len := by simp
    have key := V.imm (w := W) (ok := okOf Ctx.nil W.heap.size) (c := Ctx.nil) .arg 1 (((List.range len).map f).map encI) (some a') cap (fun j => .int .i64 (f j))
      (by rw [hlen]; exact hl) (by simp) ?_ ?_ ?_ ?_
    · rw [hlen] at key; exact key
    · intro hne
      have h0 : 0 < len := by
        rcases Nat.eq_zero_or_pos len with h | h
        · subst h; simp at hne
        · exact h
      obtain ⟨b, off, spot⟩ := a'
      have hspot : spot = none := by simpa [Addr.add] using World.cell?_spot (hf 0 h0)
      subst hspot
      refine ⟨b, off, rfl, by simpa [Addr.add] using cell_lt (hf 0 h0), okNil W b, fun j hj => ?_⟩
      rw [hlen] at hj
      have c0 := hf j (by omega)
      rw [add_plain] at c0
      exact c0
    · intro v hv
      obtain ⟨p, _, rfl⟩ := List.mem_map.1 hv
      rfl
    · intro v hv
      obtain ⟨p, _, rfl⟩ := List.mem_map.1 hv
      rfl
    · intro i v j x hi hj
      have hil : i < len := by have := lt_of_get hi; rw [hlen] at this; exact this
      have : v = encI (f i) := by
        rw [List.getElem?_map, List.getElem?_map, List.getElem?_range hil] at hi
        simpa using hi.symm
      subst this
      have hjx : j < 1 := lt_of_get hj
      match j, hjx, hj with
      | 0, _, hj =>
        simp [encI, cellsOf] at hj
        subst hj
        have e1 : i * 1 + 0 = i := by omega
        rw [e1]
        exact V.int _ _
end Go.HL
end
section
namespace Go.HL
open Go.ChangeShapes Go.WideShapes Go.ChangeAt Go.RowKit Go.Deep
theorem ints_cells {H : Type} {enc : TypeId × Value → H} {P : Program} {W : World} {base fuel : Nat} {sp : Nat → Bool} {held : Bool} {t q : TypeId} {cs : List Value} {x : DataW H × List MemPlace} (ht : P.underlying t = some (.slice q)) (hq : P.underlying q = some (.int .i64)) (cq : P.cellsOf q = 1)
    (hf : DataW.trod enc P W base sp held fuel t cs = some x) : ∃ (l : List Int) (v : Value), cs = [v] ∧ V W (okOf Ctx.nil W.heap.size) Ctx.nil (.imm .arg 1 (l.map encI)) v := by
  rcases open_slice ht hf with ⟨h0, _⟩ | ⟨a', len, cap, m, n, D, Pl, h0, hb, hl, hm, hmm, hx, hel⟩
  · exact ⟨[], _, h0, .imm .arg 1 [] none 0 (fun _ => .bool false) (by simp) (by simp) (by simp) (by simp) (by simp) (by simp)⟩
  · subst h0
    have hlm : len ≤ m := by rw [hmm]; split <;> omega
    have each : ∀ i, i < len → ∃ z : Int, W.cell? (a'.add i) = some (.int .i64 z) := by
      intro i hi
      obtain ⟨cs', h1, h2⟩ := hel i (by omega)
      rw [cq] at h1
      obtain ⟨_, hlen, hcell⟩ := World.cells?_some h1
      match cs', hlen with
      | [v0], _ =>
        obtain ⟨z0, e0, _, _⟩ := DataW.trod_int hq h2
        simp at e0
        subst e0
        have c0 := hcell 0 (by omega)
        rw [add_add] at c0
        exact ⟨z0, by simpa using c0⟩
    obtain ⟨f, hf⟩ := choose_lt each
    refine ⟨(List.range len).map f, _, rfl, ?_⟩
    have hlen : (((List.range len).map f).map encI).length = len := by simp
    have key := V.imm (w := W) (ok := okOf Ctx.nil W.heap.size) (c := Ctx.nil) .arg 1 (((List.range len).map f).map encI) (some a') cap (fun j => .int .i64 (f j))
      (by rw [hlen]; exact hl) (by simp) ?_ ?_ ?_ ?_
    · rw [hlen] at key; exact key
    · intro hne
      have h0 : 0 < len := by
        rcases Nat.eq_zero_or_pos len with h | h
        · subst h; simp at hne
        · exact h
      obtain ⟨b, off, spot⟩ := a'
      have hspot : spot = none := by simpa [Addr.add] using World.cell?_spot (hf 0 h0)
      subst hspot
      refine ⟨b, off, rfl, by simpa [Addr.add] using cell_lt (hf 0 h0), okNil W b, fun j hj => ?_⟩
      rw [hlen] at hj
      have c0 := hf j (by omega)
      rw [add_plain] at c0
      exact c0
    · intro v hv
      obtain ⟨p, _, rfl⟩ := List.mem_map.1 hv
      rfl
    · intro v hv
      obtain ⟨p, _, rfl⟩ := List.mem_map.1 hv
      rfl
    · intro i v j x hi hj
      have hil : i < len := by have := lt_of_get hi; rw [hlen] at this; exact this
      have : v = encI (f i) := by
        rw [List.getElem?_map, List.getElem?_map, List.getElem?_range hil] at hi
        simpa using hi.symm
      subst this
      have hjx : j < 1 := lt_of_get hj
      match j, hjx, hj with
      | 0, _, hj =>
        simp [encI, cellsOf] at hj
        subst hj
        have e1 : i * 1 + 0 = i := by omega
        rw [e1]
        exact V.int _ _
def encRH (r : List Int) : HV := .imm .arg 1 (r.map encI)
theorem rows_cells {H : Type} {enc : TypeId × Value → H} {P : Program} {W : World} {base fuel : Nat} {sp : Nat → Bool} {held : Bool} {s t q : TypeId} {cs : List Value} {x : DataW H × List MemPlace} (hs : P.underlying s = some (.slice t)) (ct : P.cellsOf t = 1) (ht : P.underlying t = some (.slice q)) (hq : P.underlying q = some (.int .i64)) (cq : P.cellsOf q = 1)
    (hf : DataW.trod enc P W base sp held fuel s cs = some x) : ∃ (R : List (List Int)) (v : Value), cs = [v] ∧ V W (okOf Ctx.nil W.heap.size) Ctx.nil (.imm .arg 1 (R.map encRH)) v := by
  rcases open_slice hs hf with ⟨h0, _⟩ | ⟨a', len, cap, m, n, D, Pl, h0, hb, hl, hm, hmm, hx, hel⟩
  · exact ⟨[], _, h0, .imm .arg 1 [] none 0 (fun _ => .bool false) (by simp) (by simp) (by simp) (by simp) (by simp) (by simp)⟩
  · subst h0
    have hlm : len ≤ m := by rw [hmm]; split <;> omega
    have each : ∀ i, i < len → ∃ p : List Int × Value, W.cell? (a'.add i) = some p.2 ∧ V W (okOf Ctx.nil W.heap.size) Ctx.nil (encRH p.1) p.2 := by
      intro i hi
      obtain ⟨cs', h1, h2⟩ := hel i (by omega)
      rw [ct, Nat.mul_one] at h1
      obtain ⟨_, hlen, hcell⟩ := World.cells?_some h1
      obtain ⟨l, v, rfl, hV⟩ := ints_cells ht hq cq h2
      have c0 := hcell 0 (by omega)
      rw [add_add] at c0
      exact ⟨(l, v), by simpa using c0, hV⟩
    obtain ⟨f, hf⟩ := choose_lt each
    refine ⟨(List.range len).map fun i => (f i).1, _, rfl, ?_⟩
    have hlen : (((List.range len).map fun i => (f i).1).map encRH).length = len := by simp
    have key := V.imm (w := W) (ok := okOf Ctx.nil W.heap.size) (c := Ctx.nil) .arg 1 (((List.range len).map fun i => (f i).1).map encRH) (some a') cap (fun j => (f j).2)
      (by rw [hlen]; exact hl) (by simp) ?_ ?_ ?_ ?_
    · rw [hlen] at key; exact key
    · intro hne
      have h0 : 0 < len := by
        rcases Nat.eq_zero_or_pos len with h | h
        · subst h; simp at hne
        · exact h
      obtain ⟨b, off, spot⟩ := a'
      have hspot : spot = none := by simpa [Addr.add] using World.cell?_spot (hf 0 h0).1
      subst hspot
      refine ⟨b, off, rfl, by simpa [Addr.add] using cell_lt (hf 0 h0).1, okNil W b, fun j hj => ?_⟩
      rw [hlen, Nat.mul_one] at hj
      have c0 := (hf j hj).1
      rw [add_plain] at c0
      exact c0
    · intro v hv
      obtain ⟨p, _, rfl⟩ := List.mem_map.1 hv
      rfl
    · intro v hv
      obtain ⟨p, _, rfl⟩ := List.mem_map.1 hv
      rfl
    · intro i v j x hi hj
      have hil : i < len := by have := lt_of_get hi; rw [hlen] at this; exact this
      have : v = encRH (f i).1 := by
        rw [List.getElem?_map, List.getElem?_map, List.getElem?_range hil] at hi
        simpa using hi.symm
      subst this
      have hjx : j < 1 := lt_of_get hj
      obtain rfl : j = 0 := by omega
      simp [encRH, cellsOf] at hj
      subst hj
      have e1 : i * 1 + 0 = i := by omega
      rw [e1]
      exact (hf i hil).2
theorem arg_rows_ok {H : Type} {enc : TypeId × Value → H} {P : Program} {W : World} {base : Nat} {s t q : TypeId} {v : Value} {d : DataW H} {ps : List MemPlace} (hs : P.underlying s = some (.slice t)) (ct : P.cellsOf t = 1) (ht : P.underlying t = some (.slice q)) (hq : P.underlying q = some (.int .i64)) (cq : P.cellsOf q = 1)
    (hval : Value.okWide P W .any base s v) (hd : DataW.Trod enc P W 0 (fun _ => true) true s v d ps) : ∃ R : List (List Int), V W (okOf Ctx.nil W.heap.size) Ctx.nil (.imm .arg 1 (R.map encRH)) v := by
  obtain ⟨a, len, cap, rfl⟩ := okWide_slice hs hval
  obtain ⟨fuel, hf⟩ := hd
  obtain ⟨R, v, hv, h⟩ := rows_cells hs ct ht hq cq hf
  simp [Value.cells] at hv
  subst hv
  exact ⟨R, h⟩
end Go.HL
end
