/- A part of the proof: X32c. -/
import Derived.Test.YtmhfkhlamnapdaaX36c
import Derived.Test.YtmhfkhlamnapdaaX32
set_option linter.unusedVariables false
set_option linter.unusedSimpArgs false
open Go Go.HL
namespace Go.Proofs.Ytmhfkhlamnapdaa
def pairs32 : List HV → Option HV
  | [.imm .arg 2 la, .imm .arg 2 lb] =>
    match mapO decP la, mapO decP lb with
    | some a, some b => if a.length ≤ 1000 then some (.bool (decide (a = b))) else none
    | _, _ => none
  | _ => none
theorem res32 : Try.f32.results.toList = [.tmp 4] := by kernel_rfl
theorem pair_neq (a b c d : Int) : binV Try.prog .neq 33 (.agg [.int .i64 a, .int .i64 b]) (.agg [.int .i64 c, .int .i64 d]) = some (.bool (!decide ((a, b) = (c, d)))) := by
  have h1 : plainCells Try.prog 33 [.int .i64 a, .int .i64 b] = true := by kernel_rfl
  have h2 : Try.prog.eqGuardType Try.prog.depth 33 = false := by kernel_rfl
  have h3 : tyAgg Try.prog 33 = true := by kernel_rfl
  simp only [binV, h1, h2, h3, aggEq, scEq]
  by_cases e1 : a = c <;> by_cases e2 : b = d <;> simp [e1, e2]
abbrev ppE (la lb : List HV) (j : Nat) : Env := env32 (.imm .arg 2 la) (.imm .arg 2 lb) (.bool false) (.int .i64 (j : Int))
theorem pairs_loop (a b : List (Int × Int)) (hl : a.length = b.length) (hl2 : a.length ≤ 1000) : ∀ (d j : Nat), j + d = a.length →
    ∃ x E, RunsTo Try.prog pol 32 (sub [1, 1, 0, 1, 0] B32) (ppE (a.map encP) (b.map encP) j) [] x (pol.keys 32) E [] ∧
      ((a.drop j = b.drop j ∧ x = .exit 0 ∧ E = ppE (a.map encP) (b.map encP) a.length) ∨ (a.drop j ≠ b.drop j ∧ x = .ret ∧ E.get 4 = .bool false)) := by
  intro d
  induction d with
  | zero =>
    intro j hj
    have hj : j = a.length := by omega
    subst hj
    exact ⟨_, _, RunsTo.loop_out (pp_l_2 (a.map encP) (b.map encP) a.length (by simp)) (by simp) (by kernel_rfl) (by kernel_rfl), .inl ⟨by rw [List.drop_length, hl, List.drop_length], rfl, rfl⟩⟩
  | succ d ih =>
    intro j hj
    have hja : j < a.length := by omega
    have hjb : j < b.length := by omega
    have ga : (a.map encP)[j]? = some (encP a[j]) := by rw [List.getElem?_map, List.getElem?_eq_getElem hja]; rfl
    have gb : (b.map encP)[j]? = some (encP b[j]) := by rw [List.getElem?_map, List.getElem?_eq_getElem hjb]; rfl
    have g1 : idxV Try.prog 22 (.imm .arg 2 (a.map encP)) (.int .i64 (j : Int)) = some (.vptr (.agg [.int .i64 a[j].1, .int .i64 a[j].2])) := idx_imm u22 z33 (by omega) (by rw [Int.toNat_natCast]; exact ga)
    have g2 : idxV Try.prog 22 (.imm .arg 2 (b.map encP)) (.int .i64 (j : Int)) = some (.vptr (.agg [.int .i64 b[j].1, .int .i64 b[j].2])) := idx_imm u22 z33 (by omega) (by rw [Int.toNat_natCast]; exact gb)
    have g3 := pair_neq a[j].1 a[j].2 b[j].1 b[j].2
    rw [List.drop_eq_getElem_cons hja, List.drop_eq_getElem_cons hjb]
    by_cases he : a[j] = b[j]
    · obtain ⟨x, E, h1, h2⟩ := ih (j + 1) (by omega)
      have s1 := pp_l_1 (a.map encP) (b.map encP) j _ _ _ _ (by simp; omega) g1 g2 (by rw [g3, decide_eq_true (show (a[j].1, a[j].2) = (b[j].1, b[j].2) from he)]; rfl)
      rw [wrap_succ (by omega)] at s1
      refine ⟨x, E, RunsTo.loop s1 (by kernel_rfl) rfl h1 rfl (by kernel_rfl) (by kernel_rfl), ?_⟩
      rw [he]
      simpa only [List.cons.injEq, true_and, ne_eq] using h2
    · have s1 := pp_l_0 (a.map encP) (b.map encP) j _ _ _ _ (by simp; omega) g1 g2 (by rw [g3, decide_eq_false (show ¬ (a[j].1, a[j].2) = (b[j].1, b[j].2) from fun h => he h)]; rfl)
      exact ⟨_, _, RunsTo.loop_out s1 (by simp) (by kernel_rfl) (by kernel_rfl), .inr ⟨fun h => he (List.cons.inj h).1, rfl, rfl⟩⟩

theorem pairs_ok : PrimOk Try.prog 32 pairs32 := by
  refine primOk_pure (pol := pol) (fn := Try.f32) (cd := B32) follows_mixed sound (by kernel_rfl) (by kernel_rfl) (fnok pol.prim _ _ (by kernel_rfl)) (by kernel_rfl) ?_
  intro args res h
  unfold pairs32 at h
  split at h
  · rename_i la lb
    split at h
    · rename_i a b ha hb
      split at h
      · rename_i hlen
        cases h
        rw [mapO_inv decP_inv ha, mapO_inv decP_inv hb]
        have a1 := pp_a_0 (a.map encP) (b.map encP)
        by_cases hl : a.length = b.length
        · have b1 := pp_b_0 (a.map encP) (b.map encP) (by simp [hl])
          have c1 := pp_c_0 (a.map encP) (b.map encP)
          obtain ⟨x, E, h1, h2⟩ := pairs_loop a b hl hlen a.length 0 (by omega)
          rw [List.drop_zero, List.drop_zero] at h2
          rcases h2 with ⟨k1, rfl, rfl⟩ | ⟨k1, rfl, k2⟩
          · have t1 := RunsTo.seq c1 (RunsTo.block_exit (c := sub [1, 1, 0, 1] B32) h1 (by kernel_rfl)) (c := sub [1, 1, 0] B32) (by kernel_rfl) (by kernel_rfl)
            have t2 := RunsTo.seq t1 (pp_z_0 (a.map encP) (b.map encP) a.length) (c := sub [1, 1] B32) (by kernel_rfl) (by kernel_rfl)
            have t3 := RunsTo.seq b1 t2 (c := sub [1] B32) (by kernel_rfl) (by kernel_rfl)
            have t4 := RunsTo.seq a1 t3 (c := B32) (by kernel_rfl) (by kernel_rfl)
            exact ⟨_, _, _, .bool (decide (a = b)), t4, by simp, by rw [decide_eq_true k1]; simp only [resultsV, res32]; rfl, rfl⟩
          · have t1 := RunsTo.seq c1 (RunsTo.block_ret (c := sub [1, 1, 0, 1] B32) (i := 0) h1 (by kernel_rfl)) (c := sub [1, 1, 0] B32) (by kernel_rfl) (by kernel_rfl)
            have t2 := RunsTo.seq_out t1 (by simp) (c := sub [1, 1] B32) (b := sub [1, 1, 1] B32) (by kernel_rfl)
            have t3 := RunsTo.seq b1 t2 (c := sub [1] B32) (by kernel_rfl) (by kernel_rfl)
            have t4 := RunsTo.seq a1 t3 (c := B32) (by kernel_rfl) (by kernel_rfl)
            exact ⟨_, _, _, .bool (decide (a = b)), t4, by simp, by rw [decide_eq_false k1]; simp only [resultsV, res32, mapO, resultV, k2], rfl⟩
        · have b1 := pp_b_1 (a.map encP) (b.map encP) (by simp; omega)
          have t3 := RunsTo.seq_out b1 (by simp) (c := sub [1] B32) (b := sub [1, 1] B32) (by kernel_rfl)
          have t4 := RunsTo.seq a1 t3 (c := B32) (by kernel_rfl) (by kernel_rfl)
          exact ⟨_, _, _, .bool (decide (a = b)), t4, by simp, by rw [decide_eq_false (fun h => hl (by rw [h]))]; simp only [resultsV, res32]; rfl, rfl⟩
      · cases h
    · cases h
  · cases h

def primP (g : FuncId) : Option (List HV → Option HV) := if g == 32 then some pairs32 else none
def polP : Pol := { pol with prim := primP }
theorem primP_ok (g : FuncId) (f : List HV → Option HV) (h : primP g = some f) : PrimOk Try.prog g f := by
  unfold primP at h
  split at h
  · rename_i hg; cases h; rw [eq_of_beq hg]; exact pairs_ok
  · cases h
theorem soundP (n : Nat) : CallSound Try.prog (callN Try.prog polP n) := sound_prim primP primP_ok n
end Go.Proofs.Ytmhfkhlamnapdaa
