/- A part of the proof: X35c. -/
import Derived.Test.YtmhfkhlamnapdaaX35
set_option linter.unusedVariables false
set_option linter.unusedSimpArgs false
open Go Go.HL
namespace Go.Proofs.Ytmhfkhlamnapdaa
def encPa (l : List (Int × Int)) : HV := .imm .arg 2 (l.map encP)
def decPa : HV → Option (List (Int × Int)) | .imm .arg 2 l => mapO decP l | _ => none
theorem decPa_enc (l : List (Int × Int)) : decPa (encPa l) = some l := mapO_map decP_enc l
theorem decPa_inv (b : HV) (a : List (Int × Int)) (h : decPa b = some a) : b = encPa a := by
  unfold decPa at h
  split at h
  · rw [mapO_inv decP_inv h]; rfl
  · cases h
def rounds35 : List HV → Option HV
  | [.imm .arg 1 la, .imm .arg 1 lb] =>
    match mapO decPa la, mapO decPa lb with
    | some a, some b => if a.length ≤ 1000 ∧ (a.all fun r => decide (r.length ≤ 1000)) = true then some (.bool (decide (a = b))) else none
    | _, _ => none
  | _ => none
theorem res35 : Try.f35.results.toList = [.tmp 4] := by kernel_rfl
theorem z22r : tySize Try.prog 22 = some 1 := by kernel_rfl
theorem argP_pairs1 : ∀ (l : List (Int × Int)), argPL (l.map encP) = some (l.map encP)
  | [] => rfl
  | p :: l => by simp only [List.map_cons, argPL, argP_pairs1 l, encP, argP]
theorem arg_pairs1 (H : Heap) (l : List (Int × Int)) : toArg H 6 (.imm .arg 2 (l.map encP)) = some (.imm .arg 2 (l.map encP)) := by
  show argP (.imm .arg 2 (l.map encP)) = _
  simp only [argP, argP_pairs1]
abbrev prE (la lb : List HV) (j : Nat) : Env := env35 (.imm .arg 1 la) (.imm .arg 1 lb) (.bool false) (.int .i64 (j : Int))
theorem rounds_loop (a b : List (List (Int × Int))) (hl : a.length = b.length) (hl2 : a.length ≤ 1000) (ha2 : ∀ r ∈ a, r.length ≤ 1000) : ∀ (d j : Nat), j + d = a.length →
    ∃ x E, RunsTo Try.prog polP 35 (sub [1, 1, 0, 1, 0] B35) (prE (a.map encPa) (b.map encPa) j) [] x (polP.keys 35) E [] ∧
      ((a.drop j = b.drop j ∧ x = .exit 0 ∧ E = prE (a.map encPa) (b.map encPa) a.length) ∨ (a.drop j ≠ b.drop j ∧ x = .ret ∧ E.get 4 = .bool false)) := by
  intro d
  induction d with
  | zero =>
    intro j hj
    have hj : j = a.length := by omega
    subst hj
    exact ⟨_, _, RunsTo.loop_out (pr_l_2 (a.map encPa) (b.map encPa) a.length (by simp)) (by simp) (by kernel_rfl) (by kernel_rfl), .inl ⟨by rw [List.drop_length, hl, List.drop_length], rfl, rfl⟩⟩
  | succ d ih =>
    intro j hj
    have hja : j < a.length := by omega
    have hjb : j < b.length := by omega
    have ga : (a.map encPa)[j]? = some (encPa a[j]) := by rw [List.getElem?_map, List.getElem?_eq_getElem hja]; rfl
    have gb : (b.map encPa)[j]? = some (encPa b[j]) := by rw [List.getElem?_map, List.getElem?_eq_getElem hjb]; rfl
    have g1 : idxV Try.prog 44 (.imm .arg 1 (a.map encPa)) (.int .i64 (j : Int)) = some (.vptr (.imm .arg 2 (a[j].map encP))) := idx_imm u44r z22r (by omega) (by rw [Int.toNat_natCast]; exact ga)
    have g2 : idxV Try.prog 44 (.imm .arg 1 (b.map encPa)) (.int .i64 (j : Int)) = some (.vptr (.imm .arg 2 (b[j].map encP))) := idx_imm u44r z22r (by omega) (by rw [Int.toNat_natCast]; exact gb)
    have g3 : ∀ k, callN Try.prog polP (k + 1) 32 [.imm .arg 2 (a[j].map encP), .imm .arg 2 (b[j].map encP)] [] = some (.bool (decide (a[j] = b[j])), []) := fun k => by
      rw [prim_call (pol := polP) (g := 32) (F := pairs32) (by kernel_rfl) (rs := [.imm .arg 2 (a[j].map encP), .imm .arg 2 (b[j].map encP)]) (by simp only [mapO, arg_pairs1]) (res := .bool (decide (a[j] = b[j]))) (by simp only [pairs32, mapO_map decP_enc]; rw [if_pos (ha2 _ (List.getElem_mem hja))])]
      rfl
    rw [List.drop_eq_getElem_cons hja, List.drop_eq_getElem_cons hjb]
    by_cases he : a[j] = b[j]
    · obtain ⟨x, E, h1, h2⟩ := ih (j + 1) (by omega)
      have s1 := pr_l_0 (a.map encPa) (b.map encPa) j _ _ (by simp; omega) g1 g2 (by rw [← decide_eq_true he]; exact g3)
      rw [wrap_succ (by omega)] at s1
      refine ⟨x, E, RunsTo.loop s1 (by kernel_rfl) rfl h1 rfl (by kernel_rfl) (by kernel_rfl), ?_⟩
      rw [he]
      simpa only [List.cons.injEq, true_and, ne_eq] using h2
    · have s1 := pr_l_1 (a.map encPa) (b.map encPa) j _ _ (by simp; omega) g1 g2 (by rw [← decide_eq_false he]; exact g3)
      exact ⟨_, _, RunsTo.loop_out s1 (by simp) (by kernel_rfl) (by kernel_rfl), .inr ⟨fun h => he (List.cons.inj h).1, rfl, rfl⟩⟩

theorem roundsEq_ok : PrimOk Try.prog 35 rounds35 := by
  refine primOk_pure (pol := polP) (fn := Try.f35) (cd := B35) follows_mixed soundP (by kernel_rfl) (by kernel_rfl) (fnok polP.prim _ _ (by kernel_rfl)) (by kernel_rfl) ?_
  intro args res h
  unfold rounds35 at h
  split at h
  · rename_i la lb
    split at h
    · rename_i a b ha hb
      split at h
      · rename_i hlen
        cases h
        rw [mapO_inv decPa_inv ha, mapO_inv decPa_inv hb]
        have a1 := pr_a_0 (a.map encPa) (b.map encPa)
        by_cases hl : a.length = b.length
        · have b1 := pr_b_0 (a.map encPa) (b.map encPa) (by simp [hl])
          have c1 := pr_c_0 (a.map encPa) (b.map encPa)
          obtain ⟨x, E, h1, h2⟩ := rounds_loop a b hl hlen.1 (fun r hr => by simpa using List.all_eq_true.1 hlen.2 r hr) a.length 0 (by omega)
          rw [List.drop_zero, List.drop_zero] at h2
          rcases h2 with ⟨k1, rfl, rfl⟩ | ⟨k1, rfl, k2⟩
          · have t1 := RunsTo.seq c1 (RunsTo.block_exit (c := sub [1, 1, 0, 1] B35) h1 (by kernel_rfl)) (c := sub [1, 1, 0] B35) (by kernel_rfl) (by kernel_rfl)
            have t2 := RunsTo.seq t1 (pr_z_0 (a.map encPa) (b.map encPa) a.length) (c := sub [1, 1] B35) (by kernel_rfl) (by kernel_rfl)
            have t3 := RunsTo.seq b1 t2 (c := sub [1] B35) (by kernel_rfl) (by kernel_rfl)
            have t4 := RunsTo.seq a1 t3 (c := B35) (by kernel_rfl) (by kernel_rfl)
            exact ⟨_, _, _, .bool (decide (a = b)), t4, by simp, by rw [decide_eq_true k1]; simp only [resultsV, res35]; rfl, rfl⟩
          · have t1 := RunsTo.seq c1 (RunsTo.block_ret (c := sub [1, 1, 0, 1] B35) (i := 0) h1 (by kernel_rfl)) (c := sub [1, 1, 0] B35) (by kernel_rfl) (by kernel_rfl)
            have t2 := RunsTo.seq_out t1 (by simp) (c := sub [1, 1] B35) (b := sub [1, 1, 1] B35) (by kernel_rfl)
            have t3 := RunsTo.seq b1 t2 (c := sub [1] B35) (by kernel_rfl) (by kernel_rfl)
            have t4 := RunsTo.seq a1 t3 (c := B35) (by kernel_rfl) (by kernel_rfl)
            exact ⟨_, _, _, .bool (decide (a = b)), t4, by simp, by rw [decide_eq_false k1]; simp only [resultsV, res35, mapO, resultV, k2], rfl⟩
        · have b1 := pr_b_1 (a.map encPa) (b.map encPa) (by simp; omega)
          have t3 := RunsTo.seq_out b1 (by simp) (c := sub [1] B35) (b := sub [1, 1] B35) (by kernel_rfl)
          have t4 := RunsTo.seq a1 t3 (c := B35) (by kernel_rfl) (by kernel_rfl)
          exact ⟨_, _, _, .bool (decide (a = b)), t4, by simp, by rw [decide_eq_false (fun h => hl (by rw [h]))]; simp only [resultsV, res35]; rfl, rfl⟩
      · cases h
    · cases h
  · cases h

end Go.Proofs.Ytmhfkhlamnapdaa
