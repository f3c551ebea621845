/- A part of the proof: X21c. -/
import Derived.Test.YtmhfkhlamnapdaaX42c
import Derived.Test.YtmhfkhlamnapdaaX21
set_option linter.unusedVariables false
set_option linter.unusedSimpArgs false
open Go Go.HL
namespace Go.Proofs.Ytmhfkhlamnapdaa
def ints21 : List HV → Option HV
  | [.imm .arg 1 la, .imm .arg 1 lb] =>
    match mapO decI la, mapO decI lb with
    | some a, some b => if a.length ≤ 1000 then some (.bool (decide (a = b))) else none
    | _, _ => none
  | _ => none
theorem res21 : Try.f21.results.toList = [.tmp 4] := by kernel_rfl
theorem u24s : Try.prog.underlying 24 = some (.slice 3) := by kernel_rfl
theorem z3s : tySize Try.prog 3 = some 1 := by kernel_rfl
abbrev iE (la lb : List HV) (j : Nat) : Env := env21 (.imm .arg 1 la) (.imm .arg 1 lb) (.bool false) (.int .i64 (j : Int))
theorem ints_loop (a b : List Int) (hl : a.length = b.length) (hl2 : a.length ≤ 1000) : ∀ (d j : Nat), j + d = a.length →
    ∃ x E, RunsTo Try.prog pol 21 (sub [1, 1, 0, 1, 0] B21) (iE (a.map encI) (b.map encI) j) [] x (pol.keys 21) E [] ∧
      ((a.drop j = b.drop j ∧ x = .exit 0 ∧ E = iE (a.map encI) (b.map encI) a.length) ∨ (a.drop j ≠ b.drop j ∧ x = .ret ∧ E.get 4 = .bool false)) := by
  intro d
  induction d with
  | zero =>
    intro j hj
    have hj : j = a.length := by omega
    subst hj
    exact ⟨_, _, RunsTo.loop_out (r21_l_2 (a.map encI) (b.map encI) a.length (by simp)) (by simp) (by kernel_rfl) (by kernel_rfl), .inl ⟨by rw [List.drop_length, hl, List.drop_length], rfl, rfl⟩⟩
  | succ d ih =>
    intro j hj
    have hja : j < a.length := by omega
    have hjb : j < b.length := by omega
    have ga : (a.map encI)[j]? = some (encI a[j]) := by rw [List.getElem?_map, List.getElem?_eq_getElem hja]; rfl
    have gb : (b.map encI)[j]? = some (encI b[j]) := by rw [List.getElem?_map, List.getElem?_eq_getElem hjb]; rfl
    have g1 : idxV Try.prog 24 (.imm .arg 1 (a.map encI)) (.int .i64 (j : Int)) = some (.vptr (.int .i64 a[j])) := idx_imm u24s z3s (by omega) (by rw [Int.toNat_natCast]; exact ga)
    have g2 : idxV Try.prog 24 (.imm .arg 1 (b.map encI)) (.int .i64 (j : Int)) = some (.vptr (.int .i64 b[j])) := idx_imm u24s z3s (by omega) (by rw [Int.toNat_natCast]; exact gb)
    rw [List.drop_eq_getElem_cons hja, List.drop_eq_getElem_cons hjb]
    by_cases he : a[j] = b[j]
    · obtain ⟨x, E, h1, h2⟩ := ih (j + 1) (by omega)
      have s1 := r21_l_0 (a.map encI) (b.map encI) j _ _ (by simp; omega) g1 g2 he
      rw [wrap_succ (by omega)] at s1
      refine ⟨x, E, RunsTo.loop s1 (by kernel_rfl) rfl h1 rfl (by kernel_rfl) (by kernel_rfl), ?_⟩
      rw [he]
      simpa only [List.cons.injEq, true_and, ne_eq] using h2
    · have s1 := r21_l_1 (a.map encI) (b.map encI) j _ _ (by simp; omega) g1 g2 he
      exact ⟨_, _, RunsTo.loop_out s1 (by simp) (by kernel_rfl) (by kernel_rfl), .inr ⟨fun h => he (List.cons.inj h).1, rfl, rfl⟩⟩
theorem ints_ok : PrimOk Try.prog 21 ints21 := by
  refine primOk_pure (pol := pol) (fn := Try.f21) (cd := B21) follows_mixed sound (by kernel_rfl) (by kernel_rfl) (fnok pol.prim _ _ (by kernel_rfl)) (by kernel_rfl) ?_
  intro args res h
  unfold ints21 at h
  split at h
  · rename_i la lb
    split at h
    · rename_i a b ha hb
      split at h
      · rename_i hlen
        cases h
        rw [mapO_inv decI_inv ha, mapO_inv decI_inv hb]
        have a1 := r21_a_0 (a.map encI) (b.map encI)
        by_cases hl : a.length = b.length
        · have b1 := r21_b_0 (a.map encI) (b.map encI) (by simp [hl])
          have c1 := r21_c_0 (a.map encI) (b.map encI)
          obtain ⟨x, E, h1, h2⟩ := ints_loop a b hl hlen a.length 0 (by omega)
          rw [List.drop_zero, List.drop_zero] at h2
          rcases h2 with ⟨k1, rfl, rfl⟩ | ⟨k1, rfl, k2⟩
          · have t1 := RunsTo.seq c1 (RunsTo.block_exit (c := sub [1, 1, 0, 1] B21) h1 (by kernel_rfl)) (c := sub [1, 1, 0] B21) (by kernel_rfl) (by kernel_rfl)
            have t2 := RunsTo.seq t1 (r21_z_0 (a.map encI) (b.map encI) a.length) (c := sub [1, 1] B21) (by kernel_rfl) (by kernel_rfl)
            have t3 := RunsTo.seq b1 t2 (c := sub [1] B21) (by kernel_rfl) (by kernel_rfl)
            have t4 := RunsTo.seq a1 t3 (c := B21) (by kernel_rfl) (by kernel_rfl)
            exact ⟨_, _, _, .bool (decide (a = b)), t4, by simp, by rw [decide_eq_true k1]; simp only [resultsV, res21]; rfl, rfl⟩
          · have t1 := RunsTo.seq c1 (RunsTo.block_ret (c := sub [1, 1, 0, 1] B21) (i := 0) h1 (by kernel_rfl)) (c := sub [1, 1, 0] B21) (by kernel_rfl) (by kernel_rfl)
            have t2 := RunsTo.seq_out t1 (by simp) (c := sub [1, 1] B21) (b := sub [1, 1, 1] B21) (by kernel_rfl)
            have t3 := RunsTo.seq b1 t2 (c := sub [1] B21) (by kernel_rfl) (by kernel_rfl)
            have t4 := RunsTo.seq a1 t3 (c := B21) (by kernel_rfl) (by kernel_rfl)
            exact ⟨_, _, _, .bool (decide (a = b)), t4, by simp, by rw [decide_eq_false k1]; simp only [resultsV, res21, mapO, resultV, k2], rfl⟩
        · have b1 := r21_b_1 (a.map encI) (b.map encI) (by simp; omega)
          have t3 := RunsTo.seq_out b1 (by simp) (c := sub [1] B21) (b := sub [1, 1] B21) (by kernel_rfl)
          have t4 := RunsTo.seq a1 t3 (c := B21) (by kernel_rfl) (by kernel_rfl)
          exact ⟨_, _, _, .bool (decide (a = b)), t4, by simp, by rw [decide_eq_false (fun h => hl (by rw [h]))]; simp only [resultsV, res21]; rfl, rfl⟩
      · cases h
    · cases h
  · cases h
def primK (g : FuncId) : Option (List HV → Option HV) :=
  if g == 19 then some awakeF else if g == 16 then some few16 else if g == 42 then some known42 else if g == 43 then some enough43 else if g == 38 then some rcalls38 else if g == 44 then some refk44
  else if g == 39 then some rEnough39 else if g == 21 then some ints21 else none
def polK : Pol := { pol with prim := primK }
theorem primK_ok (g : FuncId) (f : List HV → Option HV) (h : primK g = some f) : PrimOk Try.prog g f := by
  unfold primK at h
  split at h
  · rename_i hg; cases h; rw [eq_of_beq hg]; exact awake_prim
  split at h
  · rename_i hg; cases h; rw [eq_of_beq hg]; exact few_ok
  split at h
  · rename_i hg; cases h; rw [eq_of_beq hg]; exact known42_ok
  split at h
  · rename_i hg; cases h; rw [eq_of_beq hg]; exact enough_ok
  split at h
  · rename_i hg; cases h; rw [eq_of_beq hg]; exact rcalls_ok
  split at h
  · rename_i hg; cases h; rw [eq_of_beq hg]; exact refk_ok
  split at h
  · rename_i hg; cases h; rw [eq_of_beq hg]; exact renough_ok
  split at h
  · rename_i hg; cases h; rw [eq_of_beq hg]; exact ints_ok
  · cases h
theorem soundK (n : Nat) : CallSound Try.prog (callN Try.prog polK n) := sound_prim primK primK_ok n
end Go.Proofs.Ytmhfkhlamnapdaa
