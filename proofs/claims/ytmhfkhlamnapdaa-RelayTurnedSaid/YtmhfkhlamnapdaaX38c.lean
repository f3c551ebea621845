/- A part of the proof: X38c. -/
import Derived.Test.YtmhfkhlamnapdaaXC
import Derived.Test.YtmhfkhlamnapdaaX38
import Derived.Test.YtmhfkhlamnapdaaX16
import Derived.Test.YtmhfkhlamnapdaaX21
set_option linter.unusedVariables false
set_option linter.unusedSimpArgs false
open Go Go.HL
namespace Go.Proofs.Ytmhfkhlamnapdaa
def validB (n : Int) (p : Int × Int) : Bool := decide ((0 ≤ p.1 ∧ p.1 < n) ∧ (0 ≤ p.2 ∧ p.2 < n) ∧ p.1 ≠ p.2)
def rCalls (n : Int) (l : List (Int × Int)) : Bool := l.all (validB n) && decide (l.length ≤ 200)
def rcalls38 : List HV → Option HV
  | [.int .i64 n, .imm .arg 2 lc] => match mapO decP lc with | some l => if l.length ≤ 1000 then some (.bool (rCalls n l)) else none | none => none
  | _ => none
theorem res38 : Try.f38.results.toList = [.tmp 4] := by kernel_rfl
abbrev cE (n : Int) (lc : List HV) (j : Nat) : Env := env38 (.int .i64 n) (.imm .arg 2 lc) (.bool false) (.int .i64 (j : Int)) .undef .undef

theorem rcalls_loop (n : Int) (l : List (Int × Int)) (hl : l.length ≤ 1000) : ∀ (d j : Nat), j + d = l.length →
    ∃ x E, RunsTo Try.prog pol 38 (sub [1, 0, 1, 0] B38) (cE n (l.map encP) j) [] x (pol.keys 38) E [] ∧
      (((l.drop j).all (validB n) = true ∧ x = .exit 0 ∧ E = cE n (l.map encP) l.length) ∨ ((l.drop j).all (validB n) = false ∧ x = .ret ∧ E.get 4 = .bool false)) := by
  intro d
  induction d with
  | zero =>
    intro j hj
    have hj : j = l.length := by omega
    subst hj
    exact ⟨_, _, RunsTo.loop_out (rc_l_6 n (l.map encP) l.length (by simp)) (by simp) (by kernel_rfl) (by kernel_rfl), .inl ⟨by simp, rfl, rfl⟩⟩
  | succ d ih =>
    intro j hj
    have hjl : j < l.length := by omega
    obtain ⟨p, hp⟩ : ∃ p, l[j]? = some p := ⟨_, List.getElem?_eq_getElem hjl⟩
    have hd : l.drop j = p :: l.drop (j + 1) := by
      rw [List.drop_eq_getElem_cons hjl]
      rw [List.getElem?_eq_getElem hjl] at hp
      cases hp
      rfl
    obtain ⟨a, b⟩ := p
    have hpk : (l.map encP)[j]? = some (encP (a, b)) := by rw [List.getElem?_map, hp]; rfl
    have g1 : idxV Try.prog 22 (.imm .arg 2 (l.map encP)) (.int .i64 (j : Int)) = some (.vptr (.agg [.int .i64 a, .int .i64 b])) := idx_imm u22 z33 (by omega) (by rw [Int.toNat_natCast]; exact hpk)
    have g0 : (j : Int) < ((l.map encP).length : Int) := by simp; omega
    rw [hd, List.all_cons]
    by_cases hv : (0 ≤ a ∧ a < n) ∧ (0 ≤ b ∧ b < n) ∧ a ≠ b
    · have hvb : validB n (a, b) = true := by rw [validB]; exact decide_eq_true hv
      obtain ⟨x, E, h1, h2⟩ := ih (j + 1) (by omega)
      have s1 := rc_l_5 n (l.map encP) j a b a b g0 g1 g1 (by omega) (by omega) (by omega) (by omega) hv.2.2
      rw [wrap_succ (by omega)] at s1
      rw [hvb, Bool.true_and]
      exact ⟨x, E, RunsTo.loop s1 (by kernel_rfl) rfl h1 rfl (by kernel_rfl) (by kernel_rfl), h2⟩
    · have hvb : validB n (a, b) = false := by rw [validB]; exact decide_eq_false hv
      rw [hvb, Bool.false_and]
      by_cases c1 : a < 0
      · exact ⟨_, _, RunsTo.loop_out (rc_l_0 n (l.map encP) j a b a b g0 g1 g1 c1) (by simp) (by kernel_rfl) (by kernel_rfl), .inr ⟨rfl, rfl, rfl⟩⟩
      · by_cases c2 : n ≤ a
        · exact ⟨_, _, RunsTo.loop_out (rc_l_1 n (l.map encP) j a b a b g0 g1 g1 c1 c2) (by simp) (by kernel_rfl) (by kernel_rfl), .inr ⟨rfl, rfl, rfl⟩⟩
        · by_cases c3 : b < 0
          · exact ⟨_, _, RunsTo.loop_out (rc_l_2 n (l.map encP) j a b a b g0 g1 g1 c1 c2 c3) (by simp) (by kernel_rfl) (by kernel_rfl), .inr ⟨rfl, rfl, rfl⟩⟩
          · by_cases c4 : n ≤ b
            · exact ⟨_, _, RunsTo.loop_out (rc_l_3 n (l.map encP) j a b a b g0 g1 g1 c1 c2 c3 c4) (by simp) (by kernel_rfl) (by kernel_rfl), .inr ⟨rfl, rfl, rfl⟩⟩
            · by_cases c5 : a = b
              · exact ⟨_, _, RunsTo.loop_out (rc_l_4 n (l.map encP) j a b a b g0 g1 g1 c1 c2 c3 c4 c5) (by simp) (by kernel_rfl) (by kernel_rfl), .inr ⟨rfl, rfl, rfl⟩⟩
              · exact absurd ⟨⟨by omega, by omega⟩, ⟨by omega, by omega⟩, c5⟩ hv

theorem rcalls_ok : PrimOk Try.prog 38 rcalls38 := by
  refine primOk_pure (pol := pol) (fn := Try.f38) (cd := B38) follows_mixed sound (by kernel_rfl) (by kernel_rfl) (fnok pol.prim _ _ (by kernel_rfl)) (by kernel_rfl) ?_
  intro args res h
  unfold rcalls38 at h
  split at h
  · rename_i n lc
    split at h
    · rename_i l hl
      split at h
      · rename_i hlen
        cases h
        rw [mapO_inv decP_inv hl]
        have a1 := rc_a_0 n (l.map encP)
        have b1 := rc_b_0 n (l.map encP)
        obtain ⟨x, E, h1, h2⟩ := rcalls_loop n l hlen l.length 0 (by omega)
        rw [List.drop_zero] at h2
        rcases h2 with ⟨k1, rfl, rfl⟩ | ⟨k1, rfl, k2⟩
        · have t1 := RunsTo.seq b1 (RunsTo.block_exit (c := sub [1, 0, 1] B38) h1 (by kernel_rfl)) (c := sub [1, 0] B38) (by kernel_rfl) (by kernel_rfl)
          by_cases c : l.length ≤ 200
          · have t2 := RunsTo.seq t1 (rc_z_0 n (l.map encP) l.length (by simp; omega)) (c := sub [1] B38) (by kernel_rfl) (by kernel_rfl)
            have t3 := RunsTo.seq a1 t2 (c := B38) (by kernel_rfl) (by kernel_rfl)
            exact ⟨_, _, _, .bool (rCalls n l), t3, by simp, by rw [rCalls, k1, decide_eq_true c]; simp only [resultsV, res38]; rfl, rfl⟩
          · have t2 := RunsTo.seq t1 (rc_z_1 n (l.map encP) l.length (by simp; omega)) (c := sub [1] B38) (by kernel_rfl) (by kernel_rfl)
            have t3 := RunsTo.seq a1 t2 (c := B38) (by kernel_rfl) (by kernel_rfl)
            exact ⟨_, _, _, .bool (rCalls n l), t3, by simp, by rw [rCalls, k1, decide_eq_false c]; simp only [resultsV, res38]; rfl, rfl⟩
        · have t1 := RunsTo.seq b1 (RunsTo.block_ret (c := sub [1, 0, 1] B38) (i := 0) h1 (by kernel_rfl)) (c := sub [1, 0] B38) (by kernel_rfl) (by kernel_rfl)
          have t2 := RunsTo.seq_out t1 (by simp) (c := sub [1] B38) (b := sub [1, 1] B38) (by kernel_rfl)
          have t3 := RunsTo.seq a1 t2 (c := B38) (by kernel_rfl) (by kernel_rfl)
          exact ⟨_, _, _, .bool (rCalls n l), t3, by simp, by rw [rCalls, k1]; simp only [resultsV, res38, mapO, resultV, k2]; rfl, rfl⟩
      · cases h
    · cases h
  · cases h

/-- A copy of a list of pairs, cut. -/
def few16 : List HV → Option HV
  | [.imm .arg 2 lc] => match mapO decP lc with | some l => some (.own 2 ((l.take 201).map encP)) | none => none
  | _ => none
theorem res16 : Try.f16.results.toList = [.tmp 2] := by kernel_rfl
theorem slice_imm {P : Program} {t e k w : Nat} {l : List HV} (ht : P.underlying t = some (.slice e)) (hs : tySize P e = some k) (hw : w ≤ l.length) : sliceV P t (.imm .arg k l) none (some (.int .i64 (w : Int))) none = some (.imm .arg k (l.take w)) := by
  simp only [sliceV, boundV, ht, hs]
  rw [if_pos (by omega : (0 : Int) ≤ (w : Int))]
  simp [hw]
theorem pairs_bnd' : ∀ (l : List (Int × Int)), bndL (l.map encP) = 0
  | [] => rfl
  | b :: r => by simp only [List.map_cons, bndL, encP, bnd, pairs_bnd' r]; rfl
theorem few_ok : PrimOk Try.prog 16 few16 := by
  refine primOk_pure (pol := pol) (fn := Try.f16) (cd := B16) follows_mixed sound (by kernel_rfl) (by kernel_rfl) (fnok pol.prim _ _ (by kernel_rfl)) (by kernel_rfl) ?_
  intro args res h
  unfold few16 at h
  split at h
  · rename_i lc
    split at h
    · rename_i l hl
      cases h
      rw [mapO_inv decP_inv hl]
      have hmin : min ((l.map encP).length : Int) 201 = ((min l.length 201 : Nat) : Int) := by rw [List.length_map]; omega
      have hw : (l.map encP).take (min l.length 201) = (l.take 201).map encP := by
        rw [← List.map_take]
        congr 1
        rw [List.take_eq_take_iff]
        omega
      have s1 := fw_0 (l.map encP) (min l.length 201) (by
          rw [hmin]
          exact slice_imm u22 z33 (by rw [List.length_map]; omega))
        (by
          rw [hw]
          by_cases h0 : l.take 201 = []
          · rw [h0]; rfl
          · have hlen : (l.take 201).length ≤ 201 := by rw [List.length_take]; omega
            have := app_sl (H := [.arr 2 [] true 0]) (k := 2) (bytes := 16) (b := 0) (n := 0) (mx := 0) (els := []) (xs := (l.take 201).map encP) rfl rfl (by simpa using h0) (by rw [List.length_map]; simp only [roomMax]; omega) (pairs_bnd' _)
            rw [this]
            simp)
      rw [hw] at s1
      have hr := resCell_sl (H := [.arr 2 ((l.take 201).map encP) true 0]) (no := [0]) (b := 0) (k := 2) (m := ((l.take 201).map encP).length) (cap := none) (els := (l.take 201).map encP) rfl rfl (mapO_self (fun r => frz_pair r) _)
      have ho : ownedAll [.arr 2 ((l.take 201).map encP) true 0] false (.sl 0 0 ((l.take 201).map encP).length none ((l.take 201).map encP).length 2) = [0] := rfl
      refine ⟨_, _, _, .sl 0 0 ((l.take 201).map encP).length none ((l.take 201).map encP).length 2, s1, by simp, by simp only [resultsV, res16]; rfl, ?_⟩
      show toRes _ false _ = _
      simp only [toRes, ho, List.nodup_cons, List.not_mem_nil, not_false_eq_true, List.nodup_nil, and_self, if_true, resVal, hr]
    · cases h
  · cases h
end Go.Proofs.Ytmhfkhlamnapdaa
