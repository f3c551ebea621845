/- A part of the proof: X39c. -/
import Derived.Test.YtmhfkhlamnapdaaX39
set_option linter.unusedVariables false
set_option linter.unusedSimpArgs false
open Go Go.HL
namespace Go.Proofs.Ytmhfkhlamnapdaa
theorem rRows_length (m : Nat) (F : List Bool) : ∀ (d j : Nat) (L : List (List Int)), (rRows m F j d L).length = L.length + d
  | 0, _, _ => rfl
  | d + 1, j, L => by rw [rRows, rRows_length m F d]; simp; omega
theorem rKnown_length (m : Nat) (l : List (Int × Int)) : (rKnown m l).length = m := by rw [rKnown, rRows_length]; simp
def rEnough (m : Nat) (l : List (Int × Int)) : Bool := (rKnown m l).all fun r => decide (m ≤ r.length)
def rEnough39 : List HV → Option HV
  | [.int .i64 n, .imm .arg 2 lc] =>
    match mapO decP lc with
    | some l => if ((1 ≤ n ∧ n ≤ 20) ∧ l.length ≤ 1000) ∧ l.all (validB n) = true then some (.bool (rEnough n.toNat l)) else none
    | none => none
  | _ => none
theorem res39 : Try.f39.results.toList = [.tmp 4] := by kernel_rfl
theorem u24f : tySize Try.prog 24 = some 1 := by kernel_rfl
theorem a24f : tyAgg Try.prog 24 = false := by kernel_rfl
theorem i24f : (Try.prog.underlying 24).isSome = true := by kernel_rfl
abbrev nE (m : Nat) (lc : List HV) (R j : Nat) : Env := env39 (.int .i64 (m : Int)) (.imm .arg 2 lc) (.bool false) (.sl 0 0 R none R 1) (.int .i64 (j : Int))
theorem renough_loop (m : Nat) (hm : m ≤ 20) (lc : List HV) (L : List (List Int)) (hL : L.length = m) : ∀ (d j : Nat), j + d = m →
    ∃ x E, RunsTo Try.prog polR 39 (sub [1, 1, 0, 1, 0] B39) (nE m lc m j) [bIs L] x (polR.keys 39) E [bIs L] ∧
      (((L.drop j).all (fun r => decide (m ≤ r.length)) = true ∧ x = .exit 0 ∧ E = nE m lc m m) ∨ ((L.drop j).all (fun r => decide (m ≤ r.length)) = false ∧ x = .ret ∧ E.get 4 = .bool false)) := by
  intro d
  induction d with
  | zero =>
    intro j hj
    have hj : j = m := by omega
    subst hj
    exact ⟨_, _, RunsTo.loop_out (re_l_2 (j : Int) lc j (L.map encIs) j (by omega)) (by simp) (by kernel_rfl) (by kernel_rfl), .inl ⟨by rw [List.drop_eq_nil_of_le (by omega)]; rfl, rfl, rfl⟩⟩
  | succ d ih =>
    intro j hj
    have hjl : j < L.length := by omega
    obtain ⟨row, hp⟩ : ∃ p, L[j]? = some p := ⟨_, List.getElem?_eq_getElem hjl⟩
    have hd : L.drop j = row :: L.drop (j + 1) := by
      rw [List.drop_eq_getElem_cons hjl]
      rw [List.getElem?_eq_getElem hjl] at hp
      cases hp
      rfl
    have g1 : idxV Try.prog 55 (.sl 0 0 m none m 1) (.int .i64 (j : Int)) = some (.ptr 0 j 0 m) := by
      have := idx_sl (P := Try.prog) (t := 55) (b := 0) (tot := m) (cap := none) (ik := .i64) (n := (j : Int)) u55f u24f (by omega) (len := m) (by omega)
      simpa using this
    have g2 : loadV Try.prog [bIs L] 24 (.ptr 0 j 0 m) = some (.imm .own 1 (row.map encI)) := load_elem (b := 0) rfl (by rw [List.length_map]; exact hL.symm) (by rw [List.getElem?_map, hp]; rfl) rfl a24f i24f
    rw [hd, List.all_cons]
    by_cases hr : m ≤ row.length
    · obtain ⟨x, E, h1, h2⟩ := ih (j + 1) (by omega)
      have s1 := re_l_1 (m : Int) lc m (L.map encIs) j (row.map encI) (by omega) g1 g2 (by simp; omega)
      rw [wrap_succ (by omega)] at s1
      rw [decide_eq_true hr, Bool.true_and]
      exact ⟨x, E, RunsTo.loop s1 (by kernel_rfl) (gc_same (by simp)) h1 rfl (by kernel_rfl) (by kernel_rfl), h2⟩
    · rw [decide_eq_false hr, Bool.false_and]
      exact ⟨_, _, RunsTo.loop_out (re_l_0 (m : Int) lc m (L.map encIs) j (row.map encI) (by omega) g1 g2 (by simp; omega)) (by simp) (by kernel_rfl) (by kernel_rfl), .inr ⟨rfl, rfl, rfl⟩⟩

theorem argP_pairs' : ∀ (l : List (Int × Int)), argPL (l.map encP) = some (l.map encP)
  | [] => rfl
  | p :: l => by simp only [List.map_cons, argPL, argP_pairs' l, encP, argP]
theorem arg_pairs' (H : Heap) (l : List (Int × Int)) : toArg H 6 (.imm .arg 2 (l.map encP)) = some (.imm .arg 2 (l.map encP)) := by
  show argP (.imm .arg 2 (l.map encP)) = _
  simp only [argP, argP_pairs']

theorem ints_any : ∀ (M : List (List Int)), (M.map encIs).any isOwn = false
  | [] => rfl
  | r :: M => by simp only [List.map_cons, List.any_cons, ints_any M, encIs, isOwn, Bool.or_self]

theorem renough_ok : PrimOk Try.prog 39 rEnough39 := by
  refine primOk_pure (pol := polR) (fn := Try.f39) (cd := B39) follows_mixed soundR (by kernel_rfl) (by kernel_rfl) (fnok polR.prim _ _ (by kernel_rfl)) (by kernel_rfl) ?_
  intro args res h
  unfold rEnough39 at h
  split at h
  · rename_i n lc
    split at h
    · rename_i l hl
      split at h
      · rename_i hg
        cases h
        have hlc := mapO_inv decP_inv hl
        subst hlc
        have hF : refk44 [.int .i64 n, .imm .arg 2 (l.map encP)] = some (.own 1 ((rKnown n.toNat l).map encIs)) := by
          simp only [refk44, mapO_map decP_enc]
          rw [if_pos hg]
        obtain ⟨⟨hn, hlen⟩, hv⟩ := hg
        obtain ⟨m, rfl⟩ : ∃ m : Nat, n = (m : Int) := ⟨n.toNat, by omega⟩
        rw [Int.toNat_natCast] at hF ⊢
        have hm : m ≤ 20 := by omega
        have hlen := rKnown_length m l
        have a1 := re_a_0 (m : Int) (l.map encP)
        have b1 := re_b_0 (m : Int) (l.map encP) m ((rKnown m l).map encIs) (fun k => by
          rw [prim_call (pol := polR) (g := 44) (F := refk44) (by kernel_rfl) (rs := [.int .i64 (m : Int), .imm .arg 2 (l.map encP)]) (by simp only [mapO, arg_pairs']; rfl) hF]
          simp only [recv, recvVal, recvCell, ints_any, List.length_map, hlen]
          rfl)
        have c1 := re_c_0 (m : Int) (l.map encP) m ((rKnown m l).map encIs)
        obtain ⟨x, E, h1, h2⟩ := renough_loop m hm (l.map encP) (rKnown m l) hlen m 0 (by omega)
        rw [List.drop_zero] at h2
        rcases h2 with ⟨k1, rfl, rfl⟩ | ⟨k1, rfl, k2⟩
        · have t1 := RunsTo.seq c1 (RunsTo.block_exit (c := sub [1, 1, 0, 1] B39) h1 (by kernel_rfl)) (c := sub [1, 1, 0] B39) (by kernel_rfl) (by kernel_rfl)
          have t2 := RunsTo.seq t1 (re_z_0 (m : Int) (l.map encP) m ((rKnown m l).map encIs) m) (c := sub [1, 1] B39) (by kernel_rfl) (by kernel_rfl)
          have t3 := RunsTo.seq b1 t2 (c := sub [1] B39) (by kernel_rfl) (by kernel_rfl)
          have t4 := RunsTo.seq a1 t3 (c := B39) (by kernel_rfl) (by kernel_rfl)
          exact ⟨_, _, _, .bool (rEnough m l), t4, by simp, by rw [rEnough, k1]; simp only [resultsV, res39]; rfl, rfl⟩
        · have t1 := RunsTo.seq c1 (RunsTo.block_ret (c := sub [1, 1, 0, 1] B39) (i := 0) h1 (by kernel_rfl)) (c := sub [1, 1, 0] B39) (by kernel_rfl) (by kernel_rfl)
          have t2 := RunsTo.seq_out t1 (by simp) (c := sub [1, 1] B39) (b := sub [1, 1, 1] B39) (by kernel_rfl)
          have t3 := RunsTo.seq b1 t2 (c := sub [1] B39) (by kernel_rfl) (by kernel_rfl)
          have t4 := RunsTo.seq a1 t3 (c := B39) (by kernel_rfl) (by kernel_rfl)
          exact ⟨_, _, _, .bool (rEnough m l), t4, by simp, by rw [rEnough, k1]; simp only [resultsV, res39, mapO, resultV, k2], rfl⟩
      · cases h
    · cases h
  · cases h
end Go.Proofs.Ytmhfkhlamnapdaa
