/- A part of the proof: X27c. -/
import Derived.Test.YtmhfkhlamnapdaaXC
import Derived.Test.YtmhfkhlamnapdaaX27
set_option linter.unusedVariables false
set_option linter.unusedSimpArgs false
open Go Go.HL
namespace Go.Proofs.Ytmhfkhlamnapdaa
def bN (q r a : Nat) : Nat := (2 * r + 2 * q - a) % q
def cellR (q r a : Nat) : List (Int × Int) := (if a == r then [((a : Int), (q : Int))] else []) ++ (if Nat.blt a (bN q r a) then [((a : Int), (bN q r a : Int))] else [])
def rowFrom (q r : Nat) : Nat → Nat → List (Int × Int) → List (Int × Int)
  | _, 0, l => l
  | a, d + 1, l => rowFrom q r (a + 1) d (l ++ cellR q r a)
def rowsFrom (q : Nat) : Nat → Nat → List (List (Int × Int)) → List (List (Int × Int))
  | _, 0, L => L
  | r, d + 1, L => rowsFrom q (r + 1) d (L ++ [rowFrom q r 0 q []])
/-- The rounds of an even number of people. -/
def roundsL (n : Nat) : List (List (Int × Int)) := rowsFrom (n - 1) 0 (n - 1) []
def encPs (l : List (Int × Int)) : HV := .imm .own 2 (l.map encP)
def roundsR (n : Nat) : HV := .tuple [.own 1 ((roundsL n).map encPs), .int .i64 0]

theorem cellR_len (q r a : Nat) : (cellR q r a).length ≤ 2 := by
  unfold cellR
  split <;> split <;> simp
theorem rowFrom_ne (q r : Nat) : ∀ (d a : Nat) (l : List (Int × Int)), l ≠ [] ∨ (a ≤ r ∧ r < a + d) → rowFrom q r a d l ≠ []
  | 0, a, l, h => by
    rcases h with h | h
    · exact h
    · omega
  | d + 1, a, l, h => by
    rw [rowFrom]
    apply rowFrom_ne q r d
    rcases h with h | h
    · exact .inl (by simp [h])
    · by_cases ha : a = r
      · left
        rw [cellR, ha]
        simp
      · exact .inr (by omega)

theorem pairs_bnd : ∀ (l : List (Int × Int)), bndL (l.map encP) = 0
  | [] => rfl
  | b :: r => by simp only [List.map_cons, bndL, encP, bnd, pairs_bnd r]; rfl
theorem pairs_res : ∀ (l : List (Int × Int)), resPL (l.map encP) = true
  | [] => rfl
  | b :: r => by simp only [List.map_cons, resPL, encP, resP, pairs_res r]; rfl
abbrev bRows (r : List (List (Int × Int))) : Blk := .arr 1 (r.map encPs) true 0
abbrev bPs (l : List (Int × Int)) : Blk := .arr 2 (l.map encP) true 0
theorem u22r : Try.prog.underlying 22 = some (.slice 33) := by kernel_rfl
theorem u44r : Try.prog.underlying 44 = some (.slice 22) := by kernel_rfl
theorem info22 : (Try.prog.info? 22).map (fun i => (i.size, i.bytes, i.zero.map ofConst)) = some (1, 24, some (.imm .lit 0 [])) := by kernel_rfl

abbrev rE (q R : Nat) (v5 v6 v23 v24 : HV) (r : Nat) : Env := env27 (.int .i64 ((q : Int) + 1)) (.imm .lit 1 []) (.int .i64 0) (.sl 0 0 R none R 1) v5 v6 .undef .undef (.int .i64 (q : Int)) (.int .i64 (r : Int)) v23 v24

theorem rounds_in (q r : Nat) (hq : q ≤ 19) (hr : r < q) (rws : List HV) (R : Nat) : ∀ (d a : Nat) (l : List (Int × Int)), a + d = q → l.length ≤ 2 * a →
    RunsTo Try.prog polB 27 (sub [1, 1, 1, 0, 1, 0, 0, 1, 1, 0, 0, 1, 1, 0, 1, 0] B27) (rE q R (.int .i64 (r : Int)) (.sl 1 0 l.length none l.length 2) (.int .i64 (q : Int)) (.int .i64 (a : Int)) r) [.arr 1 rws true 0, bPs l]
      (.exit 2) (polB.keys 27) (rE q R (.int .i64 (r : Int)) (.sl 1 0 (rowFrom q r a d l).length none (rowFrom q r a d l).length 2) (.int .i64 (q : Int)) (.int .i64 (q : Int)) r) [.arr 1 rws true 0, bPs (rowFrom q r a d l)] := by
  have hw : IntKind.i64.wrap ((q : Int) + 1 - 1) = (q : Int) := by rw [wrapI64]; omega
  intro d
  induction d with
  | zero =>
    intro a l ha hl
    have ha : a = q := by omega
    subst ha
    have s1 := r27_l_4 ((a : Int) + 1) rws R r (l.map encP) l.length a (by rw [hw]; omega)
    rw [hw] at s1
    exact RunsTo.loop_out s1 (by simp) (by kernel_rfl) (by kernel_rfl)
  | succ d ih =>
    intro a l ha hl
    have h := ih (a + 1) (l ++ cellR q r a) (by omega) (by have := cellR_len q r a; simp only [List.length_append]; omega)
    have hX : (IntKind.i64.wrap (IntKind.i64.wrap (IntKind.i64.wrap (2 * (r : Int)) - (a : Int)) + IntKind.i64.wrap (2 * (q : Int))) : Int) = ((2 * r + 2 * q - a : Nat) : Int) := by
      have e1 : IntKind.i64.wrap (2 * (r : Int)) = 2 * (r : Int) := by rw [wrapI64]; omega
      have e2 : IntKind.i64.wrap (2 * (q : Int)) = 2 * (q : Int) := by rw [wrapI64]; omega
      have e3 : IntKind.i64.wrap (2 * (r : Int) - (a : Int)) = 2 * (r : Int) - (a : Int) := by rw [wrapI64]; omega
      rw [e1, e2, e3, wrapI64]; omega
    have hb : ((2 * r + 2 * q - a : Nat) : Int).tmod (q : Int) = (bN q r a : Int) := by
      rw [Int.tmod_eq_emod_of_nonneg (by omega)]; rfl
    have hrem : binV Try.prog .rem 3 (.int .i64 ((2 * r + 2 * q - a : Nat) : Int)) (.int .i64 (q : Int)) = some (.int .i64 (bN q r a : Int)) := by
      have : ((q : Nat) : Int) ≠ 0 := by omega
      simp only [binV, intBin, if_neg this, if_true, hb]
    have hbn : bN q r a < q := Nat.mod_lt _ (by omega)
    have app : ∀ (els : List HV) (p : Nat) (x : Int × Int), els.length = p → p ≤ 50 → appV [.arr 1 rws true 0, .arr 2 els true 0] 2 16 (.sl 1 0 p none p 2) [encP x] = some (.sl 1 0 (p + 1) none (p + 1) 2, [.arr 1 rws true 0, .arr 2 (els ++ [encP x]) true 0]) := fun els p x hp hl' => by
      have := app_sl (H := [.arr 1 rws true 0, .arr 2 els true 0]) (k := 2) (bytes := 16) (b := 1) (n := p) (mx := 0) (els := els) (xs := [encP x]) rfl hp (by simp) (by simp only [List.length_singleton, roomMax]; omega) rfl
      rw [this]
      rfl
    have hml : (l.map encP).length = l.length := by simp
    have haq : (a : Int) < (q : Int) := by omega
    by_cases g1 : a = r
    · by_cases g4 : a < bN q r a
      · have hc : cellR q r a = [((a : Int), (q : Int)), ((a : Int), (bN q r a : Int))] := by
          have h1 : Nat.blt a (bN q r a) = true := by simpa [Nat.blt_eq] using g4
          have h2 : (a == r) = true := by simpa using g1
          simp [cellR, h1, h2]
        have e1 : (l ++ cellR q r a).map encP = (l.map encP ++ [encP ((a : Int), (q : Int))]) ++ [encP ((a : Int), (bN q r a : Int))] := by rw [hc]; simp
        have e2 : (l ++ cellR q r a).length = l.length + 1 + 1 := by rw [hc]; simp
        unfold bPs at h
        rw [e1, e2] at h
        have s1 := r27_l_0 ((q : Int) + 1) rws R r (l.map encP) l.length a
        simp only [hw, hX, hb] at s1
        have s2 := s1 haq (by omega) (app _ _ ((a : Int), (q : Int)) hml (by omega)) hrem (by omega) (app _ _ ((a : Int), (bN q r a : Int)) (by simp) (by omega))
        rw [wrap_succ (by omega)] at s2
        exact RunsTo.loop s2 (by kernel_rfl) (gc_same (by simp)) h rfl (by kernel_rfl) (by kernel_rfl)
      · have hc : cellR q r a = [((a : Int), (q : Int))] := by
          have h1 : Nat.blt a (bN q r a) = false := by
            cases hh : Nat.blt a (bN q r a) with
            | false => rfl
            | true => exact absurd (by simpa [Nat.blt_eq] using hh) g4
          have h2 : (a == r) = true := by simpa using g1
          simp [cellR, h1, h2]
        have e1 : (l ++ cellR q r a).map encP = l.map encP ++ [encP ((a : Int), (q : Int))] := by rw [hc]; simp
        have e2 : (l ++ cellR q r a).length = l.length + 1 := by rw [hc]; simp
        unfold bPs at h
        rw [e1, e2] at h
        have s1 := r27_l_1 ((q : Int) + 1) rws R r (l.map encP) l.length a
        simp only [hw, hX, hb] at s1
        have s2 := s1 haq (by omega) (app _ _ ((a : Int), (q : Int)) hml (by omega)) hrem (by omega)
        rw [wrap_succ (by omega)] at s2
        exact RunsTo.loop s2 (by kernel_rfl) (gc_same (by simp)) h rfl (by kernel_rfl) (by kernel_rfl)
    · have h2 : (a == r) = false := by simpa using g1
      by_cases g4 : a < bN q r a
      · have hc : cellR q r a = [((a : Int), (bN q r a : Int))] := by
          have h1 : Nat.blt a (bN q r a) = true := by simpa [Nat.blt_eq] using g4
          simp [cellR, h1, h2]
        have e1 : (l ++ cellR q r a).map encP = l.map encP ++ [encP ((a : Int), (bN q r a : Int))] := by rw [hc]; simp
        have e2 : (l ++ cellR q r a).length = l.length + 1 := by rw [hc]; simp
        unfold bPs at h
        rw [e1, e2] at h
        have s1 := r27_l_2 ((q : Int) + 1) rws R r (l.map encP) l.length a
        simp only [hw, hX, hb] at s1
        have s2 := s1 haq (by omega) hrem (by omega) (app _ _ ((a : Int), (bN q r a : Int)) hml (by omega))
        rw [wrap_succ (by omega)] at s2
        exact RunsTo.loop s2 (by kernel_rfl) (gc_same (by simp)) h rfl (by kernel_rfl) (by kernel_rfl)
      · have hc : cellR q r a = [] := by
          have h1 : Nat.blt a (bN q r a) = false := by
            cases hh : Nat.blt a (bN q r a) with
            | false => rfl
            | true => exact absurd (by simpa [Nat.blt_eq] using hh) g4
          simp [cellR, h1, h2]
        have e1 : (l ++ cellR q r a).map encP = l.map encP := by rw [hc]; simp
        have e2 : (l ++ cellR q r a).length = l.length := by rw [hc]; simp
        unfold bPs at h
        rw [e1, e2] at h
        have s1 := r27_l_3 ((q : Int) + 1) rws R r (l.map encP) l.length a
        simp only [hw, hX, hb] at s1
        have s2 := s1 haq (by omega) hrem (by omega)
        rw [wrap_succ (by omega)] at s2
        exact RunsTo.loop s2 (by kernel_rfl) (gc_same (by simp)) h rfl (by kernel_rfl) (by kernel_rfl)

theorem rowFrom_len (q r : Nat) : ∀ (d a : Nat) (l : List (Int × Int)), l.length ≤ 2 * a → (rowFrom q r a d l).length ≤ 2 * (a + d)
  | 0, a, l, h => h
  | d + 1, a, l, h => by
    rw [rowFrom]
    have := rowFrom_len q r d (a + 1) (l ++ cellR q r a) (by have := cellR_len q r a; simp only [List.length_append]; omega)
    omega

theorem rounds_out (q : Nat) (hq : q ≤ 19) : ∀ (d r : Nat) (L : List (List (Int × Int))), r + d = q → L.length = r →
    RunsTo Try.prog polB 27 (sub [1, 1, 1, 0, 1, 0] B27) (rE q L.length .undef .undef .undef .undef r) [bRows L]
      (.exit 0) (polB.keys 27) (rE q (rowsFrom q r d L).length .undef .undef .undef .undef q) [bRows (rowsFrom q r d L)] ∧ (rowsFrom q r d L).length = q := by
  have hw : IntKind.i64.wrap ((q : Int) + 1 - 1) = (q : Int) := by rw [wrapI64]; omega
  intro d
  induction d with
  | zero =>
    intro r L hr hL
    have hr : r = q := by omega
    subst hr
    have s1 := r27_e_1 ((r : Int) + 1) (L.map encPs) L.length r (by rw [hw]; omega)
    have s2 := r27_ff_0 ((r : Int) + 1) (L.map encPs) L.length r
    rw [hw] at s1 s2
    have t1 := RunsTo.seq_out s2 (by simp) (c := sub [1, 1, 1, 0, 1, 0, 0, 1] B27) (b := sub [1, 1, 1, 0, 1, 0, 0, 1, 1] B27) (by kernel_rfl)
    have t2 := RunsTo.seq s1 t1 (c := sub [1, 1, 1, 0, 1, 0, 0] B27) (by kernel_rfl) (by kernel_rfl)
    exact ⟨RunsTo.loop_out t2 (by simp) (by kernel_rfl) (by kernel_rfl), hL⟩
  | succ d ih =>
    intro r L hr hL
    have hrq : r < q := by omega
    obtain ⟨h, hlen⟩ := ih (r + 1) (L ++ [rowFrom q r 0 q []]) (by omega) (by simp [hL])
    refine ⟨?_, hlen⟩
    have hne := rowFrom_ne q r q 0 [] (.inr ⟨by omega, by omega⟩)
    have hrl := rowFrom_len q r q 0 [] (by simp)
    have s1 := r27_e_0 ((q : Int) + 1) (L.map encPs) L.length r (by rw [hw]; omega)
    have s2 := r27_ft_0 ((q : Int) + 1) (L.map encPs) L.length r
    have s3 := r27_g_0 ((q : Int) + 1) (L.map encPs) L.length r
    have s4 := r27_h_0 ((q : Int) + 1) (L.map encPs) L.length r
    have s5 := r27_i_0 ((q : Int) + 1) (L.map encPs) L.length r [] 0
    rw [hw] at s1 s2 s3 s4 s5
    have s6 := rounds_in q r hq hrq (L.map encPs) L.length q 0 [] (by omega) (by simp)
    rw [show rowsFrom q r (d + 1) L = rowsFrom q (r + 1) d (L ++ [rowFrom q r 0 q []]) from rfl]
    generalize hrow : rowFrom q r 0 q [] = row at hne hrl s6 h ⊢
    have h0 : row.length ≠ 0 := fun h => hne (List.length_eq_zero_iff.1 h)
    have s7 := r27_m_0 ((q : Int) + 1) (L.map encPs) L.length r (row.map encP) row.length q
      (lit_seal (P := Try.prog) (H := [bRows L, bPs row]) (t := 44) (b := 1) u44r info22 rfl rfl rfl (by simp) h0 (pairs_res row))
      (by
        have := app_sl (H := [bRows L, .arr 2 (row.map encP) false 0]) (k := 1) (bytes := 24) (b := 0) (n := L.length) (mx := 0) (els := L.map encPs) (xs := [.imm .own 2 (row.map encP)]) rfl (by simp) (by simp) (by simp only [List.length_singleton, roomMax]; omega) rfl
        rw [this]
        rfl)
    have s8 := r27_n_0 ((q : Int) + 1) ((L ++ [row]).map encPs) (L.length + 1) r (row.map encP) row.length q
    rw [hw] at s7 s8
    rw [wrap_succ (by omega)] at s8
    have e3 : (L ++ [row]).length = L.length + 1 := by simp
    have e4 : (L ++ [row]).map encPs = L.map encPs ++ [.imm .own 2 (row.map encP)] := by simp [encPs]
    unfold bRows at h
    rw [e3, e4] at h
    rw [e4] at s8
    have t1 := RunsTo.seq s5 (RunsTo.block_exit (c := sub [1, 1, 1, 0, 1, 0, 0, 1, 1, 0, 0, 1, 1, 0, 1] B27) s6 (by kernel_rfl)) (c := sub [1, 1, 1, 0, 1, 0, 0, 1, 1, 0, 0, 1, 1, 0] B27) (by kernel_rfl) (by kernel_rfl)
    have t2 := RunsTo.seq t1 s7 (c := sub [1, 1, 1, 0, 1, 0, 0, 1, 1, 0, 0, 1, 1] B27) (by kernel_rfl) (by kernel_rfl)
    have t3 := RunsTo.seq s4 t2 (c := sub [1, 1, 1, 0, 1, 0, 0, 1, 1, 0, 0, 1] B27) (by kernel_rfl) (by kernel_rfl)
    have t4 := RunsTo.seq s3 t3 (c := sub [1, 1, 1, 0, 1, 0, 0, 1, 1, 0, 0] B27) (by kernel_rfl) (by kernel_rfl)
    have t5 := RunsTo.block_normal t4 (c := sub [1, 1, 1, 0, 1, 0, 0, 1, 1, 0] B27) (i := 1) (by kernel_rfl)
    have t6 := RunsTo.seq t5 s8 (c := sub [1, 1, 1, 0, 1, 0, 0, 1, 1] B27) (by kernel_rfl) (by kernel_rfl)
    have t7 := RunsTo.seq s2 t6 (c := sub [1, 1, 1, 0, 1, 0, 0, 1] B27) (by kernel_rfl) (by kernel_rfl)
    have t8 := RunsTo.seq s1 t7 (c := sub [1, 1, 1, 0, 1, 0, 0] B27) (by kernel_rfl) (by kernel_rfl)
    exact RunsTo.loop t8 (by kernel_rfl) (by kernel_rfl) h rfl (by kernel_rfl) (by kernel_rfl)

theorem res27 : Try.f27.results.toList = [.tmp 2, .tmp 3] := by kernel_rfl
def roundsOkN (n : Int) : Bool := decide (2 ≤ n) && decide (n ≤ 20) && !decide (n.tmod 2 = 1)
def roundsF : List HV → Option HV
  | [.int .i64 n] => some (if roundsOkN n then roundsR n.toNat else .tuple [.own 1 [], .int .i64 2])
  | _ => none
theorem frz_pairs {H : Heap} {no : List Nat} (l : List (Int × Int)) : frz H no 4 (encPs l) = some (encPs l) := by
  have : resP (encPs l) = true := by simp only [encPs, resP, pairs_res]; rfl
  show (if resP (encPs l) then some (encPs l) else none) = _
  rw [this]; rfl

theorem rounds_run (n : Int) : ∃ E H v, RunsTo Try.prog polB 27 B27 (args0 [.int .i64 n]) [] .ret (polB.keys 27) E H ∧ resultsV Try.prog Try.f27 E H = some v ∧ toRes H false v = some (if roundsOkN n then roundsR n.toNat else .tuple [.own 1 [], .int .i64 2]) := by
  have a1 := r27_a_0 n
  have bad : ∀ E, roundsOkN n = false → RunsTo Try.prog polB 27 (sub [1, 0] B27) (env27 (.int .i64 n) (.imm .lit 1 []) (.int .i64 0) .undef .undef .undef .undef .undef .undef .undef .undef .undef) [] .ret (polB.keys 27) E [] → resultsV Try.prog Try.f27 E [] = some (.tuple [.imm .lit 1 [], .int .i64 2]) →
      ∃ E H v, RunsTo Try.prog polB 27 B27 (args0 [.int .i64 n]) [] .ret (polB.keys 27) E H ∧ resultsV Try.prog Try.f27 E H = some v ∧ toRes H false v = some (if roundsOkN n then roundsR n.toNat else .tuple [.own 1 [], .int .i64 2]) := by
    intro E hb b1 hv
    have t := RunsTo.seq a1 (RunsTo.seq_out b1 (by simp) (c := sub [1] B27) (b := sub [1, 1] B27) (by kernel_rfl)) (c := B27) (by kernel_rfl) (by kernel_rfl)
    exact ⟨E, [], _, t, hv, by rw [hb]; rfl⟩
  by_cases h1 : 2 ≤ n ∧ n ≤ 20
  · by_cases h2 : n.tmod 2 = 1
    · exact bad _ (by rw [roundsOkN, decide_eq_true h2]; simp) (r27_b_0 n h1 h2) (by simp only [resultsV, res27]; rfl)
    · have hok : roundsOkN n = true := by rw [roundsOkN, decide_eq_true h1.1, decide_eq_true h1.2, decide_eq_false h2]; rfl
      obtain ⟨q, rfl⟩ : ∃ q : Nat, n = (q : Int) + 1 := ⟨(n - 1).toNat, by omega⟩
      have hw : IntKind.i64.wrap ((q : Int) + 1 - 1) = (q : Int) := by rw [wrapI64]; omega
      have hnq : ((q : Int) + 1).toNat = q + 1 := by omega
      have b1 := r27_b_1 ((q : Int) + 1) h1 h2
      have c1 := r27_c_0 ((q : Int) + 1)
      have d1 := r27_d_0 ((q : Int) + 1) [] 0
      rw [hw] at d1
      obtain ⟨e1, hlen⟩ := rounds_out q (by omega) q 0 [] (by omega) rfl
      have hL : rowsFrom q 0 q [] = roundsL (q + 1) := rfl
      rw [hL] at e1 hlen
      have z1 := r27_z_0 ((q : Int) + 1) ((roundsL (q + 1)).map encPs) (roundsL (q + 1)).length q
      rw [hw] at z1
      have t1 := RunsTo.seq d1 (RunsTo.block_exit (c := sub [1, 1, 1, 0, 1] B27) e1 (by kernel_rfl)) (c := sub [1, 1, 1, 0] B27) (by kernel_rfl) (by kernel_rfl)
      have t2 := RunsTo.seq t1 z1 (c := sub [1, 1, 1] B27) (by kernel_rfl) (by kernel_rfl)
      have t3 := RunsTo.seq c1 t2 (c := sub [1, 1] B27) (by kernel_rfl) (by kernel_rfl)
      have t4 := RunsTo.seq b1 t3 (c := sub [1] B27) (by kernel_rfl) (by kernel_rfl)
      have t5 := RunsTo.seq a1 t4 (c := B27) (by kernel_rfl) (by kernel_rfl)
      refine ⟨_, _, .tuple [.sl 0 0 (roundsL (q + 1)).length none (roundsL (q + 1)).length 1, .int .i64 0], t5, by simp only [resultsV, res27]; rfl, ?_⟩
      rw [hok, if_pos rfl, hnq, roundsR]
      have hr := resCell_sl (H := [bRows (roundsL (q + 1))]) (no := [0]) (b := 0) (k := 1) (m := (roundsL (q + 1)).length) (cap := none) (els := (roundsL (q + 1)).map encPs) rfl (by simp) (mapO_self frz_pairs _)
      have ho : ownedAll [bRows (roundsL (q + 1))] false (.tuple [.sl 0 0 (roundsL (q + 1)).length none (roundsL (q + 1)).length 1, .int .i64 0]) = [0] := rfl
      simp only [toRes, ho, List.nodup_cons, List.not_mem_nil, not_false_eq_true, List.nodup_nil, and_self, if_true, mapO, resVal, hr]
      rfl
  · exact bad _ (by
        rw [roundsOkN]
        by_cases h3 : 2 ≤ n
        · rw [decide_eq_false (show ¬ (n ≤ 20) by omega)]; simp
        · rw [decide_eq_false h3]; rfl) (r27_b_2 n h1) (by simp only [resultsV, res27]; rfl)

theorem rounds_ok : PrimOk Try.prog 27 roundsF := by
  refine primOk_pure (pol := polB) (fn := Try.f27) (cd := B27) follows_mixed soundB (by kernel_rfl) (by kernel_rfl) (fnok polB.prim _ _ (by kernel_rfl)) (by kernel_rfl) ?_
  intro args res h
  unfold roundsF at h
  split at h
  · rename_i n
    cases h
    obtain ⟨E, H, v, h1, h2, h3⟩ := rounds_run n
    exact ⟨_, E, H, v, h1, by simp, h2, h3⟩
  · cases h
end Go.Proofs.Ytmhfkhlamnapdaa
