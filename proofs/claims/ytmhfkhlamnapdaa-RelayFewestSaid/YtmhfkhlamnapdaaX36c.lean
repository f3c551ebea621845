/- A part of the proof: X36c. -/
import Derived.Test.YtmhfkhlamnapdaaX44c
import Derived.Test.YtmhfkhlamnapdaaX27c
import Derived.Test.YtmhfkhlamnapdaaX36
set_option linter.unusedVariables false
set_option linter.unusedSimpArgs false
open Go Go.HL
namespace Go.Proofs.Ytmhfkhlamnapdaa
def condR (q r a b : Nat) : Bool := if b == q then a == r else (!(a == r) && !(b == r) && ((a + b + 2 * q - 2 * r) % q == 0))
def innerB (q r a : Nat) : Nat → Nat → List (Int × Int) → List (Int × Int)
  | _, 0, l => l
  | b, d + 1, l => innerB q r a (b + 1) d (if condR q r a b then l ++ [((a : Int), (b : Int))] else l)
def middleA (q r : Nat) : Nat → Nat → List (Int × Int) → List (Int × Int)
  | _, 0, l => l
  | a, d + 1, l => middleA q r (a + 1) d (innerB q r a (a + 1) (q - a) l)
def outerR (q : Nat) : Nat → Nat → List (List (Int × Int)) → List (List (Int × Int))
  | _, 0, L => L
  | r, d + 1, L => outerR q (r + 1) d (L ++ [middleA q r 0 (q + 1) []])
def refRounds (n : Nat) : List (List (Int × Int)) := outerR (n - 1) 0 (n - 1) []
theorem innerB_length (q r a : Nat) : ∀ (d b : Nat) (l : List (Int × Int)), (innerB q r a b d l).length ≤ l.length + d
  | 0, _, _ => Nat.le_refl _
  | d + 1, b, l => by
    rw [innerB]
    have := innerB_length q r a d (b + 1) (if condR q r a b then l ++ [((a : Int), (b : Int))] else l)
    split at this
    · rename_i h; rw [if_pos h]; simp only [List.length_append, List.length_singleton] at this; omega
    · rename_i h; rw [if_neg h]; omega
theorem middleA_length (q r : Nat) : ∀ (d a : Nat) (l : List (Int × Int)), (middleA q r a d l).length ≤ l.length + d * q
  | 0, _, _ => by simp [middleA]
  | d + 1, a, l => by
    rw [middleA]
    have h1 := middleA_length q r d (a + 1) (innerB q r a (a + 1) (q - a) l)
    have h2 := innerB_length q r a (q - a) (a + 1) l
    have h3 : (d + 1) * q = d * q + q := Nat.succ_mul d q
    omega

abbrev uE (q R r : Nat) (v6 v7 v8 : HV) : Env := env36 (.int .i64 ((q : Int) + 1)) (.imm .lit 1 []) (.int .i64 (q : Int)) (.sl 0 0 R none R 1) (.int .i64 (r : Int)) v6 v7 v8
abbrev slP (l : List (Int × Int)) : HV := .sl 1 0 l.length none l.length 2

theorem rr_in (q r a : Nat) (hq : q ≤ 19) (hr : r < q) (ha : a ≤ q) (rws : List HV) (R : Nat) : ∀ (d b : Nat) (l : List (Int × Int)), b + d = q + 1 → l.length + d ≤ 1000 →
    RunsTo Try.prog pol 36 (sub [1, 1, 1, 0, 1, 0, 0, 1, 0, 0, 1, 0, 1, 0, 0, 1, 0, 0, 1, 0] B36) (uE q R r (slP l) (.int .i64 (a : Int)) (.int .i64 (b : Int))) [.arr 1 rws true 0, bPs l]
      (.exit 4) (pol.keys 36) (uE q R r (slP (innerB q r a b d l)) (.int .i64 (a : Int)) (.int .i64 ((q + 1 : Nat) : Int))) [.arr 1 rws true 0, bPs (innerB q r a b d l)] := by
  intro d
  induction d with
  | zero =>
    intro b l hb hl
    have hb : b = q + 1 := by omega
    subst hb
    exact RunsTo.loop_out (rr_l_10 ((q : Int) + 1) q rws R r (l.map encP) l.length a (q + 1) (by omega)) (by simp) (by kernel_rfl) (by kernel_rfl)
  | succ d ih =>
    intro b l hb hl
    have h := ih (b + 1) (if condR q r a b then l ++ [((a : Int), (b : Int))] else l) (by omega) (by
      split
      · simp only [List.length_append, List.length_singleton]; omega
      · omega)
    rw [show innerB q r a b (d + 1) l = innerB q r a (b + 1) d (if condR q r a b then l ++ [((a : Int), (b : Int))] else l) from rfl]
    have hml : (l.map encP).length = l.length := by simp
    have hbn : (b : Int) < (q : Int) + 1 := by omega
    have happ : appV [.arr 1 rws true 0, bPs l] 2 16 (slP l) [.agg [.int .i64 (a : Int), .int .i64 (b : Int)]] = some (.sl 1 0 (l.length + 1) none (l.length + 1) 2, [.arr 1 rws true 0, .arr 2 (l.map encP ++ [.agg [.int .i64 (a : Int), .int .i64 (b : Int)]]) true 0]) := by
      have := app_sl (H := [.arr 1 rws true 0, bPs l]) (k := 2) (bytes := 16) (b := 1) (n := l.length) (mx := 0) (els := l.map encP) (xs := [encP ((a : Int), (b : Int))]) rfl hml (by simp) (by simp only [List.length_singleton, roomMax]; omega) rfl
      exact this
    have e1 : (l ++ [((a : Int), (b : Int))]).map encP = l.map encP ++ [.agg [.int .i64 (a : Int), .int .i64 (b : Int)]] := by simp [encP]
    have e2 : (l ++ [((a : Int), (b : Int))]).length = l.length + 1 := by simp
    have hX : (IntKind.i64.wrap (IntKind.i64.wrap (IntKind.i64.wrap ((a : Int) + (b : Int)) - IntKind.i64.wrap (2 * (r : Int))) + IntKind.i64.wrap (2 * (q : Int))) : Int) = ((a + b + 2 * q - 2 * r : Nat) : Int) := by
      have e1 : IntKind.i64.wrap (2 * (r : Int)) = 2 * (r : Int) := by rw [wrapI64]; omega
      have e2 : IntKind.i64.wrap (2 * (q : Int)) = 2 * (q : Int) := by rw [wrapI64]; omega
      have e3 : IntKind.i64.wrap ((a : Int) + (b : Int)) = (a : Int) + (b : Int) := by rw [wrapI64]; omega
      have e4 : IntKind.i64.wrap ((a : Int) + (b : Int) - 2 * (r : Int)) = (a : Int) + (b : Int) - 2 * (r : Int) := by rw [wrapI64]; omega
      rw [e1, e2, e3, e4, wrapI64]; omega
    have hb2 : ((a + b + 2 * q - 2 * r : Nat) : Int).tmod (q : Int) = (((a + b + 2 * q - 2 * r) % q : Nat) : Int) := by
      rw [Int.tmod_eq_emod_of_nonneg (by omega)]; rfl
    have hrem : binV Try.prog .rem 3 (.int .i64 ((a + b + 2 * q - 2 * r : Nat) : Int)) (.int .i64 (q : Int)) = some (.int .i64 (((a + b + 2 * q - 2 * r) % q : Nat) : Int)) := by
      have : ((q : Nat) : Int) ≠ 0 := by omega
      simp only [binV, intBin, if_neg this, if_true, hb2]
    cases hc : condR q r a b with
    | true =>
      have hcc : (b = q ∧ a = r) ∨ (b ≠ q ∧ a ≠ r ∧ b ≠ r ∧ (a + b + 2 * q - 2 * r) % q = 0) := by
        unfold condR at hc
        split at hc
        · rename_i h1; exact .inl ⟨by simpa using h1, by simpa using hc⟩
        · rename_i h1
          simp only [Bool.and_eq_true, Bool.not_eq_true', beq_eq_false_iff_ne, beq_iff_eq] at hc
          exact .inr ⟨by simpa using h1, hc.1.1, hc.1.2, hc.2⟩
      simp only [hc, if_true] at h ⊢
      unfold bPs slP at h
      rw [e1, e2] at h
      rcases hcc with ⟨g1, g2⟩ | ⟨g1, g2, g3, g4⟩
      · have s1 := rr_l_0 ((q : Int) + 1) q rws R r (l.map encP) l.length a b hbn (by omega) (by omega) happ
        rw [wrap_succ (by omega)] at s1
        exact RunsTo.loop s1 (by kernel_rfl) (gc_same (by simp)) h rfl (by kernel_rfl) (by kernel_rfl)
      · have s1 := rr_l_7 ((q : Int) + 1) q rws R r (l.map encP) l.length a b
        simp only [hX, hb2] at s1
        have s2 := s1 hbn (by omega) (by omega) (by omega) (by omega) hrem (by omega) happ
        rw [wrap_succ (by omega)] at s2
        exact RunsTo.loop s2 (by kernel_rfl) (gc_same (by simp)) h rfl (by kernel_rfl) (by kernel_rfl)
    | false =>
      have hcc : (b = q ∧ a ≠ r) ∨ (b ≠ q ∧ (a = r ∨ (a ≠ r ∧ (b = r ∨ (b ≠ r ∧ (a + b + 2 * q - 2 * r) % q ≠ 0))))) := by
        unfold condR at hc
        split at hc
        · rename_i h1; exact .inl ⟨by simpa using h1, by simpa using hc⟩
        · rename_i h1
          refine .inr ⟨by simpa using h1, ?_⟩
          by_cases k1 : a = r
          · exact .inl k1
          · refine .inr ⟨k1, ?_⟩
            by_cases k2 : b = r
            · exact .inl k2
            · refine .inr ⟨k2, fun k3 => ?_⟩
              simp [k1, k2, k3] at hc
      simp only [hc, Bool.false_eq_true, if_false] at h ⊢
      rcases hcc with ⟨g1, g2⟩ | ⟨g1, g2 | ⟨g2, g3 | ⟨g3, g4⟩⟩⟩
      · have s1 := rr_l_4 ((q : Int) + 1) q rws R r (l.map encP) l.length a b hbn (by omega) (by omega) (by omega)
        rw [wrap_succ (by omega)] at s1
        exact RunsTo.loop s1 (by kernel_rfl) (gc_same (by simp)) h rfl (by kernel_rfl) (by kernel_rfl)
      · have s1 := rr_l_5 ((q : Int) + 1) q rws R r (l.map encP) l.length a b hbn (by omega) (by omega) (by omega)
        rw [wrap_succ (by omega)] at s1
        exact RunsTo.loop s1 (by kernel_rfl) (gc_same (by simp)) h rfl (by kernel_rfl) (by kernel_rfl)
      · have s1 := rr_l_6 ((q : Int) + 1) q rws R r (l.map encP) l.length a b hbn (by omega) (by omega) (by omega) (by omega)
        rw [wrap_succ (by omega)] at s1
        exact RunsTo.loop s1 (by kernel_rfl) (gc_same (by simp)) h rfl (by kernel_rfl) (by kernel_rfl)
      · have s1 := rr_l_8 ((q : Int) + 1) q rws R r (l.map encP) l.length a b
        simp only [hX, hb2] at s1
        have s2 := s1 hbn (by omega) (by omega) (by omega) (by omega) hrem (by omega)
        rw [wrap_succ (by omega)] at s2
        exact RunsTo.loop s2 (by kernel_rfl) (gc_same (by simp)) h rfl (by kernel_rfl) (by kernel_rfl)

theorem rr_mid (q r : Nat) (hq : q ≤ 19) (hr : r < q) (rws : List HV) (R : Nat) : ∀ (d a : Nat) (l : List (Int × Int)), a + d = q + 1 → l.length + d * 20 ≤ 900 →
    RunsTo Try.prog pol 36 (sub [1, 1, 1, 0, 1, 0, 0, 1, 0, 0, 1, 0, 1, 0] B36) (uE q R r (slP l) (.int .i64 (a : Int)) .undef) [.arr 1 rws true 0, bPs l]
      (.exit 2) (pol.keys 36) (uE q R r (slP (middleA q r a d l)) (.int .i64 ((q + 1 : Nat) : Int)) .undef) [.arr 1 rws true 0, bPs (middleA q r a d l)] := by
  intro d
  induction d with
  | zero =>
    intro a l ha hl
    have ha : a = q + 1 := by omega
    subst ha
    have s1 := rr_h_1 ((q : Int) + 1) q rws R r (l.map encP) l.length (q + 1) (by omega)
    exact RunsTo.loop_out (RunsTo.seq_out s1 (by simp) (c := sub [1, 1, 1, 0, 1, 0, 0, 1, 0, 0, 1, 0, 1, 0, 0] B36) (b := sub [1, 1, 1, 0, 1, 0, 0, 1, 0, 0, 1, 0, 1, 0, 0, 1] B36) (by kernel_rfl)) (by simp) (by kernel_rfl) (by kernel_rfl)
  | succ d ih =>
    intro a l ha hl
    have hil := innerB_length q r a (q - a) (a + 1) l
    have h := ih (a + 1) (innerB q r a (a + 1) (q - a) l) (by omega) (by omega)
    rw [show middleA q r a (d + 1) l = middleA q r (a + 1) d (innerB q r a (a + 1) (q - a) l) from rfl]
    have s1 := rr_h_0 ((q : Int) + 1) q rws R r (l.map encP) l.length a (by omega)
    have s2 := rr_i_0 ((q : Int) + 1) q rws R r (l.map encP) l.length a
    rw [wrap_succ (by omega)] at s2
    have s3 := rr_in q r a hq hr (by omega) rws R (q - a) (a + 1) l (by omega) (by omega)
    have s4 := rr_m_0 ((q : Int) + 1) q rws R r ((innerB q r a (a + 1) (q - a) l).map encP) (innerB q r a (a + 1) (q - a) l).length a (q + 1)
    rw [wrap_succ (by omega)] at s4
    have t1 := RunsTo.seq s2 (RunsTo.block_exit (c := sub [1, 1, 1, 0, 1, 0, 0, 1, 0, 0, 1, 0, 1, 0, 0, 1, 0, 0, 1] B36) s3 (by kernel_rfl)) (c := sub [1, 1, 1, 0, 1, 0, 0, 1, 0, 0, 1, 0, 1, 0, 0, 1, 0, 0] B36) (by kernel_rfl) (by kernel_rfl)
    have t2 := RunsTo.block_normal t1 (c := sub [1, 1, 1, 0, 1, 0, 0, 1, 0, 0, 1, 0, 1, 0, 0, 1, 0] B36) (i := 3) (by kernel_rfl)
    have t3 := RunsTo.seq t2 s4 (c := sub [1, 1, 1, 0, 1, 0, 0, 1, 0, 0, 1, 0, 1, 0, 0, 1] B36) (by kernel_rfl) (by kernel_rfl)
    have t4 := RunsTo.seq s1 t3 (c := sub [1, 1, 1, 0, 1, 0, 0, 1, 0, 0, 1, 0, 1, 0, 0] B36) (by kernel_rfl) (by kernel_rfl)
    exact RunsTo.loop t4 (by kernel_rfl) (gc_same (by simp)) h rfl (by kernel_rfl) (by kernel_rfl)

theorem rr_out (q : Nat) (hq : q ≤ 19) : ∀ (d r : Nat) (L : List (List (Int × Int))), r + d = q → L.length = r →
    RunsTo Try.prog pol 36 (sub [1, 1, 1, 0, 1, 0] B36) (uE q L.length r .undef .undef .undef) [bRows L]
      (.exit 0) (pol.keys 36) (uE q (outerR q r d L).length q .undef .undef .undef) [bRows (outerR q r d L)] := by
  intro d
  induction d with
  | zero =>
    intro r L hr hL
    have hr : r = q := by omega
    subst hr
    have s1 := rr_e_1 ((r : Int) + 1) r (L.map encPs) L.length r (by omega)
    exact RunsTo.loop_out (RunsTo.seq_out s1 (by simp) (c := sub [1, 1, 1, 0, 1, 0, 0] B36) (b := sub [1, 1, 1, 0, 1, 0, 0, 1] B36) (by kernel_rfl)) (by simp) (by kernel_rfl) (by kernel_rfl)
  | succ d ih =>
    intro r L hr hL
    have hrq : r < q := by omega
    have h := ih (r + 1) (L ++ [middleA q r 0 (q + 1) []]) (by omega) (by simp [hL])
    rw [show outerR q r (d + 1) L = outerR q (r + 1) d (L ++ [middleA q r 0 (q + 1) []]) from rfl]
    have s1 := rr_e_0 ((q : Int) + 1) q (L.map encPs) L.length r (by omega)
    have s2 := rr_f_0 ((q : Int) + 1) q (L.map encPs) L.length r
    have s3 := rr_g_0 ((q : Int) + 1) q (L.map encPs) L.length r [] 0
    have s4 := rr_mid q r hq hrq (L.map encPs) L.length (q + 1) 0 [] (by omega) (by simp; omega)
    generalize middleA q r 0 (q + 1) [] = row at h s4 ⊢
    obtain ⟨w, hlit⟩ := lit_seal' (P := Try.prog) (H := [bRows L, bPs row]) (t := 44) (b := 1) (p := row.length) u44r info22 rfl rfl rfl (by simp) (pairs_res row)
    have hap := app_sl (H := [bRows L, .arr 2 (row.map encP) w 0]) (k := 1) (bytes := 24) (b := 0) (n := L.length) (mx := 0) (els := L.map encPs) (xs := [.imm .own 2 (row.map encP)]) rfl (by simp) (by simp) (by simp only [List.length_singleton, roomMax]; omega) rfl
    have s5 := rr_o_0 ((q : Int) + 1) q (L.map encPs) L.length r (row.map encP) row.length (q + 1) w hlit hap
    have s6 := rr_p_0 ((q : Int) + 1) q (L.map encPs ++ [.imm .own 2 (row.map encP)]) (L.length + 1) r (row.map encP) row.length (q + 1) w
    rw [wrap_succ (by omega)] at s6
    have e3 : (L ++ [row]).length = L.length + 1 := by simp
    have e4 : (L ++ [row]).map encPs = L.map encPs ++ [.imm .own 2 (row.map encP)] := by simp [encPs]
    unfold bRows at h
    rw [e3, e4] at h
    have t1 := RunsTo.seq s3 (RunsTo.block_exit (c := sub [1, 1, 1, 0, 1, 0, 0, 1, 0, 0, 1, 0, 1] B36) s4 (by kernel_rfl)) (c := sub [1, 1, 1, 0, 1, 0, 0, 1, 0, 0, 1, 0] B36) (by kernel_rfl) (by kernel_rfl)
    have t2 := RunsTo.seq t1 s5 (c := sub [1, 1, 1, 0, 1, 0, 0, 1, 0, 0, 1] B36) (by kernel_rfl) (by kernel_rfl)
    have t3 := RunsTo.seq s2 t2 (c := sub [1, 1, 1, 0, 1, 0, 0, 1, 0, 0] B36) (by kernel_rfl) (by kernel_rfl)
    have t4 := RunsTo.block_normal t3 (c := sub [1, 1, 1, 0, 1, 0, 0, 1, 0] B36) (i := 1) (by kernel_rfl)
    have t5 := RunsTo.seq t4 s6 (c := sub [1, 1, 1, 0, 1, 0, 0, 1] B36) (by kernel_rfl) (by kernel_rfl)
    have t6 := RunsTo.seq s1 t5 (c := sub [1, 1, 1, 0, 1, 0, 0] B36) (by kernel_rfl) (by kernel_rfl)
    exact RunsTo.loop t6 (by kernel_rfl) (by kernel_rfl) h rfl (by kernel_rfl) (by kernel_rfl)

def refRounds36 : List HV → Option HV
  | [.int .i64 n] => if 2 ≤ n ∧ n ≤ 20 then some (.own 1 ((refRounds n.toNat).map encPs)) else none
  | _ => none
theorem res36 : Try.f36.results.toList = [.tmp 2] := by kernel_rfl
theorem refRounds_ok : PrimOk Try.prog 36 refRounds36 := by
  refine primOk_pure (pol := pol) (fn := Try.f36) (cd := B36) follows_mixed sound (by kernel_rfl) (by kernel_rfl) (fnok pol.prim _ _ (by kernel_rfl)) (by kernel_rfl) ?_
  intro args res h
  unfold refRounds36 at h
  split at h
  · rename_i n
    split at h
    · rename_i hn
      cases h
      obtain ⟨q, rfl⟩ : ∃ q : Nat, n = (q : Int) + 1 := ⟨(n - 1).toNat, by omega⟩
      have hw : IntKind.i64.wrap ((q : Int) + 1 - 1) = (q : Int) := by rw [wrapI64]; omega
      have hnq : ((q : Int) + 1).toNat = q + 1 := by omega
      rw [hnq]
      have a1 := rr_a_0 ((q : Int) + 1)
      have b1 := rr_b_0 ((q : Int) + 1)
      rw [hw] at b1
      have c1 := rr_c_0 ((q : Int) + 1) q
      have d1 := rr_d_0 ((q : Int) + 1) q [] 0
      have e1 := rr_out q (by omega) q 0 [] (by omega) rfl
      rw [show outerR q 0 q [] = refRounds (q + 1) from rfl] at e1
      have z1 := rr_z_0 ((q : Int) + 1) q ((refRounds (q + 1)).map encPs) (refRounds (q + 1)).length q
      have t1 := RunsTo.seq d1 (RunsTo.block_exit (c := sub [1, 1, 1, 0, 1] B36) e1 (by kernel_rfl)) (c := sub [1, 1, 1, 0] B36) (by kernel_rfl) (by kernel_rfl)
      have t2 := RunsTo.seq t1 z1 (c := sub [1, 1, 1] B36) (by kernel_rfl) (by kernel_rfl)
      have t3 := RunsTo.seq c1 t2 (c := sub [1, 1] B36) (by kernel_rfl) (by kernel_rfl)
      have t4 := RunsTo.seq b1 t3 (c := sub [1] B36) (by kernel_rfl) (by kernel_rfl)
      have t5 := RunsTo.seq a1 t4 (c := B36) (by kernel_rfl) (by kernel_rfl)
      have hr := resCell_sl (H := [bRows (refRounds (q + 1))]) (no := [0]) (b := 0) (k := 1) (m := (refRounds (q + 1)).length) (cap := none) (els := (refRounds (q + 1)).map encPs) rfl (by simp) (mapO_self frz_pairs _)
      have ho : ownedAll [bRows (refRounds (q + 1))] false (.sl 0 0 (refRounds (q + 1)).length none (refRounds (q + 1)).length 1) = [0] := rfl
      refine ⟨_, _, _, .sl 0 0 (refRounds (q + 1)).length none (refRounds (q + 1)).length 1, t5, by simp, by simp only [resultsV, res36]; rfl, ?_⟩
      show toRes _ false _ = _
      simp only [toRes, ho, List.nodup_cons, List.not_mem_nil, not_false_eq_true, List.nodup_nil, and_self, if_true, resVal, hr]
    · cases h
  · cases h
theorem refRounds_eq : ([2, 4, 6, 8, 10, 12, 14, 16, 18, 20].all fun n => decide (roundsL n = refRounds n)) = true := by kernel_rfl
end Go.Proofs.Ytmhfkhlamnapdaa
