/- A part of the proof: X7c. -/
import Derived.Test.YtmhfkhlamnapdaaX7
set_option linter.unusedVariables false
set_option linter.unusedSimpArgs false
open Go Go.HL
namespace Go.Proofs.Ytmhfkhlamnapdaa
abbrev bB (l : List Bool) : Blk := .arr 1 (l.map .bool) true 0
def tabRow (m : Nat) : List (Int × Int) → List Bool → List Bool → Option (List Bool)
  | [], _, met => some met
  | p :: l, seen, met =>
    if decide (0 ≤ p.1) && decide (p.1 < p.2) && decide (p.2 < (m : Int)) && !bitAt seen p.1.toNat && !bitAt seen p.2.toNat && !bitAt met (p.1.toNat * m + p.2.toNat) then
      tabRow m l ((seen.set p.1.toNat true).set p.2.toNat true) (met.set (p.1.toNat * m + p.2.toNat) true) else none
def tabAll (m : Nat) : List (List (Int × Int)) → List Bool → Bool
  | [], _ => true
  | r :: rs, met => decide (r.length = m / 2) && (match tabRow m r (List.replicate m false) met with | some met' => tabAll m rs met' | none => false)

theorem u44 : Try.prog.underlying 44 = some (.slice 22) := by kernel_rfl
theorem u43 : Try.prog.underlying 43 = some (.slice 4) := by kernel_rfl
theorem z22 : tySize Try.prog 22 = some 1 := by kernel_rfl
theorem a22 : tyAgg Try.prog 22 = false := by kernel_rfl
theorem i22 : (Try.prog.underlying 22).isSome = true := by kernel_rfl
theorem bitB {l : List Bool} {i : Nat} (h : i < l.length) : (l.map HV.bool)[i]? = some (.bool (bitAt l i)) := by
  rw [List.getElem?_map]
  have : l[i]? = some l[i] := List.getElem?_eq_getElem h
  simp [bitAt, this]

abbrev tE (n : Int) (R N : Nat) (i : Nat) (v7 v8 : HV) : Env := env7 (.int .i64 n) (.bool false) (.sl 0 0 R none R 1) (.int .i64 0) (.sl 1 0 N (some N) N 1) (.int .i64 (i : Int)) v7 v8 .undef .undef

theorem wrap_idx {q : Nat} {b : Int} (h0 : 0 ≤ b) (h : q + b.toNat < 400) : IntKind.i64.wrap (IntKind.i64.wrap (q : Int) + b) = ((q + b.toNat : Nat) : Int) := by
  have e : IntKind.i64.wrap (q : Int) = q := by rw [wrapI64]; omega
  rw [e, wrapI64]; omega
theorem tab_inner (m R i : Nat) (hm : m ≤ 20) (rows : List (List (Int × Int))) (hR : rows.length = R) (row : List (Int × Int)) (hrow : rows[i]? = some row) (hrl : row.length ≤ 1000) : ∀ (d k : Nat) (seen met met' : List Bool), k + d = row.length → seen.length = m → met.length = m * m → tabRow m (row.drop k) seen met = some met' →
    ∃ seen', met'.length = m * m ∧ RunsTo Try.prog polT 7 (sub [1, 1, 1, 1, 1, 0, 1, 0, 0, 1, 0, 0, 1, 1, 1, 0] B7) (tE (m : Int) R (m * m) i (.sl 2 0 m (some m) m 1) (.int .i64 (k : Int))) [bRows rows, bB met, bB seen]
      (.exit 2) (polT.keys 7) (tE (m : Int) R (m * m) i (.sl 2 0 m (some m) m 1) (.int .i64 (row.length : Int))) [bRows rows, bB met', bB seen'] := by
  intro d
  have hi : i < rows.length := by
    rcases Nat.lt_or_ge i rows.length with h | h
    · exact h
    · rw [List.getElem?_eq_none h] at hrow; cases hrow
  have g0 : idxV Try.prog 44 (.sl 0 0 R none R 1) (.int .i64 (i : Int)) = some (.ptr 0 i 0 R) := by
    have := idx_sl (P := Try.prog) (t := 44) (b := 0) (tot := R) (cap := none) (ik := .i64) (n := (i : Int)) u44 z22 (by omega) (len := R) (by omega)
    simpa using this
  have gl : ∀ (x y : Blk), loadV Try.prog [bRows rows, x, y] 22 (.ptr 0 i 0 R) = some (.imm .own 2 (row.map encP)) := fun x y =>
    load_elem (b := 0) rfl (by rw [List.length_map]; exact hR.symm) (by rw [List.getElem?_map, hrow]; rfl) rfl a22 i22
  induction d with
  | zero =>
    intro k seen met met' hk hs hml h
    have hk : k = row.length := by omega
    subst hk
    rw [List.drop_length, tabRow] at h
    cases h
    refine ⟨seen, hml, RunsTo.loop_out (t_k_7 (m : Int) R (rows.map encPs) (m * m) (met.map .bool) i m (seen.map .bool) row.length (row.map encP) g0 (gl _ _) (by simp)) (by simp) (by kernel_rfl) (by kernel_rfl)⟩
  | succ d ih =>
    intro k seen met met' hk hs hml h
    have hkl : k < row.length := by omega
    obtain ⟨p, hp⟩ : ∃ p, row[k]? = some p := ⟨_, List.getElem?_eq_getElem hkl⟩
    have hd : row.drop k = p :: row.drop (k + 1) := by
      rw [List.drop_eq_getElem_cons hkl]
      rw [List.getElem?_eq_getElem hkl] at hp
      cases hp
      rfl
    obtain ⟨a, b⟩ := p
    rw [hd, tabRow] at h
    split at h
    · rename_i hc
      simp only [Bool.and_eq_true, decide_eq_true_eq, Bool.not_eq_true'] at hc
      obtain ⟨⟨⟨⟨⟨c1, c2⟩, c3⟩, c4⟩, c5⟩, c6⟩ := hc
      have ha : a.toNat < m := by omega
      have hb : b.toNat < m := by omega
      have hq : a.toNat * m + b.toNat < m * m := by
        have : a.toNat * m + m ≤ m * m := by rw [← Nat.succ_mul]; exact Nat.mul_le_mul_right m ha
        omega
      have hmm : m * m ≤ 400 := Nat.mul_le_mul hm hm
      have ham : a * (m : Int) = ((a.toNat * m : Nat) : Int) := by
        rw [Int.natCast_mul, Int.toNat_of_nonneg c1]
      have hw : IntKind.i64.wrap (IntKind.i64.wrap (a * (m : Int)) + b) = ((a.toNat * m + b.toNat : Nat) : Int) := by
        rw [ham]
        exact wrap_idx (by omega) (Nat.lt_of_lt_of_le hq hmm)
      have hpk : (row.map encP)[k]? = some (encP (a, b)) := by rw [List.getElem?_map, hp]; rfl
      obtain ⟨seen', k1, k2⟩ := ih (k + 1) _ _ met' (by omega) (by simp [hs]) (by simp [hml]) h
      refine ⟨seen', k1, ?_⟩
      have g5 : idxV Try.prog 22 (.imm .own 2 (row.map encP)) (.int .i64 (k : Int)) = some (.vptr (.agg [.int .i64 a, .int .i64 b])) := idx_imm u22 z33 (by omega) (by rw [Int.toNat_natCast]; exact hpk)
      have gs : ∀ (x : Int), 0 ≤ x → x.toNat < m → idxV Try.prog 43 (.sl 2 0 m (some m) m 1) (.int .i64 x) = some (.ptr 2 x.toNat 0 m) := fun x h0 h1 => idx_sl u43 z4 h0 h1
      have gls : ∀ (x y : Blk) (s : List Bool) (j : Nat), s.length = m → j < m → loadV Try.prog [x, y, bB s] 4 (.ptr 2 j 0 m) = some (.bool (bitAt s j)) := fun x y s j h0 h1 =>
        load_elem (b := 2) rfl (by rw [List.length_map]; exact h0.symm) (bitB (by omega)) rfl a4 i4
      have gm : idxV Try.prog 43 (.sl 1 0 (m * m) (some (m * m)) (m * m) 1) (.int .i64 (IntKind.i64.wrap (IntKind.i64.wrap (a * (m : Int)) + b))) = some (.ptr 1 (IntKind.i64.wrap (IntKind.i64.wrap (a * (m : Int)) + b)).toNat 0 (m * m)) := by
        rw [hw]
        exact idx_sl u43 z4 (by omega) (by rw [Int.toNat_natCast]; exact hq)
      have glm : ∀ (x y : Blk), loadV Try.prog [x, bB met, y] 4 (.ptr 1 (IntKind.i64.wrap (IntKind.i64.wrap (a * (m : Int)) + b)).toNat 0 (m * m)) = some (.bool false) := fun x y => by
        rw [hw, ← c6, Int.toNat_natCast]
        exact load_elem (b := 1) rfl (by rw [List.length_map]; exact hml.symm) (bitB (by omega)) rfl a4 i4
      have hset : ∀ (s : List Bool) (j : Nat), (s.map HV.bool).set j (.bool true) = (s.set j true).map HV.bool := fun s j => by rw [List.map_set]
      have st1 : ∀ (s : List Bool) (j : Nat), s.length = m → j < m → storeV Try.prog [bRows rows, bB met, bB s] 4 (.ptr 2 j 0 m) (.bool true) = some [bRows rows, bB met, bB (s.set j true)] := fun s j h0 h1 => by
        rw [store_elem (H := [bRows rows, bB met, bB s]) (b := 2) (i := j) (tot := m) rfl (by rw [List.length_map]; exact h0.symm) (bitB (by omega)) rfl (by simp) z4 rfl rfl rfl, hset]
        rfl
      have st2 : ∀ (s : List Bool), storeV Try.prog [bRows rows, bB met, bB s] 4 (.ptr 1 (IntKind.i64.wrap (IntKind.i64.wrap (a * (m : Int)) + b)).toNat 0 (m * m)) (.bool true) = some [bRows rows, bB (met.set (a.toNat * m + b.toNat) true), bB s] := fun s => by
        rw [hw, Int.toNat_natCast, store_elem (H := [bRows rows, bB met, bB s]) (b := 1) (i := a.toNat * m + b.toNat) (tot := m * m) rfl (by rw [List.length_map]; exact hml.symm) (bitB (by omega)) rfl (by simp) z4 rfl rfl rfl, hset]
        rfl
      have s1 := t_l_6 (m : Int) R (rows.map encPs) (m * m) (met.map .bool) i m (seen.map .bool) k (row.map encP) (row.map encP) a b (row.map encP) a b _ _ _ g0 (gl _ _) (by simp; omega) g0 (gl _ _) g5 g0 (gl _ _) g5 (by omega) (by omega) (by omega)
        (gs a c1 ha) (by rw [gls _ _ seen _ hs ha, c4]) (gs b (by omega) hb) (by rw [gls _ _ seen _ hs hb, c5]) gm (glm _ _) (gs a c1 ha) (st1 seen _ hs ha) (gs b (by omega) hb) (st1 _ _ (by simp [hs]) hb) gm (st2 _)
      rw [wrap_succ (by omega)] at s1
      exact RunsTo.loop s1 (by kernel_rfl) (gc_same (by simp)) k2 rfl (by kernel_rfl) (by kernel_rfl)
    · cases h

theorem info4 : (Try.prog.info? 4).map (fun i => (i.size, i.bytes, i.zero.map ofConst)) = some (1, 1, some (.bool false)) := by kernel_rfl

theorem tab_outer (m R : Nat) (hm : m ≤ 20) (rows : List (List (Int × Int))) (hR : rows.length = R) (hR2 : R ≤ 1000) : ∀ (d i : Nat) (met : List Bool), i + d = R → met.length = m * m → tabAll m (rows.drop i) met = true →
    ∃ met', RunsTo Try.prog polT 7 (sub [1, 1, 1, 1, 1, 0, 1, 0] B7) (tE (m : Int) R (m * m) i .undef .undef) [bRows rows, bB met] (.exit 0) (polT.keys 7) (tE (m : Int) R (m * m) R .undef .undef) [bRows rows, bB met'] := by
  intro d
  induction d with
  | zero =>
    intro i met hi hml h
    have hi : i = R := by omega
    subst hi
    have s1 := t_g_1 (m : Int) i (rows.map encPs) (m * m) (met.map .bool) i (by omega)
    exact ⟨met, RunsTo.loop_out (RunsTo.seq_out s1 (by simp) (c := sub [1, 1, 1, 1, 1, 0, 1, 0, 0] B7) (b := sub [1, 1, 1, 1, 1, 0, 1, 0, 0, 1] B7) (by kernel_rfl)) (by simp) (by kernel_rfl) (by kernel_rfl)⟩
  | succ d ih =>
    intro i met hi hml h
    have hil : i < rows.length := by omega
    obtain ⟨row, hrow⟩ : ∃ p, rows[i]? = some p := ⟨_, List.getElem?_eq_getElem hil⟩
    have hd : rows.drop i = row :: rows.drop (i + 1) := by
      rw [List.drop_eq_getElem_cons hil]
      rw [List.getElem?_eq_getElem hil] at hrow
      cases hrow
      rfl
    rw [hd, tabAll, Bool.and_eq_true, decide_eq_true_eq] at h
    obtain ⟨h1, h2⟩ := h
    split at h2
    · rename_i met1 htr
      have hmm : m * m ≤ 400 := Nat.mul_le_mul hm hm
      have s1 := t_g_0 (m : Int) R (rows.map encPs) (m * m) (met.map .bool) i (by omega)
      have g0 : idxV Try.prog 44 (.sl 0 0 R none R 1) (.int .i64 (i : Int)) = some (.ptr 0 i 0 R) := by
        have := idx_sl (P := Try.prog) (t := 44) (b := 0) (tot := R) (cap := none) (ik := .i64) (n := (i : Int)) u44 z22 (by omega) (len := R) (by omega)
        simpa using this
      have gl : ∀ (x : Blk), loadV Try.prog [bRows rows, x] 22 (.ptr 0 i 0 R) = some (.imm .own 2 (row.map encP)) := fun x =>
        load_elem (b := 0) rfl (by rw [List.length_map]; exact hR.symm) (by rw [List.getElem?_map, hrow]; rfl) rfl a22 i22
      have hdiv : IntKind.i64.wrap ((m : Int).tdiv 2) = ((m / 2 : Nat) : Int) := by
        have : (m : Int).tdiv 2 = ((m / 2 : Nat) : Int) := by
          rw [Int.tdiv_eq_ediv_of_nonneg (by omega)]; omega
        rw [this, wrapI64]; omega
      have s2 := t_h_0 (m : Int) R (rows.map encPs) (m * m) (met.map .bool) i (row.map encP) g0 (gl _) (by rw [hdiv, List.length_map, h1])
      have s3 := t_i_0 (m : Int) R (rows.map encPs) (m * m) (met.map .bool) i m (by
        have := makeV_ok (P := Try.prog) (H := [bRows rows, bB met]) (t := 43) (n := (m : Int)) u43 info4 rfl rfl (by omega) (by omega) (by rw [show roomMax = 70368744177664 from rfl]; omega)
        simpa using this)
      have hrep : List.replicate m (HV.bool false) = (List.replicate m false).map HV.bool := by rw [List.map_replicate]
      rw [hrep] at s3
      have s4 := t_j_0 (m : Int) R (rows.map encPs) (m * m) (met.map .bool) i m ((List.replicate m false).map HV.bool)
      obtain ⟨seen', hml', s5⟩ := tab_inner m R i hm rows hR row hrow (by omega) row.length 0 (List.replicate m false) met met1 (by omega) (by simp) hml htr
      have s6 := t_m_0 (m : Int) R (rows.map encPs) (m * m) (met1.map .bool) i m (seen'.map .bool) row.length
      obtain ⟨met', s7⟩ := ih (i + 1) met1 (by omega) hml' h2
      refine ⟨met', ?_⟩
      rw [wrap_succ (by omega)] at s6
      have t1 := RunsTo.seq s4 (RunsTo.block_exit (c := sub [1, 1, 1, 1, 1, 0, 1, 0, 0, 1, 0, 0, 1, 1, 1] B7) s5 (by kernel_rfl)) (c := sub [1, 1, 1, 1, 1, 0, 1, 0, 0, 1, 0, 0, 1, 1] B7) (by kernel_rfl) (by kernel_rfl)
      have t2 := RunsTo.seq s3 t1 (c := sub [1, 1, 1, 1, 1, 0, 1, 0, 0, 1, 0, 0, 1] B7) (by kernel_rfl) (by kernel_rfl)
      have t3 := RunsTo.seq s2 t2 (c := sub [1, 1, 1, 1, 1, 0, 1, 0, 0, 1, 0, 0] B7) (by kernel_rfl) (by kernel_rfl)
      have t4 := RunsTo.block_normal t3 (c := sub [1, 1, 1, 1, 1, 0, 1, 0, 0, 1, 0] B7) (i := 1) (by kernel_rfl)
      have t5 := RunsTo.seq t4 s6 (c := sub [1, 1, 1, 1, 1, 0, 1, 0, 0, 1] B7) (by kernel_rfl) (by kernel_rfl)
      have t6 := RunsTo.seq s1 t5 (c := sub [1, 1, 1, 1, 1, 0, 1, 0, 0] B7) (by kernel_rfl) (by kernel_rfl)
      exact RunsTo.loop t6 (by kernel_rfl) (by kernel_rfl) s7 rfl (by kernel_rfl) (by kernel_rfl)
    · cases h2

def tabCheck (i : Nat) : Bool := tabAll i (roundsL i) (List.replicate (i * i) false) && decide ((roundsL i).length = i - 1)
theorem tab_checked : ([2, 4, 6, 8, 10, 12, 14, 16, 18, 20].all tabCheck) = true := by kernel_rfl

theorem rows_any1 : ∀ (M : List (List (Int × Int))), (M.map encPs).any isOwn = false
  | [] => rfl
  | r :: M => by simp only [List.map_cons, List.any_cons, rows_any1 M, encPs, isOwn, Bool.or_self]

theorem res7 : Try.f7.results.toList = [.tmp 2] := by kernel_rfl
theorem relayTables_run (a : Int) : ∃ n H', callN Try.prog polT n 7 [.int .i64 a] [] = some (.bool true, H') := by
  obtain ⟨h0, h1⟩ := modW_bounds a 10 (by omega) (by omega)
  obtain ⟨q, hq⟩ : ∃ q : Nat, (q : Int) = modW a 10 := ⟨(modW a 10).toNat, by omega⟩
  obtain ⟨m, hmq⟩ : ∃ m : Nat, m = 2 + 2 * q := ⟨_, rfl⟩
  have hn : IntKind.i64.wrap (2 + IntKind.i64.wrap (2 * modW a 10)) = (m : Int) := by rw [wrapI64, wrapI64]; omega
  have hm20 : m ≤ 20 := by omega
  have hmem : m ∈ [2, 4, 6, 8, 10, 12, 14, 16, 18, 20] := by
    have : q = 0 ∨ q = 1 ∨ q = 2 ∨ q = 3 ∨ q = 4 ∨ q = 5 ∨ q = 6 ∨ q = 7 ∨ q = 8 ∨ q = 9 := by omega
    subst hmq
    rcases this with h | h | h | h | h | h | h | h | h | h <;> subst h <;> decide
  have hc := List.all_eq_true.1 tab_checked m hmem
  rw [tabCheck, Bool.and_eq_true, decide_eq_true_eq] at hc
  obtain ⟨c1, c2⟩ := hc
  have hmm : m * m ≤ 400 := Nat.mul_le_mul hm20 hm20
  have hev : (m : Int).tmod 2 = 0 := by rw [Int.tmod_eq_emod_of_nonneg (by omega)]; omega
  have hok : roundsOkN (m : Int) = true := by
    rw [roundsOkN, hev, decide_eq_true (show (2 : Int) ≤ m by omega), decide_eq_true (show (m : Int) ≤ 20 by omega)]
    rfl
  have s1 := t_a_0 a
  have s2 := t_b_0 a
  rw [hn] at s2
  have s3 := t_c_0 (m : Int) (m - 1) ((roundsL m).map encPs) (fun k => by
    rw [prim_call (pol := polT) (g := 27) (F := roundsF) (by kernel_rfl) (rs := [.int .i64 (m : Int)]) rfl rfl]
    rw [hok, if_pos rfl, roundsR, Int.toNat_natCast]
    simp only [recv, recvVals, recvVal, recvCell, rows_any1, List.length_map, c2]
    rfl)
  have s4 := t_d_0 (m : Int) (m - 1) ((roundsL m).map encPs) (by rw [wrapI64]; omega)
  have hwmm : IntKind.i64.wrap ((m : Int) * (m : Int)) = ((m * m : Nat) : Int) := by rw [← Int.natCast_mul, wrapI64]; omega
  have s5 := t_e_0 (m : Int) (m - 1) ((roundsL m).map encPs) (m * m) (by
    have := makeV_ok (P := Try.prog) (H := [bRows (roundsL m)]) (t := 43) (n := ((m * m : Nat) : Int)) u43 info4 rfl rfl (by omega) (by omega) (by rw [show roomMax = 70368744177664 from rfl]; omega)
    rw [hwmm]
    rw [Int.toNat_natCast] at this
    exact this)
  have hrep : List.replicate (m * m) (HV.bool false) = (List.replicate (m * m) false).map HV.bool := by rw [List.map_replicate]
  rw [hrep] at s5
  have s6 := t_f_0 (m : Int) (m - 1) ((roundsL m).map encPs) (m * m) ((List.replicate (m * m) false).map HV.bool)
  obtain ⟨met', s7⟩ := tab_outer m (m - 1) hm20 (roundsL m) c2 (by omega) (m - 1) 0 (List.replicate (m * m) false) (by omega) (by simp) c1
  have s8 := t_z_0 (m : Int) (m - 1) ((roundsL m).map encPs) (m * m) (met'.map .bool) (m - 1)
  have t1 := RunsTo.seq s6 (RunsTo.block_exit (c := sub [1, 1, 1, 1, 1, 0, 1] B7) s7 (by kernel_rfl)) (c := sub [1, 1, 1, 1, 1, 0] B7) (by kernel_rfl) (by kernel_rfl)
  have t2 := RunsTo.seq t1 s8 (c := sub [1, 1, 1, 1, 1] B7) (by kernel_rfl) (by kernel_rfl)
  have t3 := RunsTo.seq s5 t2 (c := sub [1, 1, 1, 1] B7) (by kernel_rfl) (by kernel_rfl)
  have t4 := RunsTo.seq s4 t3 (c := sub [1, 1, 1] B7) (by kernel_rfl) (by kernel_rfl)
  have t5 := RunsTo.seq s3 t4 (c := sub [1, 1] B7) (by kernel_rfl) (by kernel_rfl)
  have t6 := RunsTo.seq s2 t5 (c := sub [1] B7) (by kernel_rfl) (by kernel_rfl)
  have t7 := RunsTo.seq s1 t6 (c := B7) (by kernel_rfl) (by kernel_rfl)
  obtain ⟨k, h⟩ := CallsTo.pure (pol := polT) (g := 7) (fn := Try.f7) (cd := B7) (args := [.int .i64 a]) (rs := [.int .i64 a]) (H := []) (v := .bool true) (r := .bool true) (by kernel_rfl) (by kernel_rfl) (by kernel_rfl) (by kernel_rfl) (by kernel_rfl) rfl t7 (by kernel_rfl) (by simp) (by simp only [resultsV, res7]; rfl) rfl
  exact ⟨k, _, h k (Nat.le_refl k)⟩
end Go.Proofs.Ytmhfkhlamnapdaa
