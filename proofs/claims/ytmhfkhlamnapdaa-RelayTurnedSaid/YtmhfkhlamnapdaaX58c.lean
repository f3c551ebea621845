/- A part of the proof: X58c. -/
import Derived.Test.YtmhfkhlamnapdaaX58
set_option linter.unusedVariables false
set_option linter.unusedSimpArgs false
open Go Go.HL
namespace Go.Proofs.Ytmhfkhlamnapdaa
abbrev Mat := List (List Bool)
def zero20 : List Bool := List.replicate 20 false
def rowAt (M : Mat) (i : Nat) : List Bool := (M[i]?).getD []
def bitAt (r : List Bool) (i : Nat) : Bool := (r[i]?).getD false
def orRow (a b : List Bool) : List Bool := List.zipWith (· || ·) a b
def knStep (M : Mat) (i j : Nat) : Mat := (M.set i (orRow (rowAt M i) (rowAt M j))).set j (orRow (rowAt M i) (rowAt M j))
def knGo (n : Int) : List (Int × Int) → Mat → Option Mat
  | [], M => some M
  | p :: l, M => if (0 ≤ p.1 ∧ p.1 ≤ n - 1) ∧ (0 ≤ p.2 ∧ p.2 ≤ n - 1) ∧ p.1 ≠ p.2 then knGo n l (knStep M p.1.toNat p.2.toNat) else none
def diag : Nat → Nat → Mat → Mat
  | _, 0, M => M
  | j, d + 1, M => diag (j + 1) d (M.set j ((rowAt M j).set j true))
def Wf (m : Nat) (M : Mat) : Prop := M.length = m ∧ ∀ (i : Nat) (r : List Bool), M[i]? = some r → r.length = 20
theorem wrap_succ {j : Nat} (h : j < 4611686018427387904) : IntKind.i64.wrap ((j : Int) + 1) = ((j + 1 : Nat) : Int) := by rw [wrapI64]; omega
theorem rowAt_get {m : Nat} {M : Mat} (hM : Wf m M) {i : Nat} (h : i < m) : M[i]? = some (rowAt M i) ∧ (rowAt M i).length = 20 := by
  have h1 : i < M.length := by rw [hM.1]; exact h
  have h2 : M[i]? = some M[i] := List.getElem?_eq_getElem h1
  refine ⟨by simp [rowAt, h2], ?_⟩
  simp only [rowAt, h2, Option.getD_some]
  exact hM.2 i _ h2
theorem Wf.set {m : Nat} {M : Mat} (hM : Wf m M) {i : Nat} {r : List Bool} (hr : r.length = 20) : Wf m (M.set i r) := by
  refine ⟨by simp [hM.1], fun k s hk => ?_⟩
  rw [List.getElem?_set] at hk
  split at hk
  · split at hk
    · cases hk; exact hr
    · cases hk
  · exact hM.2 k s hk
theorem encM_get {m : Nat} {M : Mat} (hM : Wf m M) {i : Nat} (h : i < m) : (M.map encRow)[i]? = some (.agg ((rowAt M i).map .bool)) := by
  rw [List.getElem?_map, (rowAt_get hM h).1]; rfl
theorem bit_get {r : List Bool} (hr : r.length = 20) {i : Nat} (h : i < 20) : (r.map HV.bool)[i]? = some (.bool (bitAt r i)) := by
  rw [List.getElem?_map]
  have : r[i]? = some r[i] := List.getElem?_eq_getElem (by omega)
  simp [bitAt, this]

theorem u85 : Try.prog.underlying 85 = some (.slice 89) := by kernel_rfl
theorem u89 : Try.prog.underlying 89 = some (.array 20 4) := by kernel_rfl
theorem u4 : Try.prog.underlying 4 = some .bool := by kernel_rfl
theorem u22 : Try.prog.underlying 22 = some (.slice 33) := by kernel_rfl
theorem z89 : tySize Try.prog 89 = some 20 := by kernel_rfl
theorem z4 : tySize Try.prog 4 = some 1 := by kernel_rfl
theorem z33 : tySize Try.prog 33 = some 2 := by kernel_rfl
theorem a4 : tyAgg Try.prog 4 = false := by kernel_rfl
theorem a89 : tyAgg Try.prog 89 = true := by kernel_rfl
theorem i4 : (Try.prog.underlying 4).isSome = true := by kernel_rfl

abbrev kE (n : Int) (lc : List HV) (m : Nat) (v9 v10 v24 v25 v34 v35 v36 v70 v71 : HV) : Env :=
  env58 (.int .i64 n) (.imm .arg 2 lc) (.imm .lit 20 []) (.bool false) (.sl 0 0 m (some m) m 20) .undef v9 v10 .undef .undef v24 v25 v34 v35 v36 v70 v71
abbrev bM (M : Mat) : Blk := .arr 20 (M.map encRow) true 0
abbrev bP (a b : Int) : Blk := .arr 2 [.agg [.int .i64 a, .int .i64 b]] true 0
abbrev bR (r : List Bool) : Blk := .arr 20 [.agg (r.map .bool)] true 0

theorem idx85 {m : Nat} {n : Int} (h0 : 0 ≤ n) (h : n.toNat < m) : idxV Try.prog 85 (.sl 0 0 m (some m) m 20) (.int .i64 n) = some (.ptr 0 n.toNat 0 m) := idx_sl u85 z89 h0 h
theorem idx89 {b i m : Nat} {n : Int} (h0 : 0 ≤ n) (h : n.toNat < 20) : idxV Try.prog 89 (.ptr b i 0 m) (.int .i64 n) = some (.ptr b i n.toNat m) := idx_arr u89 z4 h0 h

theorem info89 : (Try.prog.info? 89).map (fun i => (i.size, i.bytes, i.zero.map ofConst)) = some (20, 20, some (.agg [.bool false, .bool false, .bool false, .bool false, .bool false, .bool false, .bool false, .bool false, .bool false, .bool false, .bool false, .bool false, .bool false, .bool false, .bool false, .bool false, .bool false, .bool false, .bool false, .bool false])) := by kernel_rfl
theorem known_l1 (n : Int) (lc : List HV) (m : Nat) (hm : m ≤ 20) : ∀ (d j : Nat) (M : Mat), j + d = m → Wf m M →
    RunsTo Try.prog polB 58 (sub [1, 1, 1, 0, 1, 0] B58) (kE n lc m .undef .undef (.int .i64 (m : Int)) (.int .i64 (j : Int)) .undef .undef .undef .undef .undef) [bM M]
      (.exit 0) (polB.keys 58) (kE n lc m .undef .undef (.int .i64 (m : Int)) (.int .i64 (m : Int)) .undef .undef .undef .undef .undef) [bM (diag j d M)] ∧ Wf m (diag j d M) := by
  intro d
  induction d with
  | zero =>
    intro j M hj hM
    have hj : j = m := by omega
    subst hj
    exact ⟨RunsTo.loop_out (k_l1_1 n lc j _ j (by omega)) (by simp) (by kernel_rfl) (by kernel_rfl), hM⟩
  | succ d ih =>
    intro j M hj hM
    have hjm : j < m := by omega
    obtain ⟨h1, h2⟩ := rowAt_get hM hjm
    obtain ⟨h, hw⟩ := ih (j + 1) (M.set j ((rowAt M j).set j true)) (by omega) (hM.set (by simp [h2]))
    have s1 := k_l1_0 n lc m (M.map encRow) j ((M.set j ((rowAt M j).set j true)).map encRow) (by omega)
      (by simpa using idx85 (m := m) (n := (j : Int)) (by omega) (by omega))
      (by simpa using idx89 (b := 0) (i := j) (m := m) (n := (j : Int)) (by omega) (by omega))
      (by
        rw [store_cell (H := [.arr 20 (M.map encRow) true 0]) (b := 0) (i := j) (off := j) (t := 4) rfl (by simp [hM.1]) (encM_get hM hjm) z4 rfl rfl rfl (by simp [h2]; omega)]
        simp [encRow, List.map_set])
    rw [wrap_succ (by omega)] at s1
    exact ⟨RunsTo.loop s1 (by kernel_rfl) (gc_same (by simp)) h rfl (by kernel_rfl) (by kernel_rfl), hw⟩

def orFrom : Nat → Nat → List Bool → List Bool → List Bool
  | _, 0, ra, _ => ra
  | q, d + 1, ra, rb => orFrom (q + 1) d (ra.set q (bitAt ra q || bitAt rb q)) rb
theorem orFrom_length : ∀ (d q : Nat) (ra rb : List Bool), (orFrom q d ra rb).length = ra.length
  | 0, _, _, _ => rfl
  | d + 1, q, ra, rb => by simp [orFrom, orFrom_length d]
theorem orFrom_get : ∀ (d q : Nat) (ra rb : List Bool) (i : Nat), q + d = ra.length → rb.length = ra.length → bitAt (orFrom q d ra rb) i = if q ≤ i then (bitAt ra i || bitAt rb i) else bitAt ra i
  | 0, q, ra, rb, i, h, hb => by
    simp only [orFrom]
    split
    · have h1 : ra[i]? = none := List.getElem?_eq_none (by omega)
      have h2 : rb[i]? = none := List.getElem?_eq_none (by omega)
      simp [bitAt, h1, h2]
    · rfl
  | d + 1, q, ra, rb, i, h, hb => by
    rw [orFrom, orFrom_get d (q + 1) _ rb i (by simp; omega) (by simp; omega)]
    have hs : bitAt (ra.set q (bitAt ra q || bitAt rb q)) i = if q = i then (bitAt ra q || bitAt rb q) else bitAt ra i := by
      unfold bitAt
      rw [List.getElem?_set]
      split
      · rw [if_pos (by omega)]; rfl
      · rfl
    rw [hs]
    by_cases hq : q = i
    · subst hq
      rw [if_neg (by omega), if_pos rfl, if_pos (Nat.le_refl _)]
    · rw [if_neg hq]
      by_cases h2 : q ≤ i
      · rw [if_pos (by omega), if_pos h2]
      · rw [if_neg (by omega), if_neg h2]
theorem orFrom_row (d : Nat) (ra rb : List Bool) (ha : ra.length = d) (hb : rb.length = d) : orFrom 0 d ra rb = orRow ra rb := by
  apply List.ext_getElem?
  intro i
  have h := orFrom_get d 0 ra rb i (by omega) (by omega)
  rw [if_pos (Nat.zero_le _)] at h
  have l1 := orFrom_length d 0 ra rb
  have l2 : (orRow ra rb).length = d := by simp [orRow, ha, hb]
  by_cases hi : i < d
  · have e1 : (orFrom 0 d ra rb)[i]? = some (orFrom 0 d ra rb)[i] := List.getElem?_eq_getElem (by omega)
    have e2 : ra[i]? = some ra[i] := List.getElem?_eq_getElem (by omega)
    have e3 : rb[i]? = some rb[i] := List.getElem?_eq_getElem (by omega)
    simp only [bitAt, e1, e2, e3, Option.getD_some] at h
    rw [e1, h]
    rw [orRow, List.getElem?_zipWith, e2, e3]
  · rw [List.getElem?_eq_none (by omega), List.getElem?_eq_none (by omega)]

abbrev L3 : List Nat := [1, 1, 1, 1, 0, 1, 0, 0, 1, 1, 0, 0, 1, 1, 1, 0, 1, 0]
theorem known_l3 (n : Int) (lc : List HV) (m : Nat) (els : List HV) (j : Nat) (a b : Int) (rb : List Bool) (hb : rb.length = 20) : ∀ (d q : Nat) (ra : List Bool), q + d = 20 → ra.length = 20 →
    RunsTo Try.prog polB 58 (sub [1, 1, 1, 1, 0, 1, 0, 0, 1, 1, 0, 0, 1, 1, 1, 0, 1, 0] B58) (kE n lc m (.ptr 1 0 0 1) (.ptr 2 0 0 1) (.int .i64 (m : Int)) (.int .i64 (m : Int)) (.imm .arg 2 lc) (.int .i64 (lc.length : Int)) (.int .i64 (j : Int)) (.agg (rb.map .bool)) (.int .i64 (q : Int))) [.arr 20 els true 0, bP a b, bR ra]
      (.exit 4) (polB.keys 58) (kE n lc m (.ptr 1 0 0 1) (.ptr 2 0 0 1) (.int .i64 (m : Int)) (.int .i64 (m : Int)) (.imm .arg 2 lc) (.int .i64 (lc.length : Int)) (.int .i64 (j : Int)) (.agg (rb.map .bool)) (.int .i64 ((20 : Nat) : Int))) [.arr 20 els true 0, bP a b, bR (orFrom q d ra rb)] := by
  intro d
  induction d with
  | zero =>
    intro q ra hq hra
    have hq : q = 20 := by omega
    subst hq
    exact RunsTo.loop_out (k_l3_4 n lc m els j 20 a b _ _ (by omega)) (by simp) (by kernel_rfl) (by kernel_rfl)
  | succ d ih =>
    intro q ra hq hra
    have hq20 : q < 20 := by omega
    have h := ih (q + 1) (ra.set q (bitAt ra q || bitAt rb q)) (by omega) (by simp [hra])
    have e1 : elemV Try.prog 89 (.agg (rb.map .bool)) (.int .i64 (q : Int)) = some (.bool (bitAt rb q)) := elem_arr u89 z4 a4 i4 (by omega) (by omega) (by simpa using bit_get hb hq20)
    have e2 : idxV Try.prog 89 (.ptr 2 0 0 1) (.int .i64 (q : Int)) = some (.ptr 2 0 q 1) := by simpa using idx89 (b := 2) (i := 0) (m := 1) (n := (q : Int)) (by omega) (by omega)
    have e3 : loadV Try.prog [.arr 20 els true 0, bP a b, bR ra] 4 (.ptr 2 0 q 1) = some (.bool (bitAt ra q)) := load_cell (b := 2) (i := 0) rfl rfl rfl a4 i4 (bit_get hra hq20)
    have e4 : ∀ v : Bool, storeV Try.prog [.arr 20 els true 0, bP a b, bR ra] 4 (.ptr 2 0 q 1) (.bool v) = some [.arr 20 els true 0, bP a b, bR (ra.set q v)] := fun v => by
      rw [store_cell (H := [.arr 20 els true 0, bP a b, bR ra]) (b := 2) (i := 0) (tot := 1) (off := q) rfl rfl rfl z4 rfl rfl rfl (by simp [hra]; omega)]
      simp [List.map_set]
    have fin : ∀ w, RunsTo Try.prog polB 58 (sub [1, 1, 1, 1, 0, 1, 0, 0, 1, 1, 0, 0, 1, 1, 1, 0, 1, 0, 0] B58) (kE n lc m (.ptr 1 0 0 1) (.ptr 2 0 0 1) (.int .i64 (m : Int)) (.int .i64 (m : Int)) (.imm .arg 2 lc) (.int .i64 (lc.length : Int)) (.int .i64 (j : Int)) (.agg (rb.map .bool)) (.int .i64 (q : Int))) [.arr 20 els true 0, bP a b, bR ra]
        .normal (polB.keys 58) (env58 (.int .i64 n) (.imm .arg 2 lc) (.imm .lit 20 []) (.bool false) (.sl 0 0 m (some m) m 20) .undef (.ptr 1 0 0 1) (.ptr 2 0 0 1) (.int .i64 (q : Int)) (.bool w) (.int .i64 (m : Int)) (.int .i64 (m : Int)) (.imm .arg 2 lc) (.int .i64 (lc.length : Int)) (.int .i64 (j : Int)) (.agg (rb.map .bool)) (.int .i64 ((q + 1 : Nat) : Int))) [.arr 20 els true 0, bP a b, bR (ra.set q (bitAt ra q || bitAt rb q))] →
        RunsTo Try.prog polB 58 (sub [1, 1, 1, 1, 0, 1, 0, 0, 1, 1, 0, 0, 1, 1, 1, 0, 1, 0] B58) (kE n lc m (.ptr 1 0 0 1) (.ptr 2 0 0 1) (.int .i64 (m : Int)) (.int .i64 (m : Int)) (.imm .arg 2 lc) (.int .i64 (lc.length : Int)) (.int .i64 (j : Int)) (.agg (rb.map .bool)) (.int .i64 (q : Int))) [.arr 20 els true 0, bP a b, bR ra]
      (.exit 4) (polB.keys 58) (kE n lc m (.ptr 1 0 0 1) (.ptr 2 0 0 1) (.int .i64 (m : Int)) (.int .i64 (m : Int)) (.imm .arg 2 lc) (.int .i64 (lc.length : Int)) (.int .i64 (j : Int)) (.agg (rb.map .bool)) (.int .i64 ((20 : Nat) : Int))) [.arr 20 els true 0, bP a b, bR (orFrom q (d + 1) ra rb)] :=
      fun w s1 => RunsTo.loop s1 (by kernel_rfl) (gc_same (by simp)) h rfl (by kernel_rfl) (by kernel_rfl)
    cases hbq : bitAt rb q <;> cases haq : bitAt ra q <;> simp only [hbq, haq] at e1 e3 fin
    · have s1 := k_l3_3 n lc m els j q a b (ra.map .bool) (rb.map .bool) ((ra.set q false).map .bool) (by omega) e1 e2 e3 e2 (e4 false)
      rw [wrap_succ (by omega)] at s1
      exact fin _ s1
    · have s1 := k_l3_2 n lc m els j q a b (ra.map .bool) (rb.map .bool) ((ra.set q true).map .bool) (by omega) e1 e2 e3 e2 (e4 true)
      rw [wrap_succ (by omega)] at s1
      exact fin _ s1
    · have s1 := k_l3_1 n lc m els j q a b (ra.map .bool) (rb.map .bool) ((ra.set q true).map .bool) (by omega) e1 e2 e3 e2 (e4 true)
      rw [wrap_succ (by omega)] at s1
      exact fin _ s1
    · have s1 := k_l3_0 n lc m els j q a b (ra.map .bool) (rb.map .bool) ((ra.set q true).map .bool) (by omega) e1 e2 e3 e2 (e4 true)
      rw [wrap_succ (by omega)] at s1
      exact fin _ s1

theorem len20 {r : List Bool} (h : r.length = 20) : ∃ c0 c1 c2 c3 c4 c5 c6 c7 c8 c9 c10 c11 c12 c13 c14 c15 c16 c17 c18 c19 : Bool, r = [c0, c1, c2, c3, c4, c5, c6, c7, c8, c9, c10, c11, c12, c13, c14, c15, c16, c17, c18, c19] := by
  obtain _ | ⟨c0, r⟩ := r
  · simp at h
  obtain _ | ⟨c1, r⟩ := r
  · simp at h
  obtain _ | ⟨c2, r⟩ := r
  · simp at h
  obtain _ | ⟨c3, r⟩ := r
  · simp at h
  obtain _ | ⟨c4, r⟩ := r
  · simp at h
  obtain _ | ⟨c5, r⟩ := r
  · simp at h
  obtain _ | ⟨c6, r⟩ := r
  · simp at h
  obtain _ | ⟨c7, r⟩ := r
  · simp at h
  obtain _ | ⟨c8, r⟩ := r
  · simp at h
  obtain _ | ⟨c9, r⟩ := r
  · simp at h
  obtain _ | ⟨c10, r⟩ := r
  · simp at h
  obtain _ | ⟨c11, r⟩ := r
  · simp at h
  obtain _ | ⟨c12, r⟩ := r
  · simp at h
  obtain _ | ⟨c13, r⟩ := r
  · simp at h
  obtain _ | ⟨c14, r⟩ := r
  · simp at h
  obtain _ | ⟨c15, r⟩ := r
  · simp at h
  obtain _ | ⟨c16, r⟩ := r
  · simp at h
  obtain _ | ⟨c17, r⟩ := r
  · simp at h
  obtain _ | ⟨c18, r⟩ := r
  · simp at h
  obtain _ | ⟨c19, r⟩ := r
  · simp at h
  obtain _ | ⟨_, _⟩ := r
  · exact ⟨c0, c1, c2, c3, c4, c5, c6, c7, c8, c9, c10, c11, c12, c13, c14, c15, c16, c17, c18, c19, rfl⟩
  · simp at h

abbrev k2E (n : Int) (lc : List HV) (m j : Nat) : Env := kE n lc m .undef .undef (.int .i64 (m : Int)) (.int .i64 (m : Int)) (.imm .arg 2 lc) (.int .i64 (lc.length : Int)) (.int .i64 (j : Int)) .undef .undef
theorem zero20_row : [.bool false, .bool false, .bool false, .bool false, .bool false, .bool false, .bool false, .bool false, .bool false, .bool false, .bool false, .bool false, .bool false, .bool false, .bool false, .bool false, .bool false, .bool false, .bool false, .bool false] = zero20.map HV.bool := rfl

/-- One call. -/
theorem known_step (n : Int) (lc : List HV) (m j : Nat) (a b : Int) (M : Mat) (hn : (m : Int) = n) (hm : m ≤ 20) (hM : Wf m M) (hj : j < lc.length) (hl : lc.length ≤ 200) (hc : lc[j]? = some (encP (a, b)))
    (h0 : 0 ≤ a ∧ a ≤ n - 1) (h1 : 0 ≤ b ∧ b ≤ n - 1) (h2 : a ≠ b) :
    ∃ E0, RunsTo Try.prog polB 58 (sub [1, 1, 1, 1, 0, 1, 0, 0] B58) (k2E n lc m j) [bM M] .normal (polB.keys 58) E0 [bM (knStep M a.toNat b.toNat), bP a b, bR (orRow (rowAt M a.toNat) (rowAt M b.toNat))] ∧
      lrestr polB 58 (sub [1, 1, 1, 1, 0, 1, 0, 0] B58) E0 = k2E n lc m (j + 1) := by
  have ham : a.toNat < m := by omega
  have hbm : b.toNat < m := by omega
  have hw : IntKind.i64.wrap (n - 1) = n - 1 := by rw [wrapI64]; omega
  obtain ⟨ra1, ra2⟩ := rowAt_get hM ham
  obtain ⟨rb1, rb2⟩ := rowAt_get hM hbm
  have s1 := k_f_0 n lc m (M.map encRow) j (by omega)
  have s2 := k_gt_0 n lc m (M.map encRow) j
  have s3 := k_h_0 n lc m (M.map encRow) j a b (idx_imm u22 z33 (by omega) (by simpa [encP] using hc))
  have s4 := k_i_1 n lc m (M.map encRow) j a b (by rw [hw]; exact h0) (by rw [hw]; exact h1) h2
  have s5 := k_j_0 n lc m (M.map encRow) j a b ((rowAt M a.toNat).map .bool) (idx85 h0.1 ham)
    (load_agg (b := 0) rfl (by simp [hM.1]) (encM_get hM ham) a89 (by rw [z89]; simp [ra2]))
    (store_agg (P := Try.prog) (H := [bM M, bP a b, bR zero20]) (t := 89) (b := 2) (i := 0) (tot := 1) (new := (rowAt M a.toNat).map HV.bool) rfl rfl rfl (by rw [z89]; simp [ra2]) (by simp [ra2, zero20]) (by simp [ra2]) (bools_cellV _) (bools_bnd _))
  have s6 := k_k_0 n lc m (M.map encRow) j a b ((rowAt M a.toNat).map .bool) ((rowAt M b.toNat).map .bool) (idx85 h1.1 hbm)
    (load_agg (b := 0) rfl (by simp [hM.1]) (encM_get hM hbm) a89 (by rw [z89]; simp [rb2]))
  have s7 := known_l3 n lc m (M.map encRow) j a b (rowAt M b.toNat) rb2 20 0 (rowAt M a.toNat) rfl ra2
  rw [orFrom_row 20 _ _ ra2 rb2] at s7
  have hro : (orRow (rowAt M a.toNat) (rowAt M b.toNat)).length = 20 := by simp [orRow, ra2, rb2]
  have hM1 : Wf m (M.set a.toNat (orRow (rowAt M a.toNat) (rowAt M b.toNat))) := hM.set hro
  have st1 : storeV Try.prog [bM M, bP a b, bR (orRow (rowAt M a.toNat) (rowAt M b.toNat))] 89 (.ptr 0 a.toNat 0 m) (.agg ((orRow (rowAt M a.toNat) (rowAt M b.toNat)).map .bool)) = some [bM (M.set a.toNat (orRow (rowAt M a.toNat) (rowAt M b.toNat))), bP a b, bR (orRow (rowAt M a.toNat) (rowAt M b.toNat))] := by
    rw [store_agg (H := [bM M, bP a b, bR (orRow (rowAt M a.toNat) (rowAt M b.toNat))]) (b := 0) rfl (by simp [hM.1]) (encM_get hM ham) (by rw [z89]; simp [hro]) (by rw [List.length_map, List.length_map, hro, ra2]) (by simp [hro]) (bools_cellV _) (bools_bnd _)]
    simp [List.map_set, encRow]
  have st2 : storeV Try.prog [bM (M.set a.toNat (orRow (rowAt M a.toNat) (rowAt M b.toNat))), bP a b, bR (orRow (rowAt M a.toNat) (rowAt M b.toNat))] 89 (.ptr 0 b.toNat 0 m) (.agg ((orRow (rowAt M a.toNat) (rowAt M b.toNat)).map .bool)) = some [bM (knStep M a.toNat b.toNat), bP a b, bR (orRow (rowAt M a.toNat) (rowAt M b.toNat))] := by
    rw [store_agg (H := [bM (M.set a.toNat (orRow (rowAt M a.toNat) (rowAt M b.toNat))), bP a b, bR (orRow (rowAt M a.toNat) (rowAt M b.toNat))]) (b := 0) rfl (by rw [List.length_map]; exact hM1.1.symm) (encM_get hM1 hbm) (by rw [z89]; simp [hro]) (by rw [List.length_map, List.length_map, hro, (rowAt_get hM1 hbm).2]) (by simp [hro]) (bools_cellV _) (bools_bnd _)]
    simp [List.map_set, encRow, knStep]
  obtain ⟨c0, c1, c2, c3, c4, c5, c6, c7, c8, c9, c10, c11, c12, c13, c14, c15, c16, c17, c18, c19, hrow⟩ := len20 hro
  rw [hrow] at s7 st1 st2 ⊢
  have s8 := k_m_0 n lc m (M.map encRow) j 20 a b ((rowAt M b.toNat).map .bool) c0 c1 c2 c3 c4 c5 c6 c7 c8 c9 c10 c11 c12 c13 c14 c15 c16 c17 c18 c19 _ _ (idx85 h0.1 ham) st1 (idx85 h1.1 hbm) st2 (by simp only [same, sameH, sameL, rows_sameL, beq_self_eq_true, Bool.and_self])
  have s9 := k_n_0 n lc m ((knStep M a.toNat b.toNat).map encRow) j 20 a b ((rowAt M b.toNat).map .bool) c0 c1 c2 c3 c4 c5 c6 c7 c8 c9 c10 c11 c12 c13 c14 c15 c16 c17 c18 c19
  rw [wrap_succ (by omega)] at s9
  have t1 := RunsTo.seq s6 (RunsTo.block_exit (c := sub [1, 1, 1, 1, 0, 1, 0, 0, 1, 1, 0, 0, 1, 1, 1, 0, 1] B58) s7 (by kernel_rfl)) (c := sub [1, 1, 1, 1, 0, 1, 0, 0, 1, 1, 0, 0, 1, 1, 1, 0] B58) (by kernel_rfl) (by kernel_rfl)
  have t2 := RunsTo.seq t1 s8 (c := sub [1, 1, 1, 1, 0, 1, 0, 0, 1, 1, 0, 0, 1, 1, 1] B58) (by kernel_rfl) (by kernel_rfl)
  have t3 := RunsTo.seq s5 t2 (c := sub [1, 1, 1, 1, 0, 1, 0, 0, 1, 1, 0, 0, 1, 1] B58) (by kernel_rfl) (by kernel_rfl)
  have t4 := RunsTo.seq s4 t3 (c := sub [1, 1, 1, 1, 0, 1, 0, 0, 1, 1, 0, 0, 1] B58) (by kernel_rfl) (by kernel_rfl)
  have t5 := RunsTo.seq s3 t4 (c := sub [1, 1, 1, 1, 0, 1, 0, 0, 1, 1, 0, 0] B58) (by kernel_rfl) (by kernel_rfl)
  have t6 := RunsTo.block_normal t5 (c := sub [1, 1, 1, 1, 0, 1, 0, 0, 1, 1, 0] B58) (i := 3) (by kernel_rfl)
  have t7 := RunsTo.seq t6 s9 (c := sub [1, 1, 1, 1, 0, 1, 0, 0, 1, 1] B58) (by kernel_rfl) (by kernel_rfl)
  have t8 := RunsTo.seq s2 t7 (c := sub [1, 1, 1, 1, 0, 1, 0, 0, 1] B58) (by kernel_rfl) (by kernel_rfl)
  have t9 := RunsTo.seq s1 t8 (c := sub [1, 1, 1, 1, 0, 1, 0, 0] B58) (by kernel_rfl) (by kernel_rfl)
  exact ⟨_, t9, by kernel_rfl⟩

theorem knStep_wf {m : Nat} {M : Mat} (hM : Wf m M) {i j : Nat} (hi : i < m) (hj : j < m) : Wf m (knStep M i j) := by
  have h : (orRow (rowAt M i) (rowAt M j)).length = 20 := by simp [orRow, (rowAt_get hM hi).2, (rowAt_get hM hj).2]
  exact (hM.set h).set h

def knBad : Env → Heap → Prop := fun E H => resultsV Try.prog Try.f58 E H = some (.tuple [.imm .lit 20 [], .bool false])
theorem res58 : Try.f58.results.toList = [.tmp 4, .tmp 5] := by kernel_rfl

theorem known_l2 (n : Int) (l : List (Int × Int)) (m : Nat) (hn : (m : Int) = n) (hm : m ≤ 20) (hl : l.length ≤ 200) : ∀ (d j : Nat) (M : Mat), j + d = l.length → Wf m M →
    (∃ M', knGo n (l.drop j) M = some M' ∧ Wf m M' ∧ RunsTo Try.prog polB 58 (sub [1, 1, 1, 1, 0, 1, 0] B58) (k2E n (l.map encP) m j) [bM M] (.exit 2) (polB.keys 58) (k2E n (l.map encP) m l.length) [bM M']) ∨
    (knGo n (l.drop j) M = none ∧ ∃ E H, RunsTo Try.prog polB 58 (sub [1, 1, 1, 1, 0, 1, 0] B58) (k2E n (l.map encP) m j) [bM M] .ret (polB.keys 58) E H ∧ knBad E H) := by
  intro d
  induction d with
  | zero =>
    intro j M hj hM
    have hj : j = l.length := by omega
    subst hj
    refine .inl ⟨M, by simp [knGo], hM, ?_⟩
    have s1 := k_f_1 n (l.map encP) m (M.map encRow) l.length (by simp)
    have s2 := k_gf_0 n (l.map encP) m (M.map encRow) l.length
    have t1 := RunsTo.seq_out s2 (by simp) (c := sub [1, 1, 1, 1, 0, 1, 0, 0, 1] B58) (b := sub [1, 1, 1, 1, 0, 1, 0, 0, 1, 1] B58) (by kernel_rfl)
    have t2 := RunsTo.seq s1 t1 (c := sub [1, 1, 1, 1, 0, 1, 0, 0] B58) (by kernel_rfl) (by kernel_rfl)
    exact RunsTo.loop_out t2 (by simp) (by kernel_rfl) (by kernel_rfl)
  | succ d ih =>
    intro j M hj hM
    have hjl : j < l.length := by omega
    obtain ⟨p, hp⟩ : ∃ p, l[j]? = some p := ⟨_, List.getElem?_eq_getElem hjl⟩
    have hd : l.drop j = p :: l.drop (j + 1) := by
      rw [List.drop_eq_getElem_cons hjl]
      rw [List.getElem?_eq_getElem hjl] at hp
      cases hp
      rfl
    obtain ⟨a, b⟩ := p
    rw [hd]
    simp only [knGo]
    have hc : (l.map encP)[j]? = some (encP (a, b)) := by rw [List.getElem?_map, hp]; rfl
    have hw : IntKind.i64.wrap (n - 1) = n - 1 := by rw [wrapI64]; omega
    by_cases hg : (0 ≤ a ∧ a ≤ n - 1) ∧ (0 ≤ b ∧ b ≤ n - 1) ∧ a ≠ b
    · rw [if_pos hg]
      obtain ⟨E0, t, hE⟩ := known_step n (l.map encP) m j a b M hn hm hM (by simpa using hjl) (by simpa using hl) hc hg.1 hg.2.1 hg.2.2
      have hM' := knStep_wf hM (i := a.toNat) (j := b.toNat) (by omega) (by omega)
      rcases ih (j + 1) (knStep M a.toNat b.toNat) (by omega) hM' with ⟨M', h1, h2, h3⟩ | ⟨h1, E, H, h3, h4⟩
      · exact .inl ⟨M', h1, h2, RunsTo.loop t hE (by kernel_rfl) h3 rfl (by kernel_rfl) (by kernel_rfl)⟩
      · exact .inr ⟨h1, E, H, RunsTo.loop t hE (by kernel_rfl) h3 rfl (by kernel_rfl) (by kernel_rfl), h4⟩
    · rw [if_neg hg]
      refine .inr ⟨rfl, ?_⟩
      have s1 := k_f_0 n (l.map encP) m (M.map encRow) j (by simp; omega)
      have s2 := k_gt_0 n (l.map encP) m (M.map encRow) j
      have s3 := k_h_0 n (l.map encP) m (M.map encRow) j a b (idx_imm u22 z33 (by omega) (by simpa [encP] using hc))
      have fin : ∀ E H, RunsTo Try.prog polB 58 (sub [1, 1, 1, 1, 0, 1, 0, 0, 1, 1, 0, 0, 1, 0] B58) (kE n (l.map encP) m (.ptr 1 0 0 1) .undef (.int .i64 (m : Int)) (.int .i64 (m : Int)) (.imm .arg 2 (l.map encP)) (.int .i64 ((l.map encP).length : Int)) (.int .i64 (j : Int)) .undef .undef) [bM M, bP a b] .ret (polB.keys 58) E H → knBad E H →
          ∃ E H, RunsTo Try.prog polB 58 (sub [1, 1, 1, 1, 0, 1, 0] B58) (k2E n (l.map encP) m j) [bM M] .ret (polB.keys 58) E H ∧ knBad E H := by
        intro E H s4 hb
        have t4 := RunsTo.seq_out s4 (by simp) (c := sub [1, 1, 1, 1, 0, 1, 0, 0, 1, 1, 0, 0, 1] B58) (b := sub [1, 1, 1, 1, 0, 1, 0, 0, 1, 1, 0, 0, 1, 1] B58) (by kernel_rfl)
        have t5 := RunsTo.seq s3 t4 (c := sub [1, 1, 1, 1, 0, 1, 0, 0, 1, 1, 0, 0] B58) (by kernel_rfl) (by kernel_rfl)
        have t6 := RunsTo.block_ret t5 (c := sub [1, 1, 1, 1, 0, 1, 0, 0, 1, 1, 0] B58) (i := 3) (by kernel_rfl)
        have t7 := RunsTo.seq_out t6 (by simp) (c := sub [1, 1, 1, 1, 0, 1, 0, 0, 1, 1] B58) (b := sub [1, 1, 1, 1, 0, 1, 0, 0, 1, 1, 1] B58) (by kernel_rfl)
        have t8 := RunsTo.seq s2 t7 (c := sub [1, 1, 1, 1, 0, 1, 0, 0, 1] B58) (by kernel_rfl) (by kernel_rfl)
        have t9 := RunsTo.seq s1 t8 (c := sub [1, 1, 1, 1, 0, 1, 0, 0] B58) (by kernel_rfl) (by kernel_rfl)
        exact ⟨E, H, RunsTo.loop_out t9 (by simp) (by kernel_rfl) (by kernel_rfl), hb⟩
      by_cases g0 : 0 ≤ a ∧ a ≤ n - 1
      · by_cases g1 : 0 ≤ b ∧ b ≤ n - 1
        · have g2 : a = b := Classical.byContradiction fun h => hg ⟨g0, g1, h⟩
          exact fin _ _ (k_i_0 n (l.map encP) m (M.map encRow) j a b (by rw [hw]; exact g0) (by rw [hw]; exact g1) g2) (by simp only [knBad, resultsV, res58]; rfl)
        · exact fin _ _ (k_i_2 n (l.map encP) m (M.map encRow) j a b (by rw [hw]; exact g0) (by rw [hw]; exact g1)) (by simp only [knBad, resultsV, res58]; rfl)
      · exact fin _ _ (k_i_3 n (l.map encP) m (M.map encRow) j a b (by rw [hw]; exact g0)) (by simp only [knBad, resultsV, res58]; rfl)

def knInit (m : Nat) : Mat := diag 0 m (List.replicate m zero20)
/-- What everyone knows in the end. -/
def knownF (n : Int) (l : List (Int × Int)) : Option Mat :=
  if (1 ≤ n ∧ n ≤ 20) ∧ l.length ≤ 200 then knGo n l (knInit n.toNat) else none
def known58 : List HV → Option HV
  | [.int .i64 n, .imm .arg 2 lc] =>
    match mapO decP lc with
    | some l => some (match knownF n l with | some M => .tuple [.own 20 (M.map encRow), .bool true] | none => .tuple [.own 20 [], .bool false])
    | none => none
  | _ => none

theorem known_run (n : Int) (l : List (Int × Int)) : ∃ E H v, RunsTo Try.prog polB 58 B58 (args0 [.int .i64 n, .imm .arg 2 (l.map encP)]) [] .ret (polB.keys 58) E H ∧ resultsV Try.prog Try.f58 E H = some v ∧
    toRes H false v = some (match knownF n l with | some M => .tuple [.own 20 (M.map encRow), .bool true] | none => .tuple [.own 20 [], .bool false]) := by
  have a1 := k_a_0 n (l.map encP)
  have bad : ∀ E, RunsTo Try.prog polB 58 (sub [1, 0] B58) (env58 (.int .i64 n) (.imm .arg 2 (l.map encP)) (.imm .lit 20 []) (.bool false) .undef .undef .undef .undef .undef .undef .undef .undef .undef .undef .undef .undef .undef) [] .ret (polB.keys 58) E [] → knBad E [] → knownF n l = none →
      ∃ E H v, RunsTo Try.prog polB 58 B58 (args0 [.int .i64 n, .imm .arg 2 (l.map encP)]) [] .ret (polB.keys 58) E H ∧ resultsV Try.prog Try.f58 E H = some v ∧
    toRes H false v = some (match knownF n l with | some M => .tuple [.own 20 (M.map encRow), .bool true] | none => .tuple [.own 20 [], .bool false]) := by
    intro E b1 hb hk
    have t1 := RunsTo.seq_out b1 (by simp) (c := sub [1] B58) (b := sub [1, 1] B58) (by kernel_rfl)
    have t2 := RunsTo.seq a1 t1 (c := B58) (by kernel_rfl) (by kernel_rfl)
    exact ⟨E, [], _, t2, hb, by rw [hk]; rfl⟩
  by_cases h1 : 1 ≤ n ∧ n ≤ 20
  · by_cases h2 : l.length ≤ 200
    · have b1 := k_b_1 n (l.map encP) h1 (by simp; omega)
      obtain ⟨m, hm⟩ : ∃ m : Nat, (m : Int) = n := ⟨n.toNat, by omega⟩
      have hmn : n.toNat = m := by omega
      have hz : [.bool false, .bool false, .bool false, .bool false, .bool false, .bool false, .bool false, .bool false, .bool false, .bool false, .bool false, .bool false, .bool false, .bool false, .bool false, .bool false, .bool false, .bool false, .bool false, .bool false] = zero20.map HV.bool := rfl
      have c1 := k_c_0 n (l.map encP) (makeV_ok u85 info89 rfl rfl (by omega) (by omega) (by rw [show roomMax = 70368744177664 from rfl]; omega))
      rw [hmn] at c1
      have hr : List.replicate m (HV.agg [.bool false, .bool false, .bool false, .bool false, .bool false, .bool false, .bool false, .bool false, .bool false, .bool false, .bool false, .bool false, .bool false, .bool false, .bool false, .bool false, .bool false, .bool false, .bool false, .bool false]) = (List.replicate m zero20).map encRow := by
        rw [List.map_replicate]; rfl
      rw [hr] at c1
      have hW : Wf m (List.replicate m zero20) := ⟨by simp, fun i r hi => by
        rw [List.getElem?_replicate] at hi
        split at hi
        · cases hi; rfl
        · cases hi⟩
      have d1 := k_d_0 n (l.map encP) m ((List.replicate m zero20).map encRow)
      obtain ⟨e1, hW1⟩ := known_l1 n (l.map encP) m (by omega) m 0 (List.replicate m zero20) (by omega) hW
      have f1 := k_e_0 n (l.map encP) m ((knInit m).map encRow)
      have u1 := RunsTo.seq d1 (RunsTo.block_exit (c := sub [1, 1, 1, 0, 1] B58) e1 (by kernel_rfl)) (c := sub [1, 1, 1, 0] B58) (by kernel_rfl) (by kernel_rfl)
      have hk : knownF n l = knGo n l (knInit m) := by rw [knownF, if_pos ⟨h1, h2⟩, hmn]
      have up : ∀ x E H, RunsTo Try.prog polB 58 (sub [1, 1, 1, 1] B58) (kE n (l.map encP) m .undef .undef (.int .i64 (m : Int)) (.int .i64 (m : Int)) .undef .undef .undef .undef .undef) [bM (knInit m)] x (polB.keys 58) E H → RunsTo Try.prog polB 58 B58 (args0 [.int .i64 n, .imm .arg 2 (l.map encP)]) [] x (polB.keys 58) E H := by
        intro x E H t
        have t1 := RunsTo.seq u1 t (c := sub [1, 1, 1] B58) (by kernel_rfl) (by kernel_rfl)
        have t2 := RunsTo.seq c1 t1 (c := sub [1, 1] B58) (by kernel_rfl) (by kernel_rfl)
        have t3 := RunsTo.seq b1 t2 (c := sub [1] B58) (by kernel_rfl) (by kernel_rfl)
        exact RunsTo.seq a1 t3 (c := B58) (by kernel_rfl) (by kernel_rfl)
      rcases known_l2 n l m hm (by omega) h2 l.length 0 (knInit m) (by omega) hW1 with ⟨M', g1, g2, g3⟩ | ⟨g1, E, H, g3, g4⟩
      · have z1 := k_z_0 n (l.map encP) m (M'.map encRow) l.length
        have t1 := RunsTo.seq f1 (RunsTo.block_exit (c := sub [1, 1, 1, 1, 0, 1] B58) g3 (by kernel_rfl)) (c := sub [1, 1, 1, 1, 0] B58) (by kernel_rfl) (by kernel_rfl)
        have t2 := RunsTo.seq t1 z1 (c := sub [1, 1, 1, 1] B58) (by kernel_rfl) (by kernel_rfl)
        refine ⟨_, _, _, up _ _ _ t2, by simp only [resultsV, res58]; rfl, ?_⟩
        rw [hk, show knGo n l (knInit m) = some M' from g1]
        have hr := resCell_sl (H := [bM M']) (no := [0]) (b := 0) (k := 20) (m := m) (cap := some m) (els := M'.map encRow) rfl (by simp [g2.1]) (mapO_self (fun r => frz_row r) M')
        have ho : ownedAll [bM M'] false (.tuple [.sl 0 0 m (some m) m 20, .bool true]) = [0] := rfl
        show toRes [bM M'] false (.tuple [.sl 0 0 m (some m) m 20, .bool true]) = _
        simp only [toRes, ho, List.nodup_cons, List.not_mem_nil, not_false_eq_true, List.nodup_nil, and_self, if_true, mapO, resVal, hr]
        rfl
      · have t1 := RunsTo.seq f1 (RunsTo.block_ret (c := sub [1, 1, 1, 1, 0, 1] B58) (i := 2) g3 (by kernel_rfl)) (c := sub [1, 1, 1, 1, 0] B58) (by kernel_rfl) (by kernel_rfl)
        have t2 := RunsTo.seq_out t1 (by simp) (c := sub [1, 1, 1, 1] B58) (b := sub [1, 1, 1, 1, 1] B58) (by kernel_rfl)
        refine ⟨_, _, _, up _ _ _ t2, g4, ?_⟩
        rw [hk, show knGo n l (knInit m) = none from g1]
        rfl
    · exact bad _ (k_b_0 n (l.map encP) h1 (by simp; omega)) (by simp only [knBad, resultsV, res58]; rfl) (by rw [knownF, if_neg (by omega)])
  · exact bad _ (k_b_2 n (l.map encP) h1) (by simp only [knBad, resultsV, res58]; rfl) (by rw [knownF, if_neg (by omega)])
end Go.Proofs.Ytmhfkhlamnapdaa
