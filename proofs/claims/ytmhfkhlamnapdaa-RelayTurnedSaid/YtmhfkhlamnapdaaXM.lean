/- A part of the proof: XM. -/
import Derived.Test.YtmhfkhlamnapdaaX39c
import Derived.Test.YtmhfkhlamnapdaaX43c
set_option linter.unusedVariables false
set_option linter.unusedSimpArgs false
open Go Go.HL
namespace Go.Proofs.Ytmhfkhlamnapdaa
theorem bitAt_set (F : List Bool) (i j : Nat) (v : Bool) (h : i < F.length) : bitAt (F.set i v) j = if i = j then v else bitAt F j := by
  unfold bitAt
  rw [List.getElem?_set]
  split
  · rfl
  · rfl
theorem rowAt_set (M : Mat) (i j : Nat) (r : List Bool) (h : i < M.length) : rowAt (M.set i r) j = if i = j then r else rowAt M j := by
  unfold rowAt
  rw [List.getElem?_set]
  split
  · rfl
  · rfl
theorem bits_ext {r s : List Bool} (hl : r.length = s.length) (h : ∀ y, y < r.length → bitAt r y = bitAt s y) : r = s := by
  apply List.ext_getElem? 
  intro i
  by_cases hi : i < r.length
  · have h1 : r[i]? = some r[i] := List.getElem?_eq_getElem hi
    have h2 : s[i]? = some s[i] := List.getElem?_eq_getElem (by omega)
    have := h i hi
    simp only [bitAt, h1, h2, Option.getD_some] at this
    rw [h1, h2, this]
  · rw [List.getElem?_eq_none (by omega), List.getElem?_eq_none (by omega)]
theorem idx_div {m i y : Nat} (hy : y < m) : (i * m + y) / m = i := by
  rw [Nat.mul_comm, Nat.mul_add_div (by omega), Nat.div_eq_of_lt hy, Nat.add_zero]
theorem idx_mod {m i y : Nat} (hy : y < m) : (i * m + y) % m = y := by
  rw [Nat.mul_comm, Nat.mul_add_mod, Nat.mod_eq_of_lt hy]
theorem idx_inj {m i y a x : Nat} (hy : y < m) (hx : x < m) : (i * m + y = a * m + x) ↔ (i = a ∧ y = x) := by
  constructor
  · intro h
    have h1 := idx_div (i := i) hy
    have h2 := idx_mod (i := i) hy
    rw [h, idx_div hx] at h1
    rw [h, idx_mod hx] at h2
    exact ⟨h1.symm, h2.symm⟩
  · rintro ⟨rfl, rfl⟩; rfl
theorem or_get {r s : List Bool} (h : r.length = s.length) (y : Nat) : bitAt (orRow r s) y = (bitAt r y || bitAt s y) := by
  unfold bitAt orRow
  rw [List.getElem?_zipWith]
  by_cases hy : y < r.length
  · rw [List.getElem?_eq_getElem hy, List.getElem?_eq_getElem (by omega)]; rfl
  · rw [List.getElem?_eq_none (by omega), List.getElem?_eq_none (by omega)]; rfl

structure Same (m : Nat) (F : List Bool) (M : Mat) : Prop where
  len : F.length = m * m
  wf : Wf m M
  bits : ∀ i y, i < m → y < m → bitAt F (i * m + y) = bitAt (rowAt M i) y
  rest : ∀ i y, i < m → m ≤ y → bitAt (rowAt M i) y = false

theorem same_diag1 {m : Nat} (hm : m ≤ 20) {F : List Bool} {M : Mat} (h : Same m F M) {j : Nat} (hj : j < m) : Same m (F.set (j * m + j) true) (M.set j ((rowAt M j).set j true)) := by
  have hr := (rowAt_get h.wf hj).2
  have hlt := at_lt hj hj
  refine ⟨by simp [h.len], h.wf.set (by simp [hr]), fun i y hi hy => ?_, fun i y hi hy => ?_⟩
  · rw [bitAt_set _ _ _ _ (by rw [h.len]; exact hlt), rowAt_set _ _ _ _ (by rw [h.wf.1]; exact hj)]
    by_cases e : j = i
    · subst e
      rw [if_pos rfl, bitAt_set _ _ _ _ (by rw [hr]; omega)]
      by_cases e2 : j = y
      · subst e2; rw [if_pos rfl, if_pos rfl]
      · rw [if_neg (fun hh => e2 ((idx_inj hj hy).1 hh).2), if_neg e2]; exact h.bits j y hj hy
    · rw [if_neg (fun hh => e ((idx_inj hj hy).1 hh).1), if_neg e]; exact h.bits i y hi hy
  · rw [rowAt_set _ _ _ _ (by rw [h.wf.1]; exact hj)]
    split
    · rw [bitAt_set _ _ _ _ (by rw [hr]; omega), if_neg (by omega)]; exact h.rest j y hj hy
    · exact h.rest i y hi hy
theorem same_diag {m : Nat} (hm : m ≤ 20) : ∀ (d j : Nat) (F : List Bool) (M : Mat), j + d = m → Same m F M → Same m (rDiag m j d F) (diag j d M)
  | 0, _, _, _, _, h => h
  | d + 1, j, F, M, hj, h => by
    rw [rDiag, diag]
    exact same_diag hm d (j + 1) _ _ (by omega) (same_diag1 hm h (by omega))

theorem rIn_get {m a b : Nat} (ha : a < m) (hb : b < m) (hab : a ≠ b) : ∀ (d x : Nat) (F : List Bool), x + d = m → F.length = m * m → ∀ i y, i < m → y < m →
    bitAt (rIn m a b x d F) (i * m + y) = if (i = a ∨ i = b) ∧ x ≤ y then (bitAt F (a * m + y) || bitAt F (b * m + y)) else bitAt F (i * m + y)
  | 0, x, F, hx, hF, i, y, hi, hy => by
    rw [rIn, if_neg (by omega)]
  | d + 1, x, F, hx, hF, i, y, hi, hy => by
    have hxm : x < m := by omega
    have la := at_lt ha hxm
    have lb := at_lt hb hxm
    rw [rIn, rIn_get ha hb hab d (x + 1) _ (by omega) (by simpa using hF) i y hi hy]
    have g : ∀ i y, i < m → y < m → bitAt ((F.set (a * m + x) (bitAt F (a * m + x) || bitAt F (b * m + x))).set (b * m + x) (bitAt F (a * m + x) || bitAt F (b * m + x))) (i * m + y) =
        if (i = a ∨ i = b) ∧ y = x then (bitAt F (a * m + x) || bitAt F (b * m + x)) else bitAt F (i * m + y) := by
      intro i y hi hy
      rw [bitAt_set _ _ _ _ (by simp [hF]; exact lb), bitAt_set _ _ _ _ (by rw [hF]; exact la)]
      by_cases e1 : b = i ∧ x = y
      · rw [if_pos ((idx_inj hxm hy).2 e1), if_pos ⟨.inr e1.1.symm, e1.2.symm⟩]
      · rw [if_neg (fun hh => e1 ((idx_inj hxm hy).1 hh))]
        by_cases e2 : a = i ∧ x = y
        · rw [if_pos ((idx_inj hxm hy).2 e2), if_pos ⟨.inl e2.1.symm, e2.2.symm⟩]
        · rw [if_neg (fun hh => e2 ((idx_inj hxm hy).1 hh)), if_neg (by omega)]
    by_cases hyx : y = x
    · subst hyx
      rw [if_neg (by omega), g i y hi hy]
      by_cases hi2 : i = a ∨ i = b
      · rw [if_pos ⟨hi2, rfl⟩, if_pos ⟨hi2, Nat.le_refl _⟩]
      · rw [if_neg (fun h => hi2 h.1), if_neg (fun h => hi2 h.1)]
    · have g' : ∀ i, i < m → _ := fun i hi => (g i y hi hy).trans (if_neg (fun h => hyx h.2))
      rw [g' a ha, g' b hb, g' i hi]
      by_cases hc : (i = a ∨ i = b) ∧ x + 1 ≤ y
      · rw [if_pos hc, if_pos ⟨hc.1, by omega⟩]
      · rw [if_neg hc, if_neg (by omega)]

theorem same_step {m : Nat} {F : List Bool} {M : Mat} (h : Same m F M) {a b : Nat} (ha : a < m) (hb : b < m) (hab : a ≠ b) : Same m (rIn m a b 0 m F) (knStep M a b) := by
  have ra := (rowAt_get h.wf ha).2
  have rb := (rowAt_get h.wf hb).2
  have row : ∀ i, i < m → rowAt (knStep M a b) i = if i = a ∨ i = b then orRow (rowAt M a) (rowAt M b) else rowAt M i := by
    intro i hi
    rw [knStep, rowAt_set _ _ _ _ (by rw [List.length_set, h.wf.1]; exact hb), rowAt_set _ _ _ _ (by rw [h.wf.1]; exact ha)]
    by_cases e1 : b = i
    · rw [if_pos e1, if_pos (.inr e1.symm)]
    · rw [if_neg e1]
      by_cases e2 : a = i
      · rw [if_pos e2, if_pos (.inl e2.symm)]
      · rw [if_neg e2, if_neg (by omega)]
  refine ⟨by rw [rIn_length]; exact h.len, knStep_wf h.wf ha hb, fun i y hi hy => ?_, fun i y hi hy => ?_⟩
  · rw [rIn_get ha hb hab m 0 F (by omega) h.len i y hi hy, row i hi]
    by_cases hc : i = a ∨ i = b
    · rw [if_pos ⟨hc, Nat.zero_le _⟩, if_pos hc, or_get (by omega), h.bits a y ha hy, h.bits b y hb hy]
    · rw [if_neg (fun hh => hc hh.1), if_neg hc]; exact h.bits i y hi hy
  · rw [row i hi]
    split
    · rw [or_get (by omega), h.rest a y ha hy, h.rest b y hb hy]; rfl
    · exact h.rest i y hi hy

theorem same_go {n : Int} {m : Nat} (hn : (m : Int) = n) : ∀ (l : List (Int × Int)) (F : List Bool) (M : Mat), Same m F M → l.all (validB n) = true → ∃ M', knGo n l M = some M' ∧ Same m (rGo m l F) M'
  | [], F, M, h, _ => ⟨M, rfl, h⟩
  | p :: l, F, M, h, hv => by
    rw [List.all_cons, Bool.and_eq_true] at hv
    have h1 := hv.1
    rw [validB, decide_eq_true_eq] at h1
    obtain ⟨⟨c1, c2⟩, ⟨c3, c4⟩, c5⟩ := h1
    obtain ⟨M', h2, h3⟩ := same_go hn l _ _ (same_step h (a := p.1.toNat) (b := p.2.toNat) (by omega) (by omega) (by omega)) hv.2
    exact ⟨M', by rw [knGo, if_pos ⟨⟨c1, by omega⟩, ⟨c3, by omega⟩, c5⟩]; exact h2, h3⟩
theorem same_init (m : Nat) (hm : m ≤ 20) : Same m (rDiag m 0 m (List.replicate (m * m) false)) (knInit m) := by
  refine same_diag hm m 0 _ _ (by omega) ⟨by simp, ⟨by simp, fun i r hi => ?_⟩, fun i y hi hy => ?_, fun i y hi hy => ?_⟩
  · rw [List.getElem?_replicate] at hi
    split at hi
    · cases hi; rfl
    · cases hi
  all_goals
    have hz : ∀ y, bitAt zero20 y = false := fun y => by
      unfold bitAt zero20
      rw [List.getElem?_replicate]
      split <;> rfl
    have hr : rowAt (List.replicate m zero20) i = zero20 := by
      unfold rowAt
      rw [List.getElem?_replicate, if_pos hi]; rfl
    rw [hr, hz]
  unfold bitAt
  rw [List.getElem?_replicate]
  split <;> rfl

theorem rRow_full (m j : Nat) (F : List Bool) : ∀ (d x : Nat) (r : List Int), (rRow m j F x d r).length ≤ r.length + d ∧ ((rRow m j F x d r).length = r.length + d ↔ ∀ y, x ≤ y → y < x + d → bitAt F (j * m + y) = true)
  | 0, x, r => ⟨Nat.le_refl _, by simp only [rRow, Nat.add_zero, true_iff]; intro y h1 h2; omega⟩
  | d + 1, x, r => by
    rw [rRow]
    cases hb : bitAt F (j * m + x) with
    | true =>
      obtain ⟨h1, h2⟩ := rRow_full m j F d (x + 1) (r ++ [(x : Int)])
      simp only [if_true]
      simp only [List.length_append, List.length_singleton] at h1 h2
      refine ⟨by omega, ?_⟩
      rw [show r.length + (d + 1) = r.length + 1 + d by omega, h2]
      constructor
      · intro h y hy1 hy2
        by_cases e : y = x
        · subst e; exact hb
        · exact h y (by omega) (by omega)
      · intro h y hy1 hy2
        exact h y (by omega) (by omega)
    | false =>
      obtain ⟨h1, h2⟩ := rRow_full m j F d (x + 1) r
      simp only [Bool.false_eq_true, if_false]
      refine ⟨by omega, ?_⟩
      constructor
      · intro h; omega
      · intro h
        have := h x (Nat.le_refl _) (by omega)
        rw [hb] at this; cases this

theorem setFrom_get : ∀ (d j : Nat) (r : List Bool) (y : Nat), j + d ≤ r.length → bitAt (setFrom j d r) y = if j ≤ y ∧ y < j + d then true else bitAt r y
  | 0, j, r, y, _ => by rw [setFrom, if_neg (by omega)]
  | d + 1, j, r, y, h => by
    rw [setFrom, setFrom_get d (j + 1) _ y (by simp; omega), bitAt_set _ _ _ _ (by omega)]
    by_cases e : j = y
    · subst e; rw [if_neg (by omega), if_pos rfl, if_pos ⟨Nat.le_refl _, by omega⟩]
    · by_cases c : j + 1 ≤ y ∧ y < j + 1 + d
      · rw [if_pos c, if_pos (by omega)]
      · rw [if_neg c, if_neg e, if_neg (by omega)]
theorem full_get (m : Nat) (hm : m ≤ 20) (y : Nat) : bitAt (full m) y = decide (y < m) := by
  have hz : bitAt zero20 y = false := by
    unfold bitAt zero20
    rw [List.getElem?_replicate]
    split <;> rfl
  rw [full, setFrom_get m 0 zero20 y (by simp [zero20]; omega), hz]
  by_cases c : y < m
  · rw [if_pos ⟨Nat.zero_le _, by omega⟩, decide_eq_true c]
  · rw [if_neg (by omega), decide_eq_false c]

theorem row_full {m : Nat} (hm : m ≤ 20) {F : List Bool} {M : Mat} (h : Same m F M) {j : Nat} (hj : j < m) : m ≤ (rRow m j F 0 m []).length ↔ rowAt M j = full m := by
  obtain ⟨h1, h2⟩ := rRow_full m j F m 0 []
  simp only [List.length_nil, Nat.zero_add] at h1 h2
  have hr := (rowAt_get h.wf hj).2
  constructor
  · intro hl
    have h3 := h2.1 (by omega)
    refine bits_ext (by rw [hr, full_length]) fun y hy => ?_
    rw [full_get m hm]
    by_cases c : y < m
    · rw [decide_eq_true c, ← h.bits j y hj c]; exact h3 y (Nat.zero_le _) c
    · rw [decide_eq_false c]; exact h.rest j y hj (by omega)
  · intro he
    have : (rRow m j F 0 m []).length = m := h2.2 fun y _ hy => by rw [h.bits j y hj hy, he, full_get m hm, decide_eq_true hy]
    omega

theorem rRows_all (m : Nat) (F : List Bool) (p : List Int → Bool) : ∀ (d j : Nat) (L : List (List Int)), (rRows m F j d L).all p = (L.all p && (List.range' j d).all fun i => p (rRow m i F 0 m []))
  | 0, j, L => by simp [rRows]
  | d + 1, j, L => by rw [rRows, rRows_all m F p d]; simp [List.range'_succ, Bool.and_assoc]
theorem mat_all {m : Nat} (M : Mat) (hM : M.length = m) (p : List Bool → Bool) : M.all p = (List.range' 0 m).all fun i => p (rowAt M i) := by
  rw [Bool.eq_iff_iff, List.all_eq_true, List.all_eq_true]
  constructor
  · intro h i hi
    rw [List.mem_range'_1] at hi
    have hl : i < M.length := by omega
    have e : rowAt M i = M[i] := by simp [rowAt, List.getElem?_eq_getElem hl]
    rw [e]; exact h _ (List.getElem_mem hl)
  · intro h r hr
    obtain ⟨i, hi, rfl⟩ := List.getElem_of_mem hr
    have e : rowAt M i = M[i] := by simp [rowAt, List.getElem?_eq_getElem hi]
    rw [← e]; exact h i (by rw [List.mem_range'_1]; omega)

/-- The two readings of 'enough' agree. -/
theorem enough_eq {n : Int} {m : Nat} (hn : (m : Int) = n) (h1 : 1 ≤ m) (hm : m ≤ 20) (l : List (Int × Int)) (hv : l.all (validB n) = true) (hl : l.length ≤ 200) : enoughF n l = if rEnough m l then 0 else 10 := by
  obtain ⟨M', h2, h3⟩ := same_go hn l _ _ (same_init m hm) hv
  have hk : knownF n l = some M' := by rw [knownF, if_pos ⟨by omega, hl⟩, show n.toNat = m by omega]; exact h2
  have he : rEnough m l = M'.all (fun r => decide (r = full n.toNat)) := by
    rw [rEnough, rKnown, rRows_all, mat_all M' h3.wf.1, show n.toNat = m by omega, List.all_nil, Bool.true_and, Bool.eq_iff_iff, List.all_eq_true, List.all_eq_true]
    constructor
    · intro h i hi
      have hi2 := List.mem_range'_1.1 hi
      exact decide_eq_true ((row_full hm h3 (by omega)).1 (of_decide_eq_true (h i hi)))
    · intro h i hi
      have hi2 := List.mem_range'_1.1 hi
      exact decide_eq_true ((row_full hm h3 (by omega)).2 (of_decide_eq_true (h i hi)))
  simp only [enoughF, hk, he]
end Go.Proofs.Ytmhfkhlamnapdaa
