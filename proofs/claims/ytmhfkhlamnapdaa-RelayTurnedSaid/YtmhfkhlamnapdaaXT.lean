/- A part of the proof: XT. -/
import Derived.Test.YtmhfkhlamnapdaaXG3
import Derived.Test.YtmhfkhlamnapdaaX42c
import Derived.Test.YtmhfkhlamnapdaaX45c
set_option linter.unusedVariables false
set_option linter.unusedSimpArgs false
open Go Go.HL Go.Gossip
namespace Go.Proofs.Ytmhfkhlamnapdaa
/-- The calls as calls of numbers. -/
def nP (p : Int × Int) : C := (p.1.toNat, p.2.toNat)
theorem bit_go {m : Nat} : ∀ (l : List (Int × Int)) (F : List Bool), (∀ p ∈ l, validB (m : Int) p = true) → F.length = m * m → ∀ i y, i < m → y < m →
    (bitAt (rGo m l F) (i * m + y) = true ↔ ∃ z, z < m ∧ bitAt F (z * m + y) = true ∧ R (l.map nP) z i)
  | [], F, _, _, i, y, hi, hy => by
    rw [rGo]
    constructor
    · intro h; exact ⟨i, hi, h, r_refl _ _⟩
    · rintro ⟨z, _, h, hr⟩; rw [← r_nil.1 hr]; exact h
  | p :: l, F, hv, hF, i, y, hi, hy => by
    have h1 := hv p (by simp)
    rw [validB, decide_eq_true_eq] at h1
    obtain ⟨⟨c1, c2⟩, ⟨c3, c4⟩, c5⟩ := h1
    have ha : p.1.toNat < m := by omega
    have hb : p.2.toNat < m := by omega
    have hab : p.1.toNat ≠ p.2.toNat := by omega
    rw [rGo, bit_go l _ (fun q hq => hv q (by simp [hq])) (by rw [rIn_length]; exact hF) i y hi hy]
    have hg := fun z (hz : z < m) => rIn_get ha hb hab m 0 F (by omega) hF z y hz hy
    constructor
    · rintro ⟨z, hz, h, hr⟩
      rw [hg z hz] at h
      by_cases hc : z = p.1.toNat ∨ z = p.2.toNat
      · rw [if_pos ⟨hc, Nat.zero_le _⟩, Bool.or_eq_true] at h
        rcases h with h | h
        · refine ⟨p.1.toNat, ha, h, ?_⟩
          rw [List.map_cons, r_cons]
          rcases hc with e | e
          · left; rw [← e]; exact hr
          · exact .inr (.inl ⟨rfl, by rw [show (nP p).2 = z from e.symm]; exact hr⟩)
        · refine ⟨p.2.toNat, hb, h, ?_⟩
          rw [List.map_cons, r_cons]
          rcases hc with e | e
          · exact .inr (.inr ⟨rfl, by rw [show (nP p).1 = z from e.symm]; exact hr⟩)
          · left; rw [← e]; exact hr
      · rw [if_neg (fun hh => hc hh.1)] at h
        exact ⟨z, hz, h, r_cons.2 (.inl hr)⟩
    · rintro ⟨z, hz, h, hr⟩
      rw [List.map_cons, r_cons] at hr
      rcases hr with hr | ⟨e, hr⟩ | ⟨e, hr⟩
      · refine ⟨z, hz, ?_, hr⟩
        rw [hg z hz]
        by_cases hc : z = p.1.toNat ∨ z = p.2.toNat
        · rw [if_pos ⟨hc, Nat.zero_le _⟩, Bool.or_eq_true]
          rcases hc with e | e
          · left; rw [← e]; exact h
          · right; rw [← e]; exact h
        · rw [if_neg (fun hh => hc hh.1)]; exact h
      · refine ⟨p.2.toNat, hb, ?_, hr⟩
        rw [hg _ hb, if_pos ⟨.inr rfl, Nat.zero_le _⟩, Bool.or_eq_true]
        left; rw [show z = p.1.toNat from e] at h; exact h
      · refine ⟨p.1.toNat, ha, ?_, hr⟩
        rw [hg _ ha, if_pos ⟨.inl rfl, Nat.zero_le _⟩, Bool.or_eq_true]
        right; rw [show z = p.2.toNat from e] at h; exact h
def f0 (m : Nat) : List Bool := rDiag m 0 m (List.replicate (m * m) false)
theorem f0_len (m : Nat) (hm : m ≤ 20) : (f0 m).length = m * m := (same_init m hm).len
theorem rDiag_get {m : Nat} : ∀ (d j : Nat) (F : List Bool), j + d = m → F.length = m * m → ∀ i y, i < m → y < m → bitAt (rDiag m j d F) (i * m + y) = if i = y ∧ j ≤ y then true else bitAt F (i * m + y)
  | 0, j, F, hj, hF, i, y, hi, hy => by rw [rDiag, if_neg (by omega)]
  | d + 1, j, F, hj, hF, i, y, hi, hy => by
    have hjm : j < m := by omega
    rw [rDiag, rDiag_get d (j + 1) _ (by omega) (by simpa using hF) i y hi hy, bitAt_set _ _ _ _ (by rw [hF]; exact at_lt hjm hjm)]
    by_cases e : j = i ∧ j = y
    · rw [if_neg (by omega), if_pos ((idx_inj hjm hy).2 e), if_pos (by omega)]
    · rw [if_neg (fun hh => e ((idx_inj hjm hy).1 hh))]
      by_cases c : i = y ∧ j + 1 ≤ y
      · rw [if_pos c, if_pos (by omega)]
      · rw [if_neg c, if_neg (by omega)]
theorem f0_get {m : Nat} {i y : Nat} (hi : i < m) (hy : y < m) : bitAt (f0 m) (i * m + y) = true ↔ i = y := by
  rw [f0, rDiag_get m 0 _ (by omega) (by simp) i y hi hy]
  have hz : bitAt (List.replicate (m * m) false) (i * m + y) = false := by
    unfold bitAt
    rw [List.getElem?_replicate]
    split <;> rfl
  rw [hz]
  constructor
  · intro h
    by_cases c : i = y ∧ 0 ≤ y
    · exact c.1
    · rw [if_neg c] at h; cases h
  · intro h; rw [if_pos ⟨h, Nat.zero_le _⟩]
/-- What someone knows in the end: whose thing has come to it. -/
theorem bit_known {m : Nat} (hm : m ≤ 20) (l : List (Int × Int)) (hv : ∀ p ∈ l, validB (m : Int) p = true) {i y : Nat} (hi : i < m) (hy : y < m) : bitAt (rGo m l (f0 m)) (i * m + y) = true ↔ R (l.map nP) y i := by
  rw [bit_go l _ hv (f0_len m hm) i y hi hy]
  constructor
  · rintro ⟨z, hz, h, hr⟩
    rw [← (f0_get hz hy).1 h]; exact hr
  · intro h; exact ⟨y, hy, (f0_get hy hy).2 rfl, h⟩
theorem enough_iff {m : Nat} (hm : m ≤ 20) (l : List (Int × Int)) (hv : ∀ p ∈ l, validB (m : Int) p = true) : rEnough m l = true ↔ Complete (List.range m) (l.map nP) := by
  rw [rEnough, rKnown, rRows_all, List.all_nil, Bool.true_and, List.all_eq_true]
  have hfull : ∀ i, i < m → (decide (m ≤ (rRow m i (rGo m l (f0 m)) 0 m []).length) = true ↔ ∀ y, y < m → R (l.map nP) y i) := by
    intro i hi
    obtain ⟨h1, h2⟩ := rRow_full m i (rGo m l (f0 m)) m 0 []
    simp only [List.length_nil, Nat.zero_add] at h1 h2
    rw [decide_eq_true_eq]
    constructor
    · intro h y hy
      exact (bit_known hm l hv hi hy).1 (h2.1 (by omega) y (Nat.zero_le _) hy)
    · intro h
      have := h2.2 fun y _ hy => (bit_known hm l hv hi hy).2 (h y hy)
      omega
  constructor
  · intro h x hx y hy
    have hy' := List.mem_range.1 hy
    exact (hfull y hy').1 (h y (List.mem_range'_1.2 ⟨Nat.zero_le _, by omega⟩)) x (List.mem_range.1 hx)
  · intro h i hi
    have hi' : i < m := by have := List.mem_range'_1.1 hi; omega
    exact (hfull i hi').2 fun y hy => h y (List.mem_range.2 hy) i (List.mem_range.2 hi')
theorem all_iff {n : Int} {l : List (Int × Int)} : l.all (validB n) = true ↔ ∀ p ∈ l, validB n p = true := List.all_eq_true
/-- Enough, in words of numbers. -/
theorem enoughF_iff {m : Nat} (h1 : 1 ≤ m) (hm : m ≤ 20) (l : List (Int × Int)) (hv : ∀ p ∈ l, validB (m : Int) p = true) (hl : l.length ≤ 200) : enoughF (m : Int) l = 0 ↔ Complete (List.range m) (l.map nP) := by
  rw [enough_eq rfl h1 hm l (all_iff.2 hv) hl, ← enough_iff hm l hv]
  cases rEnough m l <;> simp
theorem inside_nP {m : Nat} {l : List (Int × Int)} (hv : ∀ p ∈ l, validB (m : Int) p = true) : Inside (List.range m) (l.map nP) := by
  intro c hc
  obtain ⟨p, hp, rfl⟩ := List.mem_map.1 hc
  have h1 := hv p hp
  rw [validB, decide_eq_true_eq] at h1
  simp only [nP, List.mem_range]
  omega
/-- The other way round. -/
theorem enough_back {m : Nat} (h1 : 1 ≤ m) (hm : m ≤ 20) (l : List (Int × Int)) (hv : ∀ p ∈ l, validB (m : Int) p = true) (hl : l.length ≤ 200) : enoughF (m : Int) l.reverse = 0 ↔ enoughF (m : Int) l = 0 := by
  rw [enoughF_iff h1 hm l hv hl, enoughF_iff h1 hm _ (fun p hp => hv p (List.mem_reverse.1 hp)) (by simpa using hl), List.map_reverse]
  exact ⟨fun h x hx y hy => r_reverse.1 (h y hy x hx), fun h x hx y hy => r_reverse.2 (h y hy x hx)⟩
theorem r_swap (f : Nat → Nat) {l : List C} {x y : Nat} (h : R l x y) : R (l.map fun c => (f c.2, f c.1)) (f x) (f y) := by
  induction l generalizing x with
  | nil => rw [r_nil.1 h]; exact r_refl _ _
  | cons c l ih =>
    rw [List.map_cons, r_cons]
    rcases r_cons.1 h with h | ⟨e, h⟩ | ⟨e, h⟩
    · exact .inl (ih h)
    · exact .inr (.inr ⟨by rw [e], ih h⟩)
    · exact .inr (.inl ⟨by rw [e], ih h⟩)
/-- All people renamed. -/
def renP (n r : Int) (p : Int × Int) : Int × Int := ((IntKind.i64.wrap (p.2 + r)).tmod n, (IntKind.i64.wrap (p.1 + r)).tmod n)
theorem ren_num {m r : Nat} (hm : m ≤ 20) (hr : r < m) {x : Int} (h0 : 0 ≤ x) (h1 : x < m) : (IntKind.i64.wrap (x + (r : Int))).tmod (m : Int) = (((x.toNat + r) % m : Nat) : Int) := by
  have : IntKind.i64.wrap (x + (r : Int)) = ((x.toNat + r : Nat) : Int) := by rw [wrapI64]; omega
  rw [this]
  exact (Int.ofNat_tmod _ _).symm
theorem mod_inj {m r a b : Nat} (hr : r < m) (ha : a < m) (hb : b < m) (h : (a + r) % m = (b + r) % m) : a = b := by
  have h1 : (a + r) % m = if a + r < m then a + r else a + r - m := by
    split
    · exact Nat.mod_eq_of_lt (by omega)
    · rw [Nat.mod_eq_sub_mod (by omega), Nat.mod_eq_of_lt (by omega)]
  have h2 : (b + r) % m = if b + r < m then b + r else b + r - m := by
    split
    · exact Nat.mod_eq_of_lt (by omega)
    · rw [Nat.mod_eq_sub_mod (by omega), Nat.mod_eq_of_lt (by omega)]
  rw [h1, h2] at h
  split at h <;> split at h <;> omega
theorem mod_back {m r a : Nat} (hr : r < m) (ha : a < m) : ((a + r) % m + (m - r)) % m = a := by
  have h1 : (a + r) % m = if a + r < m then a + r else a + r - m := by
    split
    · exact Nat.mod_eq_of_lt (by omega)
    · rw [Nat.mod_eq_sub_mod (by omega), Nat.mod_eq_of_lt (by omega)]
  rw [h1]
  split
  · rw [Nat.mod_eq_sub_mod (by omega), Nat.mod_eq_of_lt (by omega)]; omega
  · rw [Nat.mod_eq_of_lt (by omega)]; omega
theorem ren_valid {m r : Nat} (hm : m ≤ 20) (hr : r < m) {p : Int × Int} (hv : validB (m : Int) p = true) : validB (m : Int) (renP m r p) = true ∧ nP (renP m r p) = (((nP p).2 + r) % m, ((nP p).1 + r) % m) := by
  rw [validB, decide_eq_true_eq] at hv
  obtain ⟨⟨c1, c2⟩, ⟨c3, c4⟩, c5⟩ := hv
  have e : renP m r p = ((((p.2.toNat + r) % m : Nat) : Int), (((p.1.toNat + r) % m : Nat) : Int)) := by
    unfold renP
    rw [ren_num hm hr c1 c2, ren_num hm hr c3 c4]
  have l1 : (p.2.toNat + r) % m < m := Nat.mod_lt _ (by omega)
  have l2 : (p.1.toNat + r) % m < m := Nat.mod_lt _ (by omega)
  have ne : (p.2.toNat + r) % m ≠ (p.1.toNat + r) % m := fun h => by
    have := mod_inj hr (by omega) (by omega) h
    omega
  rw [e]
  refine ⟨?_, ?_⟩
  · rw [validB, decide_eq_true_eq]; simp only; omega
  · simp only [nP, Int.toNat_natCast]
theorem enough_ren {m r : Nat} (h1 : 1 ≤ m) (hm : m ≤ 20) (hr : r < m) (l : List (Int × Int)) (hv : ∀ p ∈ l, validB (m : Int) p = true) (hl : l.length ≤ 200) : enoughF (m : Int) (l.map (renP m r)) = 0 ↔ enoughF (m : Int) l = 0 := by
  have hv2 : ∀ p ∈ l.map (renP m r), validB (m : Int) p = true := fun p hp => by
    obtain ⟨q, hq, rfl⟩ := List.mem_map.1 hp
    exact (ren_valid hm hr (hv q hq)).1
  rw [enoughF_iff h1 hm l hv hl, enoughF_iff h1 hm _ hv2 (by simpa using hl)]
  have e : (l.map (renP m r)).map nP = (l.map nP).map fun c => ((c.2 + r) % m, (c.1 + r) % m) := by
    rw [List.map_map, List.map_map]
    refine List.map_congr_left fun p hp => ?_
    exact (ren_valid hm hr (hv p hp)).2
  have e2 : ((l.map nP).map fun c : C => ((c.2 + r) % m, (c.1 + r) % m)).map (fun c => ((c.2 + (m - r)) % m, (c.1 + (m - r)) % m)) = l.map nP := by
    rw [List.map_map]
    have := fun c hc => inside_nP hv c hc
    conv => rhs; rw [← List.map_id (l.map nP)]
    refine List.map_congr_left fun c hc => ?_
    have hc := inside_nP hv c hc
    rw [List.mem_range, List.mem_range] at hc
    show (((c.1 + r) % m + (m - r)) % m, ((c.2 + r) % m + (m - r)) % m) = c
    rw [mod_back hr hc.1, mod_back hr hc.2]
  rw [e]
  constructor
  · intro h x hx y hy
    have hx' := List.mem_range.1 hx
    have hy' := List.mem_range.1 hy
    have := r_swap (fun z => (z + (m - r)) % m) (h ((x + r) % m) (List.mem_range.2 (Nat.mod_lt _ (by omega))) ((y + r) % m) (List.mem_range.2 (Nat.mod_lt _ (by omega))))
    rw [e2, mod_back hr hx', mod_back hr hy'] at this
    exact this
  · intro h x hx y hy
    have hx' := List.mem_range.1 hx
    have hy' := List.mem_range.1 hy
    -- who comes to x and y
    have pre : ∀ z, z < m → ∃ w, w < m ∧ (w + r) % m = z := fun z hz => by
      refine ⟨(z + (m - r)) % m, Nat.mod_lt _ (by omega), ?_⟩
      have h1 : (z + (m - r)) % m = if z + (m - r) < m then z + (m - r) else z + (m - r) - m := by
        split
        · exact Nat.mod_eq_of_lt (by omega)
        · rw [Nat.mod_eq_sub_mod (by omega), Nat.mod_eq_of_lt (by omega)]
      rw [h1]
      split
      · rw [Nat.mod_eq_sub_mod (by omega), Nat.mod_eq_of_lt (by omega)]; omega
      · rw [Nat.mod_eq_of_lt (by omega)]; omega
    obtain ⟨a, ha, rfl⟩ := pre x hx'
    obtain ⟨b, hb, rfl⟩ := pre y hy'
    exact r_swap (fun z => (z + r) % m) (h a (List.mem_range.2 ha) b (List.mem_range.2 hb))
/-- No calls that are enough are fewer than Fewest says. -/
theorem enough_fewest {m : Nat} (h1 : 1 ≤ m) (hm : m ≤ 20) (l : List (Int × Int)) (hv : ∀ p ∈ l, validB (m : Int) p = true) (hl : l.length ≤ 200) (h : enoughF (m : Int) l = 0) : ¬ ((l.length : Int) < fewestN (m : Int)) := by
  have := enough_calls m (List.range m) (l.map nP) (by simp) List.nodup_range (inside_nP hv) ((enoughF_iff h1 hm l hv hl).1 h)
  rw [List.length_map] at this
  have e : fewestN (m : Int) = (fewest m : Int) := by
    unfold fewestN fewest
    by_cases h4 : m < 4
    · have : m = 1 ∨ m = 2 ∨ m = 3 := by omega
      rcases this with rfl | rfl | rfl <;> rfl
    · rw [if_neg (by omega), if_neg h4]; omega
  omega
/-- A further call takes no knowledge away; everyone knows something. -/
theorem rRow_mono {m j : Nat} {F G : List Bool} : ∀ (d x : Nat) (r s : List Int), (∀ y, x ≤ y → y < x + d → bitAt F (j * m + y) = true → bitAt G (j * m + y) = true) → r.length ≤ s.length → (rRow m j F x d r).length ≤ (rRow m j G x d s).length
  | 0, _, _, _, _, h => h
  | d + 1, x, r, s, hb, h => by
    rw [rRow, rRow]
    refine rRow_mono d (x + 1) _ _ (fun y h1 h2 => hb y (by omega) (by omega)) ?_
    have := hb x (Nat.le_refl _) (by omega)
    cases e : bitAt F (j * m + x) with
    | true =>
      rw [this e]
      simp only [if_true, List.length_append, List.length_singleton]; omega
    | false =>
      simp only [Bool.false_eq_true, if_false]
      split
      · simp only [List.length_append, List.length_singleton]; omega
      · exact h
theorem rRow_ge (m j : Nat) (F : List Bool) : ∀ (d x : Nat) (r : List Int), r.length ≤ (rRow m j F x d r).length
  | 0, _, _ => Nat.le_refl _
  | d + 1, x, r => by
    rw [rRow]
    refine Nat.le_trans ?_ (rRow_ge m j F d (x + 1) _)
    split
    · simp
    · exact Nat.le_refl _
theorem rRow_pos {m j : Nat} {F : List Bool} : ∀ (d x : Nat) (r : List Int) (y : Nat), x ≤ y → y < x + d → bitAt F (j * m + y) = true → 1 ≤ (rRow m j F x d r).length
  | 0, x, r, y, h1, h2, _ => by omega
  | d + 1, x, r, y, h1, h2, hb => by
    rw [rRow]
    by_cases e : x = y
    · subst e
      rw [if_pos hb]
      have := rRow_ge m j F d (x + 1) (r ++ [(x : Int)])
      simp at this; omega
    · exact rRow_pos d (x + 1) _ y (by omega) (by omega) hb
theorem rRows_get (m : Nat) (F : List Bool) : ∀ (d j : Nat) (L : List (List Int)) (i : Nat), j ≤ i → i < j + d → L.length = j → (rRows m F j d L)[i]? = some (rRow m i F 0 m []) := by
  have keep : ∀ (d j : Nat) (L : List (List Int)) (i : Nat), i < L.length → (rRows m F j d L)[i]? = L[i]? := by
    intro d
    induction d with
    | zero => intro j L i h; rfl
    | succ d ih =>
      intro j L i h
      rw [rRows, ih _ _ _ (by simp; omega), List.getElem?_append_left h]
  intro d
  induction d with
  | zero => intro j L i h1 h2; omega
  | succ d ih =>
    intro j L i h1 h2 hL
    rw [rRows]
    by_cases e : i = j
    · subst e
      rw [keep _ _ _ _ (by simp; omega), List.getElem?_append_right (by omega), hL, Nat.sub_self]; rfl
    · exact ih (j + 1) _ i (by omega) (by omega) (by simp [hL])
theorem known_rows {m : Nat} (hm : m ≤ 20) (l : List (Int × Int)) (hv : ∀ p ∈ l, validB (m : Int) p = true) (k : Nat) {i : Nat} (hi : i < m) : ∃ a b, (rKnown m (l.take k))[i]? = some b ∧ (rKnown m l)[i]? = some a ∧ b.length ≤ a.length ∧ 1 ≤ b.length := by
  have hvk : ∀ p ∈ l.take k, validB (m : Int) p = true := fun p hp => hv p (List.mem_of_mem_take hp)
  refine ⟨_, _, rRows_get m _ m 0 [] i (Nat.zero_le _) (by omega) rfl, rRows_get m _ m 0 [] i (Nat.zero_le _) (by omega) rfl, ?_, ?_⟩
  · refine rRow_mono m 0 [] [] (fun y _ hy h => ?_) (Nat.le_refl _)
    have hy' : y < m := by omega
    refine (bit_known hm l hv hi hy').2 ?_
    have := (bit_known hm _ hvk hi hy').1 h
    rw [← List.take_append_drop k l, List.map_append, r_append]
    exact ⟨i, this, r_refl _ _⟩
  · exact rRow_pos m 0 [] i (Nat.zero_le _) (by omega) ((bit_known hm _ hvk hi hi).2 (r_refl _ _))
theorem talk_valid {m : Nat} (h0 : 0 < m) (hm : m ≤ 20) : ∀ (l acc : List (Int × Int)), (∀ p ∈ acc, validB (m : Int) p = true) → ∀ p ∈ talkGo m l acc, validB (m : Int) p = true
  | [], acc, h => h
  | q :: l, acc, h => by
    rw [talkGo]
    split
    · exact talk_valid h0 hm l acc h
    · rename_i hne
      refine talk_valid h0 hm l _ fun p hp => ?_
      rcases List.mem_append.1 hp with hp | hp
      · exact h p hp
      · rw [List.mem_singleton] at hp
        subst hp
        have b1 := modW_bounds q.1 (m : Int) (by omega) (by omega)
        have b2 := modW_bounds q.2 (m : Int) (by omega) (by omega)
        rw [validB, decide_eq_true_eq]
        exact ⟨⟨b1.1, b1.2⟩, ⟨b2.1, b2.2⟩, hne⟩
theorem talk_len (n : Int) : ∀ (l acc : List (Int × Int)), (talkGo n l acc).length ≤ acc.length + l.length
  | [], acc => by simp [talkGo]
  | q :: l, acc => by
    rw [talkGo]
    split
    · have := talk_len n l acc; simp; omega
    · have := talk_len n l (acc ++ [(modW q.1 n, modW q.2 n)]); simp at this ⊢; omega
theorem talked_valid {m : Nat} (h0 : 0 < m) (hm : m ≤ 20) (l : List (Int × Int)) : (∀ p ∈ talkedL m l, validB (m : Int) p = true) ∧ (talkedL m l).length ≤ 100 := by
  refine ⟨talk_valid h0 hm _ [] (by simp), ?_⟩
  have := talk_len m (l.take 100) []
  rw [List.length_take] at this
  simp at this
  unfold talkedL; omega
end Go.Proofs.Ytmhfkhlamnapdaa
