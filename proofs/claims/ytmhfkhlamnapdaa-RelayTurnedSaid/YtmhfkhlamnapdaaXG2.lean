/- A part of the proof: XG2. -/
import Derived.Test.YtmhfkhlamnapdaaXG
set_option linter.unusedVariables false
set_option linter.unusedSimpArgs false
namespace Go.Gossip
theorem countP_strict {α : Type} {p q : α → Bool} : ∀ {K : List α} {x : α}, x ∈ K → q x = true → p x = false → (∀ y ∈ K, p y = true → q y = true) → K.countP p + 1 ≤ K.countP q
  | z :: K, x, hx, hq, hp, h => by
    rw [List.countP_cons, List.countP_cons]
    have hz := h z (by simp)
    have hm : K.countP p ≤ K.countP q := List.countP_mono_left fun y hy => h y (by simp [hy])
    rcases List.mem_cons.1 hx with rfl | hx
    · rw [hq, hp]; simp; omega
    · have := countP_strict hx hq hp (fun y hy => h y (by simp [hy]))
      cases e : p z with
      | true => rw [hz e]; simp; omega
      | false => simp; omega
theorem countP_two {p q : Nat → Bool} {K : List Nat} {i j : Nat} (hi : i ∈ K) (hj : j ∈ K) (hij : i ≠ j) (qi : q i = true) (qj : q j = true) (pi : p i = false) (pj : p j = false) (h : ∀ y ∈ K, p y = true → q y = true) : K.countP p + 2 ≤ K.countP q := by
  have h1 := countP_strict (p := p) (q := fun y => p y || y == i) hi (by simp) pi (fun y _ hy => by simp [hy])
  have h2 := countP_strict (p := fun y => p y || y == i) (q := q) hj qj (by simp [pj]; exact fun e => hij e.symm) (fun y hy hp => by
    rw [Bool.or_eq_true] at hp
    rcases hp with hp | hp
    · exact h y hy hp
    · rw [beq_iff_eq] at hp; rw [hp]; exact qi)
  omega
theorem cnt_step {p q : Nat → Bool} (b : Nat) : ∀ {P : List Nat}, P.Nodup → (∀ y ∈ P, q y = true → p y = true ∨ y = b) → P.countP q ≤ P.countP p + 1
  | [], _, _ => by simp
  | x :: P, hP, h => by
    rw [List.nodup_cons] at hP
    rw [List.countP_cons, List.countP_cons]
    have hx := h x (by simp)
    by_cases e : x = b
    · have hm : P.countP q ≤ P.countP p := List.countP_mono_left fun y hy hq => by
        rcases h y (by simp [hy]) hq with h1 | h1
        · exact h1
        · exact absurd (by rw [e, ← h1]; exact hy) hP.1
      split <;> split <;> omega
    · have := cnt_step b hP.2 (fun y hy => h y (by simp [hy]))
      cases eq : q x with
      | true =>
        have : p x = true := (hx eq).resolve_right e
        rw [this]; simp; omega
      | false => simp; split <;> omega
theorem cp_ie (o u : Nat → Bool) : ∀ K : List Nat, K.countP o + K.countP u = K.countP (fun i => o i || u i) + K.countP (fun i => o i && u i)
  | [] => by simp
  | i :: K => by
    have := cp_ie o u K
    rw [List.countP_cons, List.countP_cons, List.countP_cons, List.countP_cons]
    cases o i <;> cases u i <;> simp <;> omega

def at_ (l : List C) (i : Nat) : C := l.getD i (0, 0)
theorem at_eq {l : List C} {i : Nat} (h : i < l.length) : at_ l i = l[i] := by simp [at_, List.getD, List.getElem?_eq_getElem h]
theorem take_step {l : List C} {i : Nat} (h : i < l.length) : l.take (i + 1) = l.take i ++ [at_ l i] := by
  rw [List.take_add_one, List.getElem?_eq_getElem h, at_eq h]; rfl
theorem drop_step {l : List C} {i : Nat} (h : i < l.length) : l.drop i = at_ l i :: l.drop (i + 1) := by
  rw [List.drop_eq_getElem_cons h, at_eq h]
theorem at_mem {l : List C} {i : Nat} (h : i < l.length) : at_ l i ∈ l := by
  rw [at_eq h]; exact List.getElem_mem h
theorem mem_take_at {l : List C} {i : Nat} {c : C} (h : c ∈ l.take i) : ∃ j, j < i ∧ j < l.length ∧ c = at_ l j := by
  obtain ⟨j, hj, rfl⟩ := List.getElem_of_mem h
  rw [List.length_take] at hj
  refine ⟨j, by omega, by omega, ?_⟩
  rw [List.getElem_take, at_eq (by omega)]
theorem mem_drop_at {l : List C} {i : Nat} {c : C} (h : c ∈ l.drop i) : ∃ j, i ≤ j ∧ j < l.length ∧ c = at_ l j := by
  obtain ⟨j, hj, rfl⟩ := List.getElem_of_mem h
  rw [List.length_drop] at hj
  refine ⟨i + j, by omega, by omega, ?_⟩
  rw [List.getElem_drop, at_eq (by omega)]

def fw (l : List C) (A i : Nat) : Bool := rb (l.take i) A (at_ l i).1 != rb (l.take i) A (at_ l i).2
def bw (l : List C) (A i : Nat) : Bool := rb (l.drop (i + 1)) (at_ l i).1 A != rb (l.drop (i + 1)) (at_ l i).2 A
theorem range_mem {i n : Nat} : i ∈ List.range n ↔ i < n := List.mem_range
theorem fw_count {P : List Nat} {l : List C} {A : Nat} (hP : P.Nodup) : ∀ k, k ≤ l.length → P.countP (fun y => rb (l.take k) A y) ≤ 1 + (List.range k).countP (fw l A)
  | 0, _ => by
    have := cnt_step (p := fun _ => false) (q := fun y => rb (l.take 0) A y) A hP (fun y _ hy => .inr (by rw [List.take_zero] at hy; exact (r_nil.1 hy).symm))
    simp only [List.countP_false] at this
    simp at this ⊢; omega
  | k + 1, hk => by
    have ih := fw_count (l := l) (A := A) hP k (by omega)
    rw [List.range_succ, List.countP_append, List.countP_singleton]
    cases e : fw l A k with
    | true =>
      have : P.countP (fun y => rb (l.take (k + 1)) A y) ≤ P.countP (fun y => rb (l.take k) A y) + 1 := by
        rw [take_step (by omega)]
        rw [fw] at e
        by_cases h1 : R (l.take k) A (at_ l k).1
        · refine cnt_step (at_ l k).2 hP fun y _ hy => ?_
          rcases r_snoc.1 hy with h | ⟨_, h⟩ | ⟨_, h⟩
          · exact .inl h
          · exact .inr h.symm
          · exact .inl (by rw [← h]; exact h1)
        · refine cnt_step (at_ l k).1 hP fun y _ hy => ?_
          rcases r_snoc.1 hy with h | ⟨h, _⟩ | ⟨_, h⟩
          · exact .inl h
          · exact absurd h h1
          · exact .inr h.symm
      simp; omega
    | false =>
      have : P.countP (fun y => rb (l.take (k + 1)) A y) ≤ P.countP (fun y => rb (l.take k) A y) := by
        rw [take_step (by omega)]
        have e2 : rb (l.take k) A (at_ l k).1 = rb (l.take k) A (at_ l k).2 := by simpa [fw] using e
        refine List.countP_mono_left fun y _ hy => ?_
        rcases r_snoc.1 hy with h | ⟨h, h2⟩ | ⟨h, h2⟩
        · exact h
        · rw [← h2, ← e2]; exact h
        · rw [← h2, e2]; exact h
      simp; omega
theorem bw_count {P : List Nat} {l : List C} {A : Nat} (hP : P.Nodup) : ∀ d k, k + d = l.length → P.countP (fun y => rb (l.drop k) y A) + (List.range k).countP (bw l A) ≤ 1 + (List.range l.length).countP (bw l A)
  | 0, k, hk => by
    have := cnt_step (p := fun _ => false) (q := fun y => rb (l.drop k) y A) A hP (fun y _ hy => .inr (by rw [List.drop_eq_nil_of_le (by omega)] at hy; exact r_nil.1 hy))
    simp only [List.countP_false] at this
    rw [show k = l.length by omega] at this ⊢
    simp at this ⊢; omega
  | d + 1, k, hk => by
    have ih := bw_count (l := l) (A := A) hP d (k + 1) (by omega)
    rw [List.range_succ, List.countP_append, List.countP_singleton] at ih
    have hkl : k < l.length := by omega
    cases e : bw l A k with
    | true =>
      have : P.countP (fun y => rb (l.drop k) y A) ≤ P.countP (fun y => rb (l.drop (k + 1)) y A) + 1 := by
        rw [drop_step hkl]
        by_cases h1 : R (l.drop (k + 1)) (at_ l k).1 A
        · refine cnt_step (at_ l k).2 hP fun y _ hy => ?_
          rcases r_cons.1 hy with h | ⟨h, _⟩ | ⟨h, _⟩
          · exact .inl h
          · exact .inl (by rw [h]; exact h1)
          · exact .inr h
        · refine cnt_step (at_ l k).1 hP fun y _ hy => ?_
          rcases r_cons.1 hy with h | ⟨h, _⟩ | ⟨_, h⟩
          · exact .inl h
          · exact .inr h
          · exact absurd h h1
      rw [e] at ih
      simp at ih; omega
    | false =>
      have : P.countP (fun y => rb (l.drop k) y A) ≤ P.countP (fun y => rb (l.drop (k + 1)) y A) := by
        rw [drop_step hkl]
        have e2 : rb (l.drop (k + 1)) (at_ l k).1 A = rb (l.drop (k + 1)) (at_ l k).2 A := by simpa [bw] using e
        refine List.countP_mono_left fun y _ hy => ?_
        rcases r_cons.1 hy with h | ⟨h, h2⟩ | ⟨h, h2⟩
        · exact h
        · rw [h]; exact e2.trans h2
        · rw [h]; exact e2.symm.trans h2
      rw [e] at ih
      simp at ih; omega
def deg (l : List C) (A : Nat) : Nat := (List.range l.length).countP fun i => inv A (at_ l i)
theorem both_inv {l : List C} {A i : Nat} (hn : Noho l) (hi : i < l.length) (h1 : fw l A i = true) (h2 : bw l A i = true) : inv A (at_ l i) = true := by
  cases e : inv A (at_ l i) with
  | true => rfl
  | false =>
    exfalso
    have e2 := inv_false.1 e
    have hl : l = l.take (i + 1) ++ l.drop (i + 1) := (List.take_append_drop _ _).symm
    have k1 : R (l.take (i + 1)) A (at_ l i).1 ∧ R (l.take (i + 1)) A (at_ l i).2 := by
      rw [take_step hi]
      by_cases h : R (l.take i) A (at_ l i).1
      · exact ⟨r_snoc.2 (.inl h), r_snoc.2 (.inr (.inl ⟨h, rfl⟩))⟩
      · have : R (l.take i) A (at_ l i).2 := by
          rw [fw, Bool.eq_false_iff.2 h] at h1
          simpa using h1
        exact ⟨r_snoc.2 (.inr (.inr ⟨this, rfl⟩)), r_snoc.2 (.inl this)⟩
    by_cases h : R (l.drop (i + 1)) (at_ l i).1 A
    · exact hn _ _ A _ hl e2.1 k1.1 h
    · have : R (l.drop (i + 1)) (at_ l i).2 A := by
        rw [bw, Bool.eq_false_iff.2 h] at h2
        simpa using h2
      exact hn _ _ A _ hl e2.2 k1.2 this
theorem fw_all {P : List Nat} {l : List C} {A : Nat} (hP : P.Nodup) (hc : Complete P l) (hA : A ∈ P) : P.length ≤ 1 + (List.range l.length).countP (fw l A) := by
  have := fw_count (l := l) (A := A) hP l.length (Nat.le_refl _)
  rw [List.take_length, List.countP_eq_length.2 (fun y hy => hc A hA y hy)] at this
  exact this
theorem bw_all {P : List Nat} {l : List C} {A : Nat} (hP : P.Nodup) (hc : Complete P l) (hA : A ∈ P) : P.length ≤ 1 + (List.range l.length).countP (bw l A) := by
  have := bw_count (l := l) (A := A) hP l.length 0 (by omega)
  rw [List.drop_zero, List.countP_eq_length.2 (fun y hy => hc y hy A hA)] at this
  simpa using this
theorem deg_bound {P : List Nat} {l : List C} {A : Nat} (hP : P.Nodup) (hc : Complete P l) (hn : Noho l) (hA : A ∈ P) : 2 * P.length ≤ 2 + (List.range l.length).countP (fun i => fw l A i || bw l A i) + deg l A := by
  have h1 := fw_all hP hc hA
  have h2 := bw_all hP hc hA
  have h3 := cp_ie (fw l A) (bw l A) (List.range l.length)
  have h4 : (List.range l.length).countP (fun i => fw l A i && bw l A i) ≤ deg l A := List.countP_mono_left fun i hi h => by
    rw [Bool.and_eq_true] at h
    exact both_inv hn (range_mem.1 hi) h.1 h.2
  omega

theorem sum_le {f : Nat → Nat} {k : Nat} : ∀ {P : List Nat}, (∀ v ∈ P, k ≤ f v) → k * P.length ≤ (P.map f).sum
  | [], _ => by simp
  | v :: P, h => by
    have := sum_le (f := f) (k := k) (P := P) fun v hv => h v (by simp [hv])
    have := h v (by simp)
    simp only [List.length_cons, List.map_cons, List.sum_cons, Nat.mul_add]; omega
theorem sum_add {f g : Nat → Nat} : ∀ {P : List Nat}, (P.map fun v => f v + g v).sum = (P.map f).sum + (P.map g).sum
  | [] => by simp
  | v :: P => by
    have := sum_add (f := f) (g := g) (P := P)
    simp only [List.map_cons, List.sum_cons]; omega
theorem sum_mono {f g : Nat → Nat} : ∀ {P : List Nat}, (∀ v ∈ P, f v ≤ g v) → (P.map f).sum ≤ (P.map g).sum
  | [], _ => by simp
  | v :: P, h => by
    have := sum_mono (f := f) (g := g) (P := P) fun v hv => h v (by simp [hv])
    have := h v (by simp)
    simp only [List.map_cons, List.sum_cons]; omega
theorem sum_ind {p : Nat → Bool} : ∀ {P : List Nat}, (P.map fun v => if p v = true then 1 else 0).sum = P.countP p
  | [] => by simp
  | v :: P => by
    have := sum_ind (p := p) (P := P)
    rw [List.countP_cons]
    simp only [List.map_cons, List.sum_cons]; omega
theorem swap {P : List Nat} (f : Nat → Nat → Bool) : ∀ K : List Nat, (P.map fun v => K.countP (f v)).sum = (K.map fun i => P.countP (f · i)).sum
  | [] => by
    simp only [List.countP_nil, List.map_nil, List.sum_nil]
    have := sum_ind (p := fun _ => false) (P := P)
    simpa using this
  | i :: K => by
    rw [List.map_cons, List.sum_cons, ← swap f K, ← sum_ind (p := (f · i)), Nat.add_comm, ← sum_add]
    congr 1
    refine List.map_congr_left fun v _ => ?_
    rw [List.countP_cons]
theorem pair_count {a b : Nat} (hab : a ≠ b) : ∀ {P : List Nat}, P.Nodup → a ∈ P → b ∈ P → P.countP (fun v => a == v || b == v) = 2 := by
  have one : ∀ {a : Nat} {P : List Nat}, P.Nodup → a ∈ P → P.countP (fun v => a == v) = 1 := by
    intro a P hP ha
    have h1 : P.countP (fun v => a == v) = P.count a := by
      rw [List.count_eq_countP]
      refine List.countP_congr fun v _ => ?_
      rw [beq_iff_eq, beq_iff_eq]; exact eq_comm
    rw [h1]
    exact (List.Nodup.count hP).trans (if_pos ha)
  intro P hP ha hb
  have h := cp_ie (fun v => a == v) (fun v => b == v) P
  rw [one hP ha, one hP hb] at h
  have h0 : P.countP (fun i => a == i && b == i) = 0 := by
    rw [List.countP_eq_zero]
    intro v _ hv
    simp at hv
    exact hab (hv.1.trans hv.2.symm)
  rw [h0] at h
  exact h.symm
/-- Each call has two ends. -/
theorem two_ends {P : List Nat} {l : List C} (hP : P.Nodup) (hi : Inside P l) (hs : ∀ c ∈ l, c.1 ≠ c.2) (s : Nat → Bool) : (P.map fun v => (List.range l.length).countP fun i => s i && inv v (at_ l i)).sum = 2 * (List.range l.length).countP s := by
  rw [swap (fun v i => s i && inv v (at_ l i))]
  have : ∀ K : List Nat, (∀ i ∈ K, i < l.length) → (K.map fun i => P.countP fun v => s i && inv v (at_ l i)).sum = 2 * K.countP s := by
    intro K
    induction K with
    | nil => intro _; simp
    | cons i K ih =>
      intro h
      have hil := at_mem (h i (by simp))
      rw [List.map_cons, List.sum_cons, ih (fun j hj => h j (by simp [hj])), List.countP_cons]
      cases s i with
      | true =>
        have := pair_count (hs _ hil) hP (hi _ hil).1 (hi _ hil).2
        simp only [Bool.true_and, inv, this, if_true]; omega
      | false => simp
  exact this _ fun i hi => range_mem.1 hi
end Go.Gossip
