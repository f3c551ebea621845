/- A part of the proof: XG3. -/
import Derived.Test.YtmhfkhlamnapdaaXG2
set_option linter.unusedVariables false
set_option linter.unusedSimpArgs false
namespace Go.Gossip
def touch (c d : C) : Bool := inv c.1 d || inv c.2 d
def early (l : List C) (i : Nat) : Bool := (List.range i).any fun j => touch (at_ l i) (at_ l j)
def late (l : List C) (i : Nat) : Bool := (List.range l.length).any fun j => decide (i < j) && touch (at_ l i) (at_ l j)
def mid (l : List C) (i : Nat) : Bool := early l i && late l i
theorem early_iff {l : List C} {i : Nat} : early l i = true ↔ ∃ j, j < i ∧ (inv (at_ l i).1 (at_ l j) = true ∨ inv (at_ l i).2 (at_ l j) = true) := by
  simp [early, touch]
theorem late_iff {l : List C} {i : Nat} : late l i = true ↔ ∃ j, j < l.length ∧ i < j ∧ (inv (at_ l i).1 (at_ l j) = true ∨ inv (at_ l i).2 (at_ l j) = true) := by
  simp [late, touch]
theorem not_early {l : List C} {i j : Nat} (h : early l i = false) (hj : j < i) : inv (at_ l i).1 (at_ l j) = false ∧ inv (at_ l i).2 (at_ l j) = false := by
  have : ∀ b, ¬ b = true → b = false := fun b => by cases b <;> simp
  constructor
  · exact this _ fun e => by rw [early_iff.2 ⟨j, hj, .inl e⟩] at h; cases h
  · exact this _ fun e => by rw [early_iff.2 ⟨j, hj, .inr e⟩] at h; cases h
theorem not_late {l : List C} {i j : Nat} (h : late l i = false) (hj : i < j) (hl : j < l.length) : inv (at_ l i).1 (at_ l j) = false ∧ inv (at_ l i).2 (at_ l j) = false := by
  have : ∀ b, ¬ b = true → b = false := fun b => by cases b <;> simp
  constructor
  · exact this _ fun e => by rw [late_iff.2 ⟨j, hl, hj, .inl e⟩] at h; cases h
  · exact this _ fun e => by rw [late_iff.2 ⟨j, hl, hj, .inr e⟩] at h; cases h

theorem r_sym {c : C} {l : List C} {x : Nat} : R (c :: l) c.1 x ↔ R (c :: l) c.2 x := by
  rw [r_cons, r_cons]
  constructor
  · rintro (h | ⟨_, h⟩ | ⟨_, h⟩)
    · exact .inr (.inr ⟨rfl, h⟩)
    · exact .inl h
    · exact .inr (.inr ⟨rfl, h⟩)
  · rintro (h | ⟨_, h⟩ | ⟨_, h⟩)
    · exact .inr (.inl ⟨rfl, h⟩)
    · exact .inr (.inl ⟨rfl, h⟩)
    · exact .inl h
theorem r_sym' {c : C} {l : List C} {x : Nat} : R (l ++ [c]) x c.1 ↔ R (l ++ [c]) x c.2 := by
  rw [r_snoc, r_snoc]
  constructor
  · rintro (h | ⟨h, e⟩ | ⟨h, _⟩)
    · exact .inr (.inl ⟨h, rfl⟩)
    · exact .inr (.inl ⟨h, rfl⟩)
    · exact .inl h
  · rintro (h | ⟨h, _⟩ | ⟨h, e⟩)
    · exact .inr (.inr ⟨h, rfl⟩)
    · exact .inl h
    · exact .inr (.inr ⟨h, rfl⟩)
theorem call_reach {l : List C} {c : C} (hc : c ∈ l) : R l c.1 c.2 ∧ R l c.2 c.1 := by
  induction l with
  | nil => cases hc
  | cons d l ih =>
    rcases List.mem_cons.1 hc with rfl | hc
    · exact ⟨r_cons.2 (.inr (.inl ⟨rfl, r_refl _ _⟩)), r_cons.2 (.inr (.inr ⟨rfl, r_refl _ _⟩))⟩
    · exact ⟨r_cons.2 (.inl (ih hc).1), r_cons.2 (.inl (ih hc).2)⟩
theorem mem_take_iff {l : List C} {i j : Nat} (hj : j < i) (hl : j < l.length) : at_ l j ∈ l.take i := by
  rw [at_eq hl]
  rw [List.mem_take_iff_getElem]
  exact ⟨j, by omega, rfl⟩
theorem mem_drop_iff {l : List C} {i j : Nat} (hj : i ≤ j) (hl : j < l.length) : at_ l j ∈ l.drop i := by
  rw [at_eq hl]
  rw [List.mem_drop_iff_getElem]
  exact ⟨j - i, by omega, by congr 1; omega⟩
/-- The other end. -/
def oth (v : Nat) (c : C) : Nat := if c.1 = v then c.2 else c.1
theorem oth_reach {l : List C} {c : C} {v : Nat} (hv : inv v c = true) (hc : c ∈ l) : R l v (oth v c) ∧ R l (oth v c) v := by
  have h := call_reach hc
  unfold oth
  split
  · rename_i e; rw [← e]; exact h
  · rename_i e
    have e2 : c.2 = v := (inv_iff.1 hv).resolve_left e
    rw [← e2]; exact ⟨h.2, h.1⟩
theorem oth_ne {c : C} {v : Nat} (hs : c.1 ≠ c.2) (hv : inv v c = true) : oth v c ≠ v := by
  unfold oth
  split
  · rename_i e; rw [← e]; exact fun h => hs h.symm
  · rename_i e; exact e

/-- The first call of someone is the first one of both. -/
theorem first_both {P : List Nat} {l : List C} (hi : Inside P l) (hs : ∀ c ∈ l, c.1 ≠ c.2) (hc : Complete P l) (hn : Noho l) {v t : Nat} (ht : t < l.length) (hv : inv v (at_ l t) = true) (hf : ∀ j, j < t → inv v (at_ l j) = false) : early l t = false := by
  cases e : early l t with
  | false => rfl
  | true =>
    exfalso
    obtain ⟨j, hj, hw⟩ := early_iff.1 e
    have hvP : v ∈ P := by rcases inv_iff.1 hv with e | e <;> rw [← e]; exact (hi _ (at_mem ht)).1; exact (hi _ (at_mem ht)).2
    -- the partner
    obtain ⟨w, hw1, hw2⟩ : ∃ w, inv w (at_ l j) = true ∧ (∀ x, R (l.drop t) v x → R (l.drop t) w x) := by
      rw [drop_step ht]
      have s := fun x => r_sym (c := at_ l t) (l := l.drop (t + 1)) (x := x)
      have hv' := inv_iff.1 hv
      rcases hw with hw | hw
      · exact ⟨_, hw, fun x h => by
          rcases hv' with e | e
          · rw [e]; exact h
          · rw [← e] at h; exact (s x).2 h⟩
      · exact ⟨_, hw, fun x h => by
          rcases hv' with e | e
          · rw [← e] at h; exact (s x).1 h
          · rw [e]; exact h⟩
    have hjl : j < l.length := by omega
    have huP : oth w (at_ l j) ∈ P := by
      have := hi _ (at_mem hjl)
      unfold oth; split
      · exact this.2
      · exact this.1
    have r1 : R (l.take t) (oth w (at_ l j)) w := (oth_reach hw1 (mem_take_iff hj hjl)).2
    have r2 := hc v hvP _ huP
    obtain ⟨z, z1, z2⟩ := r_append.1 (show R (l.take t ++ l.drop t) v (oth w (at_ l j)) by rw [List.take_append_drop]; exact r2)
    have : v = z := r_noinv_l (fun c hc => by
      obtain ⟨i, h1, _, rfl⟩ := mem_take_at hc
      exact hf i h1) z1
    rw [← this] at z2
    exact hn _ _ (oth w (at_ l j)) w (List.take_append_drop t l).symm (fun e => oth_ne (hs _ (at_mem hjl)) hw1 e.symm) r1 (hw2 _ z2)
/-- The last call of someone is the last one of both. -/
theorem last_both {P : List Nat} {l : List C} (hi : Inside P l) (hs : ∀ c ∈ l, c.1 ≠ c.2) (hc : Complete P l) (hn : Noho l) {v t : Nat} (ht : t < l.length) (hv : inv v (at_ l t) = true) (hf : ∀ j, t < j → j < l.length → inv v (at_ l j) = false) : late l t = false := by
  cases e : late l t with
  | false => rfl
  | true =>
    exfalso
    obtain ⟨j, hjl, hj, hw⟩ := late_iff.1 e
    have hvP : v ∈ P := by rcases inv_iff.1 hv with e | e <;> rw [← e]; exact (hi _ (at_mem ht)).1; exact (hi _ (at_mem ht)).2
    obtain ⟨w, hw1, hw2⟩ : ∃ w, inv w (at_ l j) = true ∧ (∀ x, R (l.take (t + 1)) x v → R (l.take (t + 1)) x w) := by
      rw [take_step ht]
      have s := fun x => r_sym' (c := at_ l t) (l := l.take t) (x := x)
      have hv' := inv_iff.1 hv
      rcases hw with hw | hw
      · exact ⟨_, hw, fun x h => by
          rcases hv' with e | e
          · rw [e]; exact h
          · rw [← e] at h; exact (s x).2 h⟩
      · exact ⟨_, hw, fun x h => by
          rcases hv' with e | e
          · rw [← e] at h; exact (s x).1 h
          · rw [e]; exact h⟩
    have huP : oth w (at_ l j) ∈ P := by
      have := hi _ (at_mem hjl)
      unfold oth; split
      · exact this.2
      · exact this.1
    have r1 : R (l.drop (t + 1)) w (oth w (at_ l j)) := (oth_reach hw1 (mem_drop_iff hj hjl)).1
    have r2 := hc _ huP v hvP
    obtain ⟨z, z1, z2⟩ := r_append.1 (show R (l.take (t + 1) ++ l.drop (t + 1)) (oth w (at_ l j)) v by rw [List.take_append_drop]; exact r2)
    have : z = v := r_noinv_r (fun c hc => by
      obtain ⟨i, h1, h2, rfl⟩ := mem_drop_at hc
      exact hf i h1 h2) z2
    rw [this] at z1
    exact hn _ _ (oth w (at_ l j)) w (List.take_append_drop (t + 1) l).symm (fun e => oth_ne (hs _ (at_mem hjl)) hw1 e.symm) (hw2 _ z1) r1

theorem find_first {p : Nat → Bool} : ∀ n, 1 ≤ (List.range n).countP p → ∃ e, e < n ∧ p e = true ∧ ∀ j, j < e → p j = false
  | 0, h => by simp at h
  | n + 1, h => by
    by_cases h1 : 1 ≤ (List.range n).countP p
    · obtain ⟨e, h2, h3⟩ := find_first n h1
      exact ⟨e, by omega, h3⟩
    · rw [List.range_succ, List.countP_append, List.countP_singleton] at h
      have h0 : (List.range n).countP p = 0 := by omega
      rw [List.countP_eq_zero] at h0
      refine ⟨n, by omega, ?_, fun j hj => ?_⟩
      · cases e : p n with
        | true => rfl
        | false => rw [e] at h; simp only [Bool.false_eq_true, if_false] at h; omega
      · have := h0 j (range_mem.2 hj); simpa using this
theorem find_last {p : Nat → Bool} : ∀ n, 1 ≤ (List.range n).countP p → ∃ f, f < n ∧ p f = true ∧ (∀ j, f < j → j < n → p j = false) ∧ (List.range f).countP p + 1 = (List.range n).countP p
  | 0, h => by simp at h
  | n + 1, h => by
    rw [List.range_succ, List.countP_append, List.countP_singleton] at h ⊢
    cases e : p n with
    | true => exact ⟨n, by omega, e, fun j h1 h2 => by omega, by simp⟩
    | false =>
      rw [e] at h
      obtain ⟨f, h1, h2, h3, h4⟩ := find_last n (by simpa using h)
      refine ⟨f, by omega, h2, fun j hj hn => ?_, by simpa using h4⟩
      rcases Nat.lt_or_ge j n with h | h
      · exact h3 j hj h
      · rw [show j = n by omega]; exact e
theorem two_calls {l : List C} {v : Nat} (h : 2 ≤ deg l v) : ∃ e f, e < f ∧ f < l.length ∧ inv v (at_ l e) = true ∧ inv v (at_ l f) = true ∧ (∀ j, j < e → inv v (at_ l j) = false) ∧ (∀ j, f < j → j < l.length → inv v (at_ l j) = false) := by
  obtain ⟨f, h1, h2, h3, h4⟩ := find_last (p := fun i => inv v (at_ l i)) l.length (by unfold deg at h; omega)
  obtain ⟨e, h5, h6, h7⟩ := find_first (p := fun i => inv v (at_ l i)) f (by unfold deg at h; omega)
  exact ⟨e, f, h5, h1, h6, h2, h7, h3⟩
theorem mid_call {l : List C} {v : Nat} (h : 3 ≤ deg l v) : ∃ i, i < l.length ∧ inv v (at_ l i) = true ∧ mid l i = true := by
  obtain ⟨f, h1, h2, h3, h4⟩ := find_last (p := fun i => inv v (at_ l i)) l.length (by unfold deg at h; omega)
  obtain ⟨m, h5, h6, h7, h8⟩ := find_last (p := fun i => inv v (at_ l i)) f (by unfold deg at h; omega)
  obtain ⟨e, h9, h10, h11⟩ := find_first (p := fun i => inv v (at_ l i)) m (by unfold deg at h; omega)
  refine ⟨m, by omega, h6, ?_⟩
  rw [mid, Bool.and_eq_true, early_iff, late_iff]
  have hv := inv_iff.1 h6
  refine ⟨⟨e, h9, ?_⟩, ⟨f, h1, h5, ?_⟩⟩
  · rcases hv with hv | hv
    · left; rw [hv]; exact h10
    · right; rw [hv]; exact h10
  · rcases hv with hv | hv
    · left; rw [hv]; exact h2
    · right; rw [hv]; exact h2
theorem mid_deg {P : List Nat} {l : List C} (hi : Inside P l) (hs : ∀ c ∈ l, c.1 ≠ c.2) (hc : Complete P l) (hn : Noho l) {v : Nat} (h : 2 ≤ deg l v) : (List.range l.length).countP (fun i => mid l i && inv v (at_ l i)) + 2 ≤ deg l v := by
  obtain ⟨e, f, h1, h2, h3, h4, h5, h6⟩ := two_calls h
  have e1 := first_both hi hs hc hn (by omega) h3 h5
  have e2 := last_both hi hs hc hn h2 h4 h6
  exact countP_two (i := e) (j := f) (range_mem.2 (by omega)) (range_mem.2 h2) (by omega) h3 h4 (by simp [mid, e1]) (by simp [mid, e2]) (fun y _ hy => by rw [Bool.and_eq_true] at hy; exact hy.2)

/-- What hangs together with A by the calls that g marks: at most one more than these calls. -/
theorem closure (l : List C) (g : Nat → Bool) : ∀ (d : Nat) (S : List Nat), (List.range l.length).countP g ≤ d + (List.range l.length).countP (fun i => g i && (decide ((at_ l i).1 ∈ S) && decide ((at_ l i).2 ∈ S))) →
    S.length ≤ 1 + (List.range l.length).countP (fun i => g i && (decide ((at_ l i).1 ∈ S) && decide ((at_ l i).2 ∈ S))) →
    ∃ T : List Nat, (∀ v ∈ S, v ∈ T) ∧ T.length ≤ 1 + (List.range l.length).countP g ∧ ∀ i, i < l.length → g i = true → ((at_ l i).1 ∈ T ↔ (at_ l i).2 ∈ T) := by
  intro d
  induction d with
  | zero =>
    intro S h1 h2
    have hm : (List.range l.length).countP (fun i => g i && (decide ((at_ l i).1 ∈ S) && decide ((at_ l i).2 ∈ S))) ≤ (List.range l.length).countP g := List.countP_mono_left fun y _ hy => by rw [Bool.and_eq_true] at hy; exact hy.1
    refine ⟨S, fun v hv => hv, by omega, fun i hi hg => ?_⟩
    by_cases hx : ((at_ l i).1 ∈ S ↔ (at_ l i).2 ∈ S)
    · exact hx
    · exfalso
      have := countP_strict (p := fun i => g i && (decide ((at_ l i).1 ∈ S) && decide ((at_ l i).2 ∈ S))) (q := g) (range_mem.2 hi) hg (by
        simp only [hg, Bool.true_and]
        by_cases h3 : (at_ l i).1 ∈ S <;> by_cases h4 : (at_ l i).2 ∈ S <;> simp_all) (fun y _ hy => by rw [Bool.and_eq_true] at hy; exact hy.1)
      omega
  | succ d ih =>
    intro S h1 h2
    by_cases hall : ∀ i, i < l.length → g i = true → ((at_ l i).1 ∈ S ↔ (at_ l i).2 ∈ S)
    · refine ⟨S, fun v hv => hv, ?_, hall⟩
      have : (List.range l.length).countP (fun i => g i && (decide ((at_ l i).1 ∈ S) && decide ((at_ l i).2 ∈ S))) ≤ (List.range l.length).countP g := List.countP_mono_left fun y _ hy => by rw [Bool.and_eq_true] at hy; exact hy.1
      omega
    · obtain ⟨i, hx⟩ := Classical.not_forall.1 hall
      obtain ⟨hi, hx⟩ := Classical.not_imp.1 hx
      obtain ⟨hg, hx⟩ := Classical.not_imp.1 hx
      obtain ⟨v, hv1, hv2⟩ : ∃ v, ((at_ l i).1 ∈ v :: S ∧ (at_ l i).2 ∈ v :: S) ∧ ¬ ((at_ l i).1 ∈ S ∧ (at_ l i).2 ∈ S) := by
        by_cases h3 : (at_ l i).1 ∈ S
        · have h4 : (at_ l i).2 ∉ S := fun h4 => hx ⟨fun _ => h4, fun _ => h3⟩
          exact ⟨_, ⟨List.mem_cons_of_mem _ h3, List.mem_cons_self⟩, fun h => h4 h.2⟩
        · by_cases h4 : (at_ l i).2 ∈ S
          · exact ⟨_, ⟨List.mem_cons_self, List.mem_cons_of_mem _ h4⟩, fun h => h3 h.1⟩
          · exact absurd ⟨fun h => absurd h h3, fun h => absurd h h4⟩ hx
      have := countP_strict (p := fun i => g i && (decide ((at_ l i).1 ∈ S) && decide ((at_ l i).2 ∈ S))) (q := fun i => g i && (decide ((at_ l i).1 ∈ v :: S) && decide ((at_ l i).2 ∈ v :: S))) (range_mem.2 hi)
        (by simp only [hg, decide_eq_true hv1.1, decide_eq_true hv1.2, Bool.and_self]) (by
          cases e : (g i && (decide ((at_ l i).1 ∈ S) && decide ((at_ l i).2 ∈ S))) with
          | false => rfl
          | true =>
            rw [Bool.and_eq_true, Bool.and_eq_true, decide_eq_true_eq, decide_eq_true_eq] at e
            exact absurd e.2 hv2) (fun y _ hy => by
          rw [Bool.and_eq_true, Bool.and_eq_true, decide_eq_true_eq, decide_eq_true_eq] at hy ⊢
          exact ⟨hy.1, List.mem_cons_of_mem _ hy.2.1, List.mem_cons_of_mem _ hy.2.2⟩)
      obtain ⟨T, t1, t2, t3⟩ := ih (v :: S) (by omega) (by rw [List.length_cons]; omega)
      exact ⟨T, fun w hw => t1 w (List.mem_cons_of_mem _ hw), t2, t3⟩
theorem nodup_len : ∀ {P S : List Nat}, P.Nodup → (∀ v ∈ P, v ∈ S) → P.length ≤ S.length
  | [], _, _, _ => by simp
  | x :: P, S, hP, h => by
    rw [List.nodup_cons] at hP
    have hx := h x (by simp)
    have := nodup_len (P := P) (S := S.erase x) hP.2 (fun v hv => by
      rw [List.mem_erase_of_ne (fun e => hP.1 (by rw [← e]; exact hv))]
      exact h v (by simp [hv]))
    rw [List.length_erase_of_mem hx] at this
    have : 0 < S.length := List.length_pos_of_mem hx
    rw [List.length_cons]; omega

/-- Who is outside of what hangs together with A: A's thing comes there in last calls alone. -/
theorem far_fw {l : List C} {A : Nat} {S : List Nat} (hA : A ∈ S) (hS : ∀ i, i < l.length → (mid l i || inv A (at_ l i)) = true → ((at_ l i).1 ∈ S ↔ (at_ l i).2 ∈ S)) :
    ∀ i, i ≤ l.length → ∀ v, v ∉ S → R (l.take i) A v → ∀ j, i ≤ j → j < l.length → inv v (at_ l j) = false := by
  intro i
  induction i with
  | zero =>
    intro _ v hv h
    rw [List.take_zero, r_nil] at h
    rw [← h] at hv; exact absurd hA hv
  | succ i ih =>
    intro hi v hv h
    have ih := ih (by omega)
    have hil : i < l.length := by omega
    have key : ∀ w, w ∉ S → ∀ u, u ∈ S → R (l.take i) A u → (((at_ l i).1 = u ∧ (at_ l i).2 = w) ∨ ((at_ l i).1 = w ∧ (at_ l i).2 = u)) → ∀ j, i + 1 ≤ j → j < l.length → inv w (at_ l j) = false := by
      intro w hw u hu hr hc j hj hjl
      have hnot : ¬ (mid l i || inv A (at_ l i)) = true := fun e => by
        have := hS i hil e
        rcases hc with ⟨e1, e2⟩ | ⟨e1, e2⟩ <;> rw [e1, e2] at this
        · exact hw (this.1 hu)
        · exact hw (this.2 hu)
      rw [Bool.or_eq_true, not_or] at hnot
      have hl : late l i = false := by
        cases e : late l i with
        | false => rfl
        | true =>
          exfalso
          have he : early l i = false := by
            cases e2 : early l i with
            | false => rfl
            | true => exact absurd (by rw [mid, e, e2]; rfl) hnot.1
          have : A = u := r_noinv_r (fun c hc2 => by
            obtain ⟨k, h1, _, rfl⟩ := mem_take_at hc2
            have := not_early he h1
            rcases hc with ⟨e1, e2⟩ | ⟨e1, e2⟩ <;> rw [e1, e2] at this
            · exact this.1
            · exact this.2) hr
          apply hnot.2
          rw [inv_iff, this]
          rcases hc with ⟨e1, _⟩ | ⟨_, e1⟩
          · exact .inl e1
          · exact .inr e1
      have := not_late hl (show i < j by omega) hjl
      rcases hc with ⟨e1, e2⟩ | ⟨e1, e2⟩ <;> rw [e1, e2] at this
      · exact this.2
      · exact this.1
    rw [take_step hil, r_snoc] at h
    intro j hj hjl
    rcases h with h | ⟨h, e⟩ | ⟨h, e⟩
    · exact ih v hv h j (by omega) hjl
    · by_cases hu : (at_ l i).1 ∈ S
      · exact key v hv _ hu h (.inl ⟨rfl, e⟩) j hj hjl
      · have := ih _ hu h i (by omega) hil
        rw [inv_false] at this
        exact absurd rfl this.1
    · by_cases hu : (at_ l i).2 ∈ S
      · exact key v hv _ hu h (.inr ⟨e, rfl⟩) j hj hjl
      · have := ih _ hu h i (by omega) hil
        rw [inv_false] at this
        exact absurd rfl this.2
theorem far_bw {l : List C} {A : Nat} {S : List Nat} (hA : A ∈ S) (hS : ∀ i, i < l.length → (mid l i || inv A (at_ l i)) = true → ((at_ l i).1 ∈ S ↔ (at_ l i).2 ∈ S)) :
    ∀ d i, i + d = l.length → ∀ v, v ∉ S → R (l.drop i) v A → ∀ j, j < i → inv v (at_ l j) = false := by
  intro d
  induction d with
  | zero =>
    intro i hi v hv h
    rw [List.drop_eq_nil_of_le (by omega), r_nil] at h
    rw [h] at hv; exact absurd hA hv
  | succ d ih =>
    intro i hi v hv h
    have ih := ih (i + 1) (by omega)
    have hil : i < l.length := by omega
    have key : ∀ w, w ∉ S → ∀ u, u ∈ S → R (l.drop (i + 1)) u A → (((at_ l i).1 = u ∧ (at_ l i).2 = w) ∨ ((at_ l i).1 = w ∧ (at_ l i).2 = u)) → ∀ j, j < i → inv w (at_ l j) = false := by
      intro w hw u hu hr hc j hj
      have hnot : ¬ (mid l i || inv A (at_ l i)) = true := fun e => by
        have := hS i hil e
        rcases hc with ⟨e1, e2⟩ | ⟨e1, e2⟩ <;> rw [e1, e2] at this
        · exact hw (this.1 hu)
        · exact hw (this.2 hu)
      rw [Bool.or_eq_true, not_or] at hnot
      have hl : early l i = false := by
        cases e : early l i with
        | false => rfl
        | true =>
          exfalso
          have he : late l i = false := by
            cases e2 : late l i with
            | false => rfl
            | true => exact absurd (by rw [mid, e, e2]; rfl) hnot.1
          have : u = A := r_noinv_l (fun c hc2 => by
            obtain ⟨k, h1, h2, rfl⟩ := mem_drop_at hc2
            have := not_late he (show i < k by omega) h2
            rcases hc with ⟨e1, e2⟩ | ⟨e1, e2⟩ <;> rw [e1, e2] at this
            · exact this.1
            · exact this.2) hr
          apply hnot.2
          rw [inv_iff, ← this]
          rcases hc with ⟨e1, _⟩ | ⟨_, e1⟩
          · exact .inl e1
          · exact .inr e1
      have := not_early hl hj
      rcases hc with ⟨e1, e2⟩ | ⟨e1, e2⟩ <;> rw [e1, e2] at this
      · exact this.2
      · exact this.1
    rw [drop_step hil, r_cons] at h
    intro j hj
    rcases h with h | ⟨e, h⟩ | ⟨e, h⟩
    · exact ih v hv h j (by omega)
    · by_cases hu : (at_ l i).2 ∈ S
      · exact key v hv _ hu h (.inr ⟨e.symm, rfl⟩) j hj
      · have := ih _ hu h i (by omega)
        rw [inv_false] at this
        exact absurd rfl this.2
    · by_cases hu : (at_ l i).1 ∈ S
      · exact key v hv _ hu h (.inl ⟨rfl, e.symm⟩) j hj
      · have := ih _ hu h i (by omega)
        rw [inv_false] at this
        exact absurd rfl this.1

theorem deg_three {P : List Nat} {l : List C} (hP : P.Nodup) (hc : Complete P l) (hn : Noho l) {A : Nat} (hA : A ∈ P) : 2 * P.length ≤ 2 + l.length + deg l A := by
  have h1 := deg_bound hP hc hn hA
  have h2 : (List.range l.length).countP (fun i => fw l A i || bw l A i) ≤ l.length := by
    have := List.countP_le_length (p := fun i => fw l A i || bw l A i) (l := List.range l.length)
    simpa using this
  omega
theorem deg_sum {P : List Nat} {l : List C} (hP : P.Nodup) (hi : Inside P l) (hs : ∀ c ∈ l, c.1 ≠ c.2) : (P.map (deg l)).sum = 2 * l.length := by
  have := two_ends hP hi hs (fun _ => true)
  simp only [Bool.true_and, List.countP_true, List.length_range] at this
  exact this
theorem main {P : List Nat} {l : List C} (hP : P.Nodup) (hi : Inside P l) (hs : ∀ c ∈ l, c.1 ≠ c.2) (hc : Complete P l) (hn : Noho l) (hl : l.length + 5 ≤ 2 * P.length) : False := by
  have d3 : ∀ v ∈ P, 3 ≤ deg l v := fun v hv => by have := deg_three hP hc hn hv; omega
  have ds := deg_sum hP hi hs
  -- someone with three calls
  obtain ⟨A, hA, dA⟩ : ∃ A, A ∈ P ∧ deg l A = 3 := by
    apply Classical.byContradiction
    intro hno
    have : ∀ v ∈ P, 4 ≤ deg l v := fun v hv => by
      have h1 := d3 v hv
      rcases Nat.lt_or_ge (deg l v) 4 with h | h
      · exact absurd ⟨v, hv, by omega⟩ hno
      · exact h
    have := sum_le this
    omega
  -- every call counts for A
  have hb := deg_bound hP hc hn hA
  have hall : ∀ i, i < l.length → (fw l A i || bw l A i) = true := by
    intro i hil
    have h2 : (List.range l.length).countP (fun i => fw l A i || bw l A i) = (List.range l.length).length := by
      have := List.countP_le_length (p := fun i => fw l A i || bw l A i) (l := List.range l.length)
      rw [List.length_range] at this ⊢
      omega
    exact List.countP_eq_length.1 h2 i (range_mem.2 hil)
  -- few middle calls
  have hm : (P.map fun v => (List.range l.length).countP (fun i => mid l i && inv v (at_ l i)) + 2).sum ≤ (P.map (deg l)).sum :=
    sum_mono fun v hv => mid_deg hi hs hc hn (by have := d3 v hv; omega)
  rw [sum_add, two_ends hP hi hs (mid l), ds] at hm
  have h2s := sum_le (f := fun _ => 2) (k := 2) (P := P) (fun _ _ => Nat.le_refl _)
  -- what hangs together with A
  obtain ⟨k, hk1, hk2, hk3⟩ := mid_call (v := A) (l := l) (by omega)
  have hg : (List.range l.length).countP (fun i => mid l i || inv A (at_ l i)) + 1 ≤ (List.range l.length).countP (mid l) + deg l A := by
    have h := cp_ie (mid l) (fun i => inv A (at_ l i)) (List.range l.length)
    have h1 : 0 < (List.range l.length).countP (fun i => mid l i && inv A (at_ l i)) := List.countP_pos_iff.2 ⟨k, range_mem.2 hk1, by rw [hk3, hk2]; rfl⟩
    unfold deg; omega
  obtain ⟨S, s1, s2, s3⟩ := closure l (fun i => mid l i || inv A (at_ l i)) _ [A] (Nat.le_add_right _ _) (by simp)
  have hAS := s1 A (by simp)
  obtain ⟨D, hD, hDS⟩ : ∃ D, D ∈ P ∧ D ∉ S := by
    apply Classical.byContradiction
    intro hno
    have := nodup_len (S := S) hP (fun v hv => by
      by_cases h : v ∈ S
      · exact h
      · exact absurd ⟨v, hv, h⟩ hno)
    omega
  obtain ⟨i, hi1, hi2, hi3⟩ := mid_call (d3 D hD)
  have hcl := s3 i hi1 (by rw [hi3]; rfl)
  have hout : (at_ l i).1 ∉ S ∧ (at_ l i).2 ∉ S := by
    rcases inv_iff.1 hi2 with e | e
    · rw [e] at hcl ⊢; exact ⟨hDS, fun h => hDS (hcl.2 h)⟩
    · rw [e] at hcl ⊢; exact ⟨fun h => hDS (hcl.1 h), hDS⟩
  have nb : ∀ b : Bool, ¬ b = true → b = false := fun b => by cases b <;> simp
  have f1 : rb (l.take i) A (at_ l i).1 = false := nb _ fun h => by
    have := far_fw hAS s3 i (by omega) _ hout.1 h i (Nat.le_refl _) hi1
    rw [inv_false] at this; exact this.1 rfl
  have f2 : rb (l.take i) A (at_ l i).2 = false := nb _ fun h => by
    have := far_fw hAS s3 i (by omega) _ hout.2 h i (Nat.le_refl _) hi1
    rw [inv_false] at this; exact this.2 rfl
  have f3 : rb (l.drop (i + 1)) (at_ l i).1 A = false := nb _ fun h => by
    have := far_bw hAS s3 (l.length - (i + 1)) (i + 1) (by omega) _ hout.1 h i (by omega)
    rw [inv_false] at this; exact this.1 rfl
  have f4 : rb (l.drop (i + 1)) (at_ l i).2 A = false := nb _ fun h => by
    have := far_bw hAS s3 (l.length - (i + 1)) (i + 1) (by omega) _ hout.2 h i (by omega)
    rw [inv_false] at this; exact this.2 rfl
  have := hall i hi1
  simp only [fw, bw, f1, f2, f3, f4] at this
  simp at this

def fewest (n : Nat) : Nat := if n < 4 then n * (n - 1) / 2 else 2 * n - 4
/-- Calls that are enough are at least so many. -/
theorem enough_calls : ∀ (n : Nat) (P : List Nat) (l : List C), P.length = n → P.Nodup → Inside P l → Complete P l → fewest n ≤ l.length := by
  intro n
  induction n with
  | zero => intro P l _ _ _ _; exact Nat.zero_le _
  | succ n ih =>
    intro P l0 hn hP hi0 hc0
    -- without calls of someone with itself
    have hle : (l0.filter fun c => c.1 != c.2).length ≤ l0.length := List.length_filter_le _ _
    have hi : Inside P (l0.filter fun c => c.1 != c.2) := fun c hc => hi0 c (List.mem_filter.1 hc).1
    have hs : ∀ c ∈ l0.filter fun c => c.1 != c.2, c.1 ≠ c.2 := fun c hc => by have := (List.mem_filter.1 hc).2; simpa using this
    have hc : Complete P (l0.filter fun c => c.1 != c.2) := fun x hx y hy => r_noself (hc0 x hx y hy)
    refine Nat.le_trans ?_ hle
    generalize (l0.filter fun c => c.1 != c.2) = l at hi hs hc
    by_cases hno : Noho l
    · by_cases h4 : 4 ≤ n + 1
      · rcases Nat.lt_or_ge l.length (fewest (n + 1)) with h | h
        · exfalso
          rw [fewest, if_neg (by omega)] at h
          exact main hP hi hs hc hno (by omega)
        · exact h
      · have hcase : n = 0 ∨ n = 1 ∨ n = 2 := by omega
        rcases hcase with rfl | rfl | rfl
        · exact Nat.zero_le _
        · match P, hn with
          | [a, b], _ =>
            have h := hc a (by simp) b (by simp)
            match l, h with
            | [], h => simp [r_nil] at h; simp [h] at hP
            | _ :: _, _ => simp [fewest]
        · have ds := deg_sum hP hi hs
          have : ∀ v ∈ P, 4 - l.length ≤ deg l v := fun v hv => by have := deg_three hP hc hno hv; omega
          have := sum_le this
          rw [hn] at this
          simp only [fewest]
          simp; omega
    · simp only [Noho, Classical.not_forall] at hno
      obtain ⟨l1, l2, A, B, h1, h2, h3, h4, _⟩ := hno
      obtain ⟨l', k1, k2, k3, k4⟩ := reduce hP hi hc h1 h2 h3 h4
      have := ih (P.erase A) l' (by rw [List.length_erase_of_mem k2]; omega) (hP.erase A) k3 k4
      have hf : fewest (n + 1) ≤ fewest n + 2 := by
        unfold fewest
        have : n = 0 ∨ n = 1 ∨ n = 2 ∨ n = 3 ∨ 4 ≤ n := by omega
        rcases this with rfl | rfl | rfl | rfl | h
        · simp
        · simp
        · simp
        · simp
        · rw [if_neg (by omega), if_neg (by omega)]; omega
      omega
end Go.Gossip
