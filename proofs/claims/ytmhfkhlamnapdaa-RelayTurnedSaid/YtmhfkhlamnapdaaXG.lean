/- The fewest calls: who calls so that everyone knows everything makes at least 2 n - 4 calls. Lists of calls of numbers, no program in sight. -/
set_option linter.unusedVariables false
set_option linter.unusedSimpArgs false
namespace Go.Gossip
abbrev C := Nat × Nat
def rb : List C → Nat → Nat → Bool
  | [], y, i => y == i
  | c :: l, y, i => rb l y i || (y == c.1 && rb l c.2 i) || (y == c.2 && rb l c.1 i)
abbrev R (l : List C) (y i : Nat) : Prop := rb l y i = true
theorem r_nil {y i : Nat} : R [] y i ↔ y = i := by simp [R, rb]
theorem r_cons {c : C} {l : List C} {y i : Nat} : R (c :: l) y i ↔ R l y i ∨ (y = c.1 ∧ R l c.2 i) ∨ (y = c.2 ∧ R l c.1 i) := by
  simp [R, rb, or_assoc]
theorem r_refl (l : List C) (y : Nat) : R l y y := by
  induction l with
  | nil => exact r_nil.2 rfl
  | cons c l ih => exact r_cons.2 (.inl ih)
theorem r_append {l1 l2 : List C} {y i : Nat} : R (l1 ++ l2) y i ↔ ∃ z, R l1 y z ∧ R l2 z i := by
  induction l1 generalizing y with
  | nil =>
    constructor
    · intro h; exact ⟨y, r_nil.2 rfl, h⟩
    · rintro ⟨z, h1, h2⟩; rw [r_nil.1 h1]; exact h2
  | cons c l ih =>
    rw [List.cons_append, r_cons, ih, ih, ih]
    constructor
    · rintro (⟨z, h1, h2⟩ | ⟨e, z, h1, h2⟩ | ⟨e, z, h1, h2⟩)
      · exact ⟨z, r_cons.2 (.inl h1), h2⟩
      · exact ⟨z, r_cons.2 (.inr (.inl ⟨e, h1⟩)), h2⟩
      · exact ⟨z, r_cons.2 (.inr (.inr ⟨e, h1⟩)), h2⟩
    · rintro ⟨z, h1, h2⟩
      rcases r_cons.1 h1 with h | ⟨e, h⟩ | ⟨e, h⟩
      · exact .inl ⟨z, h, h2⟩
      · exact .inr (.inl ⟨e, z, h, h2⟩)
      · exact .inr (.inr ⟨e, z, h, h2⟩)
theorem r_one {c : C} {y i : Nat} : R [c] y i ↔ y = i ∨ (y = c.1 ∧ c.2 = i) ∨ (y = c.2 ∧ c.1 = i) := by
  rw [r_cons, r_nil, r_nil, r_nil]
theorem r_snoc {l : List C} {c : C} {y i : Nat} : R (l ++ [c]) y i ↔ R l y i ∨ (R l y c.1 ∧ c.2 = i) ∨ (R l y c.2 ∧ c.1 = i) := by
  rw [r_append]
  constructor
  · rintro ⟨z, h1, h2⟩
    rcases r_one.1 h2 with rfl | ⟨rfl, e⟩ | ⟨rfl, e⟩
    · exact .inl h1
    · exact .inr (.inl ⟨h1, e⟩)
    · exact .inr (.inr ⟨h1, e⟩)
  · rintro (h | ⟨h, e⟩ | ⟨h, e⟩)
    · exact ⟨i, h, r_one.2 (.inl rfl)⟩
    · exact ⟨_, h, r_one.2 (.inr (.inl ⟨rfl, e⟩))⟩
    · exact ⟨_, h, r_one.2 (.inr (.inr ⟨rfl, e⟩))⟩
theorem r_reverse {l : List C} {y i : Nat} : R l.reverse i y ↔ R l y i := by
  induction l generalizing y with
  | nil => rw [List.reverse_nil, r_nil, r_nil]; exact eq_comm
  | cons c l ih =>
    rw [List.reverse_cons, r_snoc, r_cons, ih, ih, ih]
    constructor
    · rintro (h | ⟨h, e⟩ | ⟨h, e⟩)
      · exact .inl h
      · exact .inr (.inr ⟨e.symm, h⟩)
      · exact .inr (.inl ⟨e.symm, h⟩)
    · rintro (h | ⟨e, h⟩ | ⟨e, h⟩)
      · exact .inl h
      · exact .inr (.inr ⟨h, e.symm⟩)
      · exact .inr (.inl ⟨h, e.symm⟩)
theorem r_hom (f : Nat → Nat) {l : List C} {x y : Nat} (h : R l x y) : R (l.map fun c => (f c.1, f c.2)) (f x) (f y) := by
  induction l generalizing x with
  | nil => rw [r_nil.1 h]; exact r_refl _ _
  | cons c l ih =>
    rw [List.map_cons, r_cons]
    rcases r_cons.1 h with h | ⟨e, h⟩ | ⟨e, h⟩
    · exact .inl (ih h)
    · exact .inr (.inl ⟨by rw [e], ih h⟩)
    · exact .inr (.inr ⟨by rw [e], ih h⟩)
/-- Calls of a person with itself tell nothing. -/
theorem r_noself {l : List C} {x y : Nat} (h : R l x y) : R (l.filter fun c => c.1 != c.2) x y := by
  induction l generalizing x with
  | nil => exact h
  | cons c l ih =>
    rw [List.filter_cons]
    by_cases hc : (c.1 != c.2) = true
    · rw [if_pos hc, r_cons]
      rcases r_cons.1 h with h | ⟨e, h⟩ | ⟨e, h⟩
      · exact .inl (ih h)
      · exact .inr (.inl ⟨e, ih h⟩)
      · exact .inr (.inr ⟨e, ih h⟩)
    · rw [if_neg hc]
      have e0 : c.1 = c.2 := by simpa using hc
      rcases r_cons.1 h with h | ⟨e, h⟩ | ⟨e, h⟩
      · exact ih h
      · rw [e, e0]; exact ih h
      · rw [e, ← e0]; exact ih h

def inv (v : Nat) (c : C) : Bool := c.1 == v || c.2 == v
theorem inv_iff {v : Nat} {c : C} : inv v c = true ↔ c.1 = v ∨ c.2 = v := by simp [inv]
theorem inv_false {v : Nat} {c : C} : inv v c = false ↔ c.1 ≠ v ∧ c.2 ≠ v := by simp [inv]
def no (v : Nat) (c : C) : Bool := !inv v c
theorem r_noinv_r {l : List C} {y z : Nat} (hz : ∀ c ∈ l, inv z c = false) (h : R l y z) : y = z := by
  induction l generalizing y with
  | nil => exact r_nil.1 h
  | cons c l ih =>
    have hc := inv_false.1 (hz c (by simp))
    have ih' := fun {y} => ih (y := y) (fun c hc => hz c (by simp [hc]))
    rcases r_cons.1 h with h | ⟨e, h⟩ | ⟨e, h⟩
    · exact ih' h
    · exact absurd (ih' h) hc.2
    · exact absurd (ih' h) hc.1
theorem r_noinv_l {l : List C} {y z : Nat} (hz : ∀ c ∈ l, inv y c = false) (h : R l y z) : y = z := by
  induction l with
  | nil => exact r_nil.1 h
  | cons c l ih =>
    have hc := inv_false.1 (hz c (by simp))
    rcases r_cons.1 h with h | ⟨e, h⟩ | ⟨e, h⟩
    · exact ih (fun c hc => hz c (by simp [hc])) h
    · exact absurd e.symm hc.1
    · exact absurd e.symm hc.2

/-- Who never meets A on the way. -/
theorem r_avoid {l : List C} {A X B : Nat} (hX : X ≠ A) (h : R l X B) (hn : ¬ R l A B) : R (l.filter (no A)) X B := by
  induction l generalizing X with
  | nil => exact h
  | cons c l ih =>
    have hn0 : ¬ R l A B := fun h => hn (r_cons.2 (.inl h))
    rw [List.filter_cons]
    by_cases hc : inv A c = true
    · have e : no A c = false := by simp [no, hc]
      rw [e, if_neg (by simp)]
      rcases r_cons.1 h with h | ⟨e, h⟩ | ⟨e, h⟩
      · exact ih hX h hn0
      · rcases inv_iff.1 hc with e1 | e1
        · exact absurd (e.trans e1) hX
        · rw [e1] at h; exact absurd h hn0
      · rcases inv_iff.1 hc with e1 | e1
        · rw [e1] at h; exact absurd h hn0
        · exact absurd (e.trans e1) hX
    · have hc2 := inv_false.1 (Bool.eq_false_iff.2 hc)
      have e : no A c = true := by simp [no, Bool.eq_false_iff.2 hc]
      rw [e, if_pos rfl, r_cons]
      rcases r_cons.1 h with h | ⟨e, h⟩ | ⟨e, h⟩
      · exact .inl (ih hX h hn0)
      · exact .inr (.inl ⟨e, ih hc2.2 h hn0⟩)
      · exact .inr (.inr ⟨e, ih hc2.1 h hn0⟩)
def Btw (c : C) (A X : Nat) : Prop := c = (A, X) ∨ c = (X, A)
theorem last_dep {l : List C} {A B : Nat} (hAB : B ≠ A) (h : R l A B) : ∃ p c q X, l = p ++ c :: q ∧ Btw c A X ∧ X ≠ A ∧ R (q.filter (no A)) X B := by
  induction l with
  | nil => exact absurd (r_nil.1 h).symm hAB
  | cons c l ih =>
    by_cases hl : R l A B
    · obtain ⟨p, d, q, X, h1, h2⟩ := ih hl
      exact ⟨c :: p, d, q, X, by rw [h1]; rfl, h2⟩
    · rcases r_cons.1 h with h | ⟨e, h⟩ | ⟨e, h⟩
      · exact absurd h hl
      · have hx : c.2 ≠ A := fun e2 => by rw [e2] at h; exact hl h
        exact ⟨[], c, l, c.2, rfl, .inl (by rw [e]), hx, r_avoid hx h hl⟩
      · have hx : c.1 ≠ A := fun e2 => by rw [e2] at h; exact hl h
        exact ⟨[], c, l, c.1, rfl, .inr (by rw [e]), hx, r_avoid hx h hl⟩
theorem first_arr {l : List C} {A B : Nat} (hAB : B ≠ A) (h : R l B A) : ∃ q c p X, l = q ++ c :: p ∧ Btw c A X ∧ X ≠ A ∧ R (q.filter (no A)) B X := by
  obtain ⟨p, c, q, X, h1, h2, h3, h4⟩ := last_dep hAB (r_reverse.2 h)
  refine ⟨q.reverse, c, p.reverse, X, ?_, h2, h3, ?_⟩
  · have := congrArg List.reverse h1
    rw [List.reverse_reverse] at this
    rw [this]; simp
  · rw [List.filter_reverse]; exact r_reverse.2 h4

def rho (A X z : Nat) : Nat := if z = A then X else z
theorem rho_self (A X : Nat) : rho A X A = X := if_pos rfl
theorem rho_ne {A X z : Nat} (h : z ≠ A) : rho A X z = z := if_neg h
def sub (A X : Nat) (c : C) : C := (rho A X c.1, rho A X c.2)
theorem sim_map (A X : Nat) {l : List C} {x y : Nat} (h : R l x y) : R (l.map (sub A X)) (rho A X x) (rho A X y) := r_hom (rho A X) h
theorem sim_drop {A X : Nat} {c : C} (hc : Btw c A X) {x y : Nat} (h : R [c] x y) : rho A X x = rho A X y := by
  have e : rho A X X = X := by unfold rho; split <;> simp_all
  rcases hc with rfl | rfl <;> rcases r_one.1 h with rfl | ⟨rfl, rfl⟩ | ⟨rfl, rfl⟩ <;> simp only [rho_self, e]
def Inside (P : List Nat) (l : List C) : Prop := ∀ c ∈ l, c.1 ∈ P ∧ c.2 ∈ P
theorem rho_in {P : List Nat} {A X z : Nat} (hX : X ∈ P.erase A) (hP : P.Nodup) (hz : z ∈ P) : rho A X z ∈ P.erase A := by
  unfold rho
  split
  · exact hX
  · rename_i h; exact (List.Nodup.mem_erase_iff hP).2 ⟨h, hz⟩
theorem inside_sub {P : List Nat} {A X : Nat} {l : List C} (hX : X ∈ P.erase A) (hP : P.Nodup) (h : Inside P l) : Inside (P.erase A) (l.map (sub A X)) := by
  intro c hc
  obtain ⟨d, hd, rfl⟩ := List.mem_map.1 hc
  exact ⟨rho_in hX hP (h d hd).1, rho_in hX hP (h d hd).2⟩
theorem sim_move {P : List Nat} {A Y : Nat} (hP : P.Nodup) : ∀ (q : List C) (X : Nat), X ∈ P.erase A → Inside P q → R (q.filter (no A)) X Y →
    ∃ q', q'.length = q.length ∧ Inside (P.erase A) q' ∧ ∀ x y, R q x y → R q' (rho A X x) (rho A Y y)
  | [], X, _, _, h => ⟨[], rfl, by simp [Inside], fun x y hr => by rw [r_nil] at hr ⊢; rw [hr, r_nil.1 h]⟩
  | c :: q, X, hX, hi, h => by
    have hiq : Inside P q := fun d hd => hi d (by simp [hd])
    have hc := hi c (by simp)
    have stay : R (q.filter (no A)) X Y → ∃ q', q'.length = (c :: q).length ∧ Inside (P.erase A) q' ∧ ∀ x y, R (c :: q) x y → R q' (rho A X x) (rho A Y y) := by
      intro h
      obtain ⟨q', h1, h2, h3⟩ := sim_move hP q X hX hiq h
      refine ⟨sub A X c :: q', by simp [h1], ?_, fun x y hr => ?_⟩
      · intro d hd
        rcases List.mem_cons.1 hd with rfl | hd
        · exact ⟨rho_in hX hP hc.1, rho_in hX hP hc.2⟩
        · exact h2 d hd
      · rw [r_cons]
        rcases r_cons.1 hr with hr | ⟨e, hr⟩ | ⟨e, hr⟩
        · exact .inl (h3 _ _ hr)
        · exact .inr (.inl ⟨by rw [e]; rfl, h3 _ _ hr⟩)
        · exact .inr (.inr ⟨by rw [e]; rfl, h3 _ _ hr⟩)
    rw [List.filter_cons] at h
    by_cases hv : inv A c = true
    · have e : no A c = false := by simp [no, hv]
      rw [e, if_neg (by simp)] at h
      exact stay h
    · have hc2 := inv_false.1 (Bool.eq_false_iff.2 hv)
      have e : no A c = true := by simp [no, Bool.eq_false_iff.2 hv]
      rw [e, if_pos rfl] at h
      have m1 : c.1 ∈ P.erase A := (List.Nodup.mem_erase_iff hP).2 ⟨hc2.1, hc.1⟩
      have m2 : c.2 ∈ P.erase A := (List.Nodup.mem_erase_iff hP).2 ⟨hc2.2, hc.2⟩
      have ins : ∀ q', Inside (P.erase A) q' → Inside (P.erase A) (c :: q') := fun q' h d hd => by
        rcases List.mem_cons.1 hd with rfl | hd
        · exact ⟨m1, m2⟩
        · exact h d hd
      rcases r_cons.1 h with h | ⟨e, h⟩ | ⟨e, h⟩
      · exact stay h
      · obtain ⟨q', h1, h2, h3⟩ := sim_move hP q c.2 m2 hiq h
        refine ⟨c :: q', by simp [h1], ins q' h2, fun x y hr => ?_⟩
        rw [r_cons]
        rcases r_cons.1 hr with hr | ⟨e2, hr⟩ | ⟨e2, hr⟩
        · have := h3 _ _ hr
          by_cases hx : x = A
          · rw [hx, rho_self] at this ⊢
            exact .inr (.inl ⟨e, this⟩)
          · rw [rho_ne hx] at this ⊢
            exact .inl this
        · have := h3 _ _ hr
          rw [rho_ne hc2.2] at this
          rw [e2, rho_ne hc2.1]
          exact .inr (.inl ⟨rfl, this⟩)
        · have := h3 _ _ hr
          rw [rho_ne hc2.1] at this
          rw [e2, rho_ne hc2.2]
          exact .inr (.inr ⟨rfl, this⟩)
      · obtain ⟨q', h1, h2, h3⟩ := sim_move hP q c.1 m1 hiq h
        refine ⟨c :: q', by simp [h1], ins q' h2, fun x y hr => ?_⟩
        rw [r_cons]
        rcases r_cons.1 hr with hr | ⟨e2, hr⟩ | ⟨e2, hr⟩
        · have := h3 _ _ hr
          by_cases hx : x = A
          · rw [hx, rho_self] at this ⊢
            exact .inr (.inr ⟨e, this⟩)
          · rw [rho_ne hx] at this ⊢
            exact .inl this
        · have := h3 _ _ hr
          rw [rho_ne hc2.2] at this
          rw [e2, rho_ne hc2.1]
          exact .inr (.inl ⟨rfl, this⟩)
        · have := h3 _ _ hr
          rw [rho_ne hc2.1] at this
          rw [e2, rho_ne hc2.2]
          exact .inr (.inr ⟨rfl, this⟩)
def Complete (P : List Nat) (l : List C) : Prop := ∀ x ∈ P, ∀ y ∈ P, R l x y
/-- No one hears its own thing. -/
def Noho (l : List C) : Prop := ∀ l1 l2 A B, l = l1 ++ l2 → B ≠ A → R l1 A B → R l2 B A → False
theorem reduce {P : List Nat} {l : List C} (hP : P.Nodup) (hi : Inside P l) (hc : Complete P l) {l1 l2 : List C} {A B : Nat} (hl : l = l1 ++ l2) (hB : B ≠ A) (h1 : R l1 A B) (h2 : R l2 B A) :
    ∃ l', l'.length + 2 = l.length ∧ A ∈ P ∧ Inside (P.erase A) l' ∧ Complete (P.erase A) l' := by
  obtain ⟨p, c, q1, X, e1, hcX, hX, g1⟩ := last_dep hB h1
  obtain ⟨q2, d, r, Y, e2, hdY, hY, g2⟩ := first_arr hB h2
  have el : l = p ++ ([c] ++ ((q1 ++ q2) ++ ([d] ++ r))) := by rw [hl, e1, e2]; simp
  have ic : c.1 ∈ P ∧ c.2 ∈ P := hi c (by rw [el]; simp)
  have id : d.1 ∈ P ∧ d.2 ∈ P := hi d (by rw [el]; simp)
  have hA : A ∈ P := by rcases hcX with e | e <;> rw [e] at ic <;> simp_all
  have hXP : X ∈ P := by rcases hcX with e | e <;> rw [e] at ic <;> simp_all
  have hYP : Y ∈ P := by rcases hdY with e | e <;> rw [e] at id <;> simp_all
  have hXe : X ∈ P.erase A := (List.Nodup.mem_erase_iff hP).2 ⟨hX, hXP⟩
  have hYe : Y ∈ P.erase A := (List.Nodup.mem_erase_iff hP).2 ⟨hY, hYP⟩
  obtain ⟨q', k1, k2, k3⟩ := sim_move (A := A) (Y := Y) hP (q1 ++ q2) X hXe (fun c hc => hi c (by rw [el]; exact List.mem_append_right _ (List.mem_append_right _ (List.mem_append_left _ hc)))) (by rw [List.filter_append, r_append]; exact ⟨B, g1, g2⟩)
  refine ⟨p.map (sub A X) ++ (q' ++ r.map (sub A Y)), ?_, hA, ?_, ?_⟩
  · rw [el]; simp only [List.length_append, List.length_map, List.length_singleton, k1]; omega
  · intro e he
    rw [List.mem_append, List.mem_append] at he
    rcases he with he | he | he
    · exact inside_sub hXe hP (fun c hc => hi c (by rw [el]; simp [hc])) e he
    · exact k2 e he
    · exact inside_sub hYe hP (fun c hc => hi c (by rw [el]; simp [hc])) e he
  · intro x hx y hy
    have hx' := (List.Nodup.mem_erase_iff hP).1 hx
    have hy' := (List.Nodup.mem_erase_iff hP).1 hy
    have h := hc x hx'.2 y hy'.2
    rw [el, r_append] at h
    obtain ⟨z1, h1, h⟩ := h
    rw [r_append] at h
    obtain ⟨z2, h2, h⟩ := h
    rw [r_append] at h
    obtain ⟨z3, h3, h⟩ := h
    rw [r_append] at h
    obtain ⟨z4, h4, h5⟩ := h
    have s1 := sim_map A X h1
    rw [rho_ne hx'.1, sim_drop hcX h2] at s1
    have s3 := k3 _ _ h3
    rw [sim_drop hdY h4] at s3
    have s5 := sim_map A Y h5
    rw [rho_ne hy'.1] at s5
    exact r_append.2 ⟨_, s1, r_append.2 ⟨_, s3, s5⟩⟩
end Go.Gossip
