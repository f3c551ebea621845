/- A part of the proof. -/
import Derived.Test.YtlendaofkmhgmaaP4B
set_option linter.unusedVariables false
set_option linter.unusedSimpArgs false
section
open Go Go.HL
namespace Go.Proofs.Ytlendaofkmhgmaa
def Ch (R : Nat → Nat → Prop) : Nat → List Int → Prop
  | _, [] => True
  | s, v :: p => R s v.toNat ∧ Ch R v.toNat p
theorem Ch.mono {R R' : Nat → Nat → Prop} (h : ∀ a b, R a b → R' a b) : ∀ (p : List Int) (s : Nat), Ch R s p → Ch R' s p
  | [], _, _ => trivial
  | v :: p, s, hp => ⟨h _ _ hp.1, Ch.mono h p _ hp.2⟩
theorem Ch.split {R : Nat → Nat → Prop} : ∀ (p q : List Int) (s : Nat), Ch R s (p ++ q) ↔ Ch R s p ∧ Ch R (lastP s p) q
  | [], q, s => by simp [Ch, lastP]
  | v :: p, q, s => by rw [List.cons_append, Ch, Ch, lastP, Ch.split p q, and_assoc]
theorem pc_split (d : List (List Int)) : ∀ (p q : List Int) (s : Nat), pc d s (p ++ q) = pc d s p + pc d (lastP s p) q
  | [], q, s => by simp [pc, lastP]
  | v :: p, q, s => by rw [List.cons_append, pc, pc, lastP, pc_split d p q]; omega
theorem lastP_split : ∀ (p q : List Int) (s : Nat), lastP s (p ++ q) = lastP (lastP s p) q
  | [], q, s => rfl
  | v :: p, q, s => by rw [List.cons_append, lastP, lastP, lastP_split p q]
theorem inT.tail {n : Nat} {v : Int} {p : List Int} (h : inT n (v :: p)) : inT n p := fun w hw => h w (by simp [hw])
theorem inT.hd {n : Nat} {v : Int} {p : List Int} (h : inT n (v :: p)) : v.toNat < n ∧ ((v.toNat : Nat) : Int) = v := by
  have := h v (by simp); omega
theorem inT.app {n : Nat} {p q : List Int} : inT n (p ++ q) ↔ inT n p ∧ inT n q :=
  ⟨fun h => ⟨fun v hv => h v (by simp [hv]), fun v hv => h v (by simp [hv])⟩, fun h v hv => (List.mem_append.1 hv).elim (h.1 v) (h.2 v)⟩
theorem nd_len {n : Nat} {p : List Int} (h : p.Nodup) (hp : inT n p) : p.length ≤ n := by
  have h2 := h.length_le_of_subset (l₂ := (List.range n).map fun i : Nat => (i : Int)) fun x hx => by
    have := hp x hx
    exact List.mem_map.2 ⟨x.toNat, List.mem_range.2 (by omega), by omega⟩
  simpa using h2
section
variable {d : List (List Int)}
theorem pc_nonneg (h : okD d) : ∀ (p : List Int) (s : Nat), s < d.length → inT d.length p → 0 ≤ pc d s p
  | [], _, _, _ => by simp [pc]
  | v :: p, s, hs, hp => by
    have := hp.hd.1
    have h1 := h.at hs this
    have h2 := pc_nonneg h p v.toNat this hp.tail
    rw [pc]; omega
end
section
variable {d : List (List Int)}
theorem simp_walk (h : okD d) : ∀ (k : Nat) (p : List Int) (s : Nat), p.length ≤ k → s < d.length → inT d.length p →
    ∃ p', p'.Nodup ∧ (s : Int) ∉ p' ∧ (∀ v ∈ p', v ∈ p) ∧ lastP s p' = lastP s p ∧ pc d s p' ≤ pc d s p := by
  intro k
  induction k with
  | zero =>
    intro p s hk hs hp
    have : p = [] := List.length_eq_zero_iff.1 (by omega)
    subst this
    exact ⟨[], List.nodup_nil, by simp, by simp, rfl, Int.le_refl _⟩
  | succ k ih =>
    intro p s hk hs hp
    by_cases c : (s : Int) ∈ p
    · obtain ⟨p1, p2, rfl⟩ := List.append_of_mem c
      rw [List.length_append, List.length_cons] at hk
      have hp1 := (inT.app.1 hp).1
      have hp2 := (inT.app.1 hp).2
      obtain ⟨p', q1, q2, q3, q4, q5⟩ := ih p2 s (by omega) hs hp2.tail
      refine ⟨p', q1, q2, fun v hv => by simp [q3 v hv], ?_, ?_⟩
      · rw [q4, lastP_split, lastP, Int.toNat_natCast]
      · rw [pc_split, pc, Int.toNat_natCast]
        have h1 := pc_nonneg h p1 s hs hp1
        have h2 := h.at (lastP_lt p1 s hs hp1) hs
        omega
    · cases p with
      | nil => exact ⟨[], List.nodup_nil, by simp, by simp, rfl, Int.le_refl _⟩
      | cons v p =>
        have hv := hp.hd
        obtain ⟨p', q1, q2, q3, q4, q5⟩ := ih p v.toNat (by simpa using hk) hv.1 hp.tail
        rw [hv.2] at q2
        refine ⟨v :: p', List.nodup_cons.2 ⟨q2, q1⟩, fun hm => ?_, fun w hw => ?_, ?_, ?_⟩
        · rcases List.mem_cons.1 hm with e | hm
          · exact c (by simp [e])
          · exact c (by simp [q3 _ hm])
        · rcases List.mem_cons.1 hw with e | hm
          · simp [e]
          · simp [q3 _ hm]
        · rw [lastP, lastP, q4]
        · rw [pc, pc]; omega
end
section
variable {d : List (List Int)}
theorem rl_le {A : List Int} {p : Nat × Nat} (h2 : p.2 < A.length) (v : Nat) : (rl d A p).getD v 0 ≤ A.getD v 0 := by
  unfold rl
  rw [getD_set' _ _ _ _ h2]
  split
  · rename_i e; subst e; omega
  · omega
end
section
variable {d : List (List Int)}
theorem rl_len {A : List Int} {p : Nat × Nat} : (rl d A p).length = A.length := by simp [rl]
end
section
variable {d : List (List Int)}
theorem fold_len : ∀ (ps : List (Nat × Nat)) (A : List Int), (ps.foldl (rl d) A).length = A.length
  | [], A => rfl
  | p :: ps, A => by rw [List.foldl_cons, fold_len ps, rl_len]
end
section
variable {d : List (List Int)}
theorem fold_le : ∀ (ps : List (Nat × Nat)) (A : List Int), (∀ p ∈ ps, p.2 < A.length) → ∀ v, (ps.foldl (rl d) A).getD v 0 ≤ A.getD v 0
  | [], A, _, v => Int.le_refl _
  | p :: ps, A, h, v => by
    rw [List.foldl_cons]
    have h1 := fold_le ps (rl d A p) (fun q hq => by rw [rl_len]; exact h q (by simp [hq])) v
    have h2 := rl_le (d := d) (h p (by simp)) v
    omega
end
section
variable {d : List (List Int)}
theorem fold_rel : ∀ (ps : List (Nat × Nat)) (A : List Int), (∀ p ∈ ps, p.2 < A.length) → ∀ p ∈ ps, (ps.foldl (rl d) A).getD p.2 0 ≤ A.getD p.1 0 + at2 d p.1 p.2
  | q :: ps, A, h, p, hp => by
    rw [List.foldl_cons]
    have hq : ∀ q' ∈ ps, q'.2 < (rl d A q).length := fun q' hq' => by rw [rl_len]; exact h q' (by simp [hq'])
    rcases List.mem_cons.1 hp with e | hp
    · subst e
      have h1 := fold_le (d := d) ps (rl d A p) hq p.2
      have h2 : (rl d A p).getD p.2 0 ≤ A.getD p.1 0 + at2 d p.1 p.2 := by
        unfold rl
        rw [getD_set' _ _ _ _ (h p (by simp)), if_pos rfl]
        omega
      omega
    · have h1 := fold_rel ps (rl d A q) hq p hp
      have h2 := rl_le (d := d) (h q (by simp)) p.1
      omega
end
section
variable {d : List (List Int)}
theorem rnds_walk {ps : List (Nat × Nat)} {n : Nat} (hps : ∀ p ∈ ps, p.2 < n) : ∀ (k : Nat) (A : List Int) (s : Nat) (p : List Int), A.length = n → Ch (fun a b => (a, b) ∈ ps) s p → p.length ≤ k → (rnds d ps k A).getD (lastP s p) 0 ≤ A.getD s 0 + pc d s p := by
  intro k
  induction k with
  | zero =>
    intro A s p hA hc hk
    have : p = [] := List.length_eq_zero_iff.1 (by omega)
    subst this
    simp [rnds, lastP, pc]
  | succ k ih =>
    intro A s p hA hc hk
    rw [rnds]
    have hp' : ∀ p ∈ ps, p.2 < A.length := fun p hp => by rw [hA]; exact hps p hp
    cases p with
    | nil =>
      have h1 := ih (ps.foldl (rl d) A) s [] (by rw [fold_len]; exact hA) trivial (by simp)
      have h2 := fold_le (d := d) ps A hp' s
      simp only [lastP, pc] at h1 ⊢
      omega
    | cons v p =>
      have h1 := ih (ps.foldl (rl d) A) v.toNat p (by rw [fold_len]; exact hA) hc.2 (by simpa using hk)
      have h2 := fold_rel (d := d) ps A hp' _ hc.1
      rw [lastP, pc]
      simp only at h2
      omega
end
section
variable {d : List (List Int)}
theorem fold_inv {n : Nat} {Q : Nat → Int → Prop} : ∀ (ps : List (Nat × Nat)) (A : List Int), (∀ p ∈ ps, p.1 < n ∧ p.2 < n) → (∀ p ∈ ps, ∀ a, Q p.1 a → Q p.2 (a + at2 d p.1 p.2)) → A.length = n → (∀ v, v < n → Q v (A.getD v 0)) → ∀ v, v < n → Q v ((ps.foldl (rl d) A).getD v 0)
  | [], A, _, _, _, h => h
  | p :: ps, A, hp, hQ, hA, h => by
    rw [List.foldl_cons]
    refine fold_inv ps _ (fun q hq => hp q (by simp [hq])) (fun q hq => hQ q (by simp [hq])) (by rw [rl_len]; exact hA) fun v hv => ?_
    have h1 := (hp p (by simp))
    unfold rl
    rw [getD_set' _ _ _ _ (by rw [hA]; exact h1.2)]
    split
    · rename_i e
      subst e
      have q1 := h p.2 hv
      have q2 := hQ p (by simp) _ (h p.1 h1.1)
      by_cases c : A.getD p.2 0 ≤ A.getD p.1 0 + at2 d p.1 p.2
      · rwa [Int.min_eq_left c]
      · rwa [Int.min_eq_right (by omega)]
    · exact h v hv
end
section
variable {d : List (List Int)}
theorem rnds_inv {n : Nat} {Q : Nat → Int → Prop} {ps : List (Nat × Nat)} (hp : ∀ p ∈ ps, p.1 < n ∧ p.2 < n) (hQ : ∀ p ∈ ps, ∀ a, Q p.1 a → Q p.2 (a + at2 d p.1 p.2)) : ∀ (k : Nat) (A : List Int), A.length = n → (∀ v, v < n → Q v (A.getD v 0)) → ∀ v, v < n → Q v ((rnds d ps k A).getD v 0)
  | 0, A, _, h => h
  | k + 1, A, hA, h => by
    rw [rnds]
    exact rnds_inv hp hQ k _ (by rw [fold_len]; exact hA) (fold_inv ps A hp hQ hA h)
end
section
variable {d : List (List Int)}
theorem mem_rowQ {u x y : Nat} : ∀ k v, (x, y) ∈ rowQ u k v ↔ y = u ∧ v ≤ x ∧ x < v + k
  | 0, v => by simp only [rowQ, List.not_mem_nil, false_iff]; omega
  | k + 1, v => by
    rw [rowQ, List.mem_cons, mem_rowQ k (v + 1), Prod.mk.injEq]; omega
end
section
variable {d : List (List Int)}
theorem mem_allQ {n x y : Nat} : ∀ k u, (x, y) ∈ allQ n k u ↔ x < n ∧ u ≤ y ∧ y < u + k
  | 0, v => by simp only [allQ, List.not_mem_nil, false_iff]; omega
  | k + 1, v => by
    rw [allQ, List.mem_append, mem_allQ k (v + 1), mem_rowQ]; omega
end
section
variable {d : List (List Int)}
theorem mem_rowP {ok : Nat → Nat → Bool} {z x y : Nat} : ∀ k v, (x, y) ∈ rowP ok z k v ↔ x = z ∧ (v ≤ y ∧ y < v + k) ∧ ok z y = true
  | 0, v => by simp only [rowP, List.not_mem_nil, false_iff]; omega
  | k + 1, v => by
    rw [rowP]
    split
    · rename_i c
      rw [List.mem_cons, mem_rowP k (v + 1), Prod.mk.injEq]
      constructor
      · rintro (⟨rfl, rfl⟩ | ⟨h1, h2, h3⟩)
        · exact ⟨rfl, by omega, c⟩
        · exact ⟨h1, by omega, h3⟩
      · rintro ⟨h1, h2, h3⟩
        by_cases e : y = v
        · exact .inl ⟨h1, e⟩
        · exact .inr ⟨h1, by omega, h3⟩
    · rename_i c
      rw [mem_rowP k (v + 1)]
      constructor
      · rintro ⟨h1, h2, h3⟩
        exact ⟨h1, by omega, h3⟩
      · rintro ⟨h1, h2, h3⟩
        have : y ≠ v := fun e => by subst e; exact c h3
        exact ⟨h1, by omega, h3⟩
end
section
variable {d : List (List Int)}
theorem mem_allP {ok : Nat → Nat → Bool} {n x y : Nat} : ∀ k u, (x, y) ∈ allP ok n k u ↔ (u ≤ x ∧ x < u + k) ∧ y < n ∧ ok x y = true
  | 0, v => by simp only [allP, List.not_mem_nil, false_iff]; omega
  | k + 1, v => by
    rw [allP, List.mem_append, mem_allP k (v + 1), mem_rowP]
    constructor
    · rintro (⟨rfl, h2, h3⟩ | ⟨h1, h2, h3⟩)
      · exact ⟨by omega, by omega, h3⟩
      · exact ⟨by omega, h2, h3⟩
    · rintro ⟨h1, h2, h3⟩
      by_cases e : x = v
      · subst e; exact .inl ⟨rfl, by omega, h3⟩
      · exact .inr ⟨by omega, h2, h3⟩
end
section
variable {d : List (List Int)}
variable {to : Nat}
theorem far_walk (h : okD d) (ht : to < d.length) {v : Nat} (hv : v < d.length) : ∃ p, inT d.length p ∧ lastP to p = v ∧ (farL d to).getD v 0 = pc d to p := by
  refine rnds_inv (d := d) (Q := fun v a => ∃ p, inT d.length p ∧ lastP to p = v ∧ a = pc d to p) (allQ_in d.length 0 (by omega)) ?_ d.length (d.getD to []) (row_bd h ht).1 ?_ v hv
  · rintro ⟨x, y⟩ hp a ⟨p, h1, h2, h3⟩
    have := allQ_in d.length 0 (by omega) _ hp
    refine ⟨p ++ [(y : Int)], inT.app.2 ⟨h1, fun v hv => by rw [List.mem_singleton] at hv; subst hv; omega⟩, lastP_app p y to, ?_⟩
    simp only
    rw [pc_app, h2, h3]
  · intro v hv
    exact ⟨[(v : Int)], fun w hw => by rw [List.mem_singleton] at hw; subst hw; omega, by simp [lastP], by simp [pc, at2]⟩
end
section
variable {d : List (List Int)}
variable {to : Nat}
theorem all_ch {n : Nat} : ∀ (p : List Int) (s : Nat), s < n → inT n p → Ch (fun a b => (a, b) ∈ allQ n n 0) s p
  | [], _, _, _ => trivial
  | v :: p, s, hs, hp => by
    have := hp.hd
    exact ⟨(mem_allQ n 0).2 (by omega), all_ch p _ this.1 hp.tail⟩
end
section
variable {d : List (List Int)}
variable {to : Nat}
theorem far_le (h : okD d) (ht : to < d.length) : ∀ (p : List Int), inT d.length p → p.length ≤ d.length → (farL d to).getD (lastP to p) 0 ≤ pc d to p := by
  have hps : ∀ p ∈ allQ d.length d.length 0, p.2 < d.length := fun p hp => (allQ_in d.length 0 (by omega) p hp).2
  intro p hp hk
  cases p with
  | nil =>
    have := rnds_walk (d := d) hps d.length (d.getD to []) to [] (row_bd h ht).1 trivial (by simp)
    have h0 := (h.2.2 to ht to ht).2.2 rfl
    unfold at2 at h0
    simp only [pc, h0] at this ⊢
    exact this
  | cons v p =>
    have hv := hp.hd
    have := rnds_walk (d := d) hps d.length (d.getD to []) v.toNat p (row_bd h ht).1 (all_ch p _ hv.1 hp.tail) (by simp at hk; omega)
    rw [lastP, pc]
    exact this
end
section
variable {d : List (List Int)}
variable {to : Nat}
theorem far_le' (h : okD d) (ht : to < d.length) (p : List Int) (hp : inT d.length p) : (farL d to).getD (lastP to p) 0 ≤ pc d to p := by
  obtain ⟨p', q1, q2, q3, q4, q5⟩ := simp_walk h p.length p to (Nat.le_refl _) ht hp
  have hp' : inT d.length p' := fun v hv => hp v (q3 v hv)
  have := far_le h ht p' hp' (nd_len q1 hp')
  rw [q4] at this
  omega
end
section
variable {d : List (List Int)}
variable {to : Nat}
theorem far_zero (h : okD d) (ht : to < d.length) : (farL d to).getD to 0 = 0 := by
  obtain ⟨p, h1, h2, h3⟩ := far_walk h ht ht
  have h4 := far_le' h ht [] (fun v hv => by cases hv)
  have h5 := pc_nonneg h p to ht h1
  simp only [lastP, pc] at h4
  omega
end
section
variable {d : List (List Int)}
variable {to : Nat}
theorem far_tri (h : okD d) (ht : to < d.length) {u v : Nat} (hu : u < d.length) (hv : v < d.length) : (farL d to).getD v 0 ≤ at2 d v u + (farL d to).getD u 0 := by
  obtain ⟨p, h1, h2, h3⟩ := far_walk h ht hu
  have := far_le' h ht (p ++ [(v : Int)]) (inT.app.2 ⟨h1, fun w hw => by rw [List.mem_singleton] at hw; subst hw; omega⟩)
  rw [lastP_app, pc_app, h2, ← h3] at this
  have hs := (h.2.2 u hu v hv).2.1
  omega
end
section
variable {d : List (List Int)}
variable {to : Nat}
theorem far_bd (h : okD d) (ht : to < d.length) {v : Nat} (hv : v < d.length) : 0 ≤ (farL d to).getD v 0 ∧ (farL d to).getD v 0 ≤ 1000 := by
  obtain ⟨p, h1, h2, h3⟩ := far_walk h ht hv
  have h5 := pc_nonneg h p to ht h1
  have h6 := far_tri h ht ht hv
  rw [far_zero h ht] at h6
  have := h.at hv ht
  omega
end
section
variable {d : List (List Int)}
variable {to : Nat}
theorem far_back (h : okD d) (ht : to < d.length) : ∀ (k : Nat) (p : List Int), p.length ≤ k → inT d.length p → (farL d to).getD (lastP to p) 0 = pc d to p → ∃ q, inT d.length q ∧ Ch (fun a b => tight d (farL d to) a b = true) (lastP to p) q ∧ lastP (lastP to p) q = to := by
  intro k
  induction k with
  | zero =>
    intro p hk hp he
    have : p = [] := List.length_eq_zero_iff.1 (by omega)
    subst this
    exact ⟨[], hp, trivial, rfl⟩
  | succ k ih =>
    intro p hk hp he
    rcases List.eq_nil_or_concat p with rfl | ⟨p, v, rfl⟩
    · exact ⟨[], hp, trivial, rfl⟩
    · rw [List.concat_eq_append] at hp he hk ⊢
      have hp1 := (inT.app.1 hp).1
      have hv := (inT.app.1 hp).2.hd
      obtain ⟨v, rfl⟩ : ∃ x : Nat, v = (x : Int) := ⟨v.toNat, by omega⟩
      rw [Int.toNat_natCast] at hv
      rw [lastP_app, pc_app] at he
      rw [lastP_app]
      have hl := lastP_lt p to ht hp1
      have h1 := far_le' h ht p hp1
      have h2 := far_tri h ht hl hv.1
      have hs := (h.2.2 _ hl v hv.1).2.1
      obtain ⟨q, q1, q2, q3⟩ := ih p (by simp at hk; omega) hp1 (by omega)
      refine ⟨((lastP to p : Nat) : Int) :: q, fun w hw => ?_, ⟨?_, ?_⟩, ?_⟩
      · rcases List.mem_cons.1 hw with rfl | hw
        · omega
        · exact q1 w hw
      · rw [Int.toNat_natCast]
        exact decide_eq_true (by omega)
      · rw [Int.toNat_natCast]; exact q2
      · rw [lastP, Int.toNat_natCast]; exact q3
end
section
variable {d : List (List Int)}
variable {to : Nat}
theorem ch_ld (h : okD d) {fa : List Int} : ∀ (k : Nat) (p : List Int) (f L : Nat), p.length ≤ k → L < 2 ^ d.length → f < d.length → inT d.length p → Ch (fun a b => tight d fa a b = true) f p → lastP f p = to → (∀ u ∈ p, u ≠ (f : Int) → L.testBit u.toNat = true) → ldT d fa to f (wo L f) = true := by
  have h11 := h.1.2
  have h2048 := pow_le h.1.2
  intro k
  induction k with
  | zero =>
    intro p f L hk hL hf hp hc hl hb
    have : p = [] := List.length_eq_zero_iff.1 (by omega)
    subst this
    rw [ldT_step, show f = to from hl]; simp
  | succ k ih =>
    intro p f L hk hL hf hp hc hl hb
    by_cases c : (f : Int) ∈ p
    · obtain ⟨p1, p2, rfl⟩ := List.append_of_mem c
      rw [Ch.split] at hc
      rw [lastP_split, lastP, Int.toNat_natCast] at hl
      rw [List.length_append, List.length_cons] at hk
      have hc2 := hc.2.2
      rw [Int.toNat_natCast] at hc2
      exact ih p2 f L (by omega) hL hf (inT.app.1 hp).2.tail hc2 hl fun u hu => hb u (by simp [hu])
    · cases p with
      | nil => rw [ldT_step, show f = to from hl]; simp
      | cons u p =>
        have hu := hp.hd
        have hwb := fun x => wo_bit (L := L) (v := f) (by omega) (by omega) x
        have hne : ∀ w ∈ u :: p, (wo L f).testBit w.toNat = true := fun w hw => by
          have h1 : w ≠ (f : Int) := fun e => c (e ▸ hw)
          have h2 := hp w hw
          rw [hwb, hb w hw h1, Bool.true_and]
          exact decide_eq_true (by omega)
        have hw := wo_le L f
        have := ih p u.toNat (wo L f) (by simpa using hk) (by omega) hu.1 hp.tail hc.2 hl fun w hw _ => hne w (by simp [hw])
        rw [ldT_step, Bool.or_eq_true]
        refine .inr ((anyF_iff _ _).2 ⟨u.toNat, by omega, ?_⟩)
        rw [hne u (by simp), hc.1, this]; rfl
end
section
variable {d : List (List Int)}
variable {to : Nat}
theorem ld_ch (h : okD d) {fa : List Int} : ∀ (k v L : Nat), L ≤ k → v < d.length → L < 2 ^ d.length → ldT d fa to v L = true → ∃ p, inT d.length p ∧ Ch (fun a b => tight d fa a b = true) v p ∧ lastP v p = to ∧ p.Nodup ∧ ∀ u ∈ p, L.testBit u.toNat = true := by
  have h11 := h.1.2
  have h2048 := pow_le h.1.2
  intro k
  induction k with
  | zero =>
    intro v L hk hv hL hl
    have : L = 0 := by omega
    subst this
    unfold ldT ldF at hl
    exact ⟨[], fun v hv => (by cases hv), trivial, of_decide_eq_true hl, List.nodup_nil, fun v hv => (by cases hv)⟩
  | succ k ih =>
    intro v L hk hv hL hl
    rw [ldT_step, Bool.or_eq_true] at hl
    rcases hl with hl | hl
    · exact ⟨[], fun v hv => (by cases hv), trivial, of_decide_eq_true hl, List.nodup_nil, fun v hv => (by cases hv)⟩
    · rw [anyF_iff] at hl
      obtain ⟨u, h1, h2⟩ := hl
      rw [Bool.and_eq_true, Bool.and_eq_true] at h2
      have hlt := wo_lt h2.1.1
      obtain ⟨p, q1, q2, q3, q4, q5⟩ := ih u (wo L u) (by omega) (by omega) (by omega) h2.2
      have hwb := fun x => wo_bit (L := L) (v := u) (by omega) (by omega) x
      refine ⟨(u : Int) :: p, fun w hw => ?_, ⟨by rw [Int.toNat_natCast]; exact h2.1.2, by rw [Int.toNat_natCast]; exact q2⟩, by rw [lastP, Int.toNat_natCast]; exact q3, List.nodup_cons.2 ⟨fun hm => ?_, q4⟩, fun w hw => ?_⟩
      · rcases List.mem_cons.1 hw with rfl | hw
        · omega
        · exact q1 w hw
      · have := q5 _ hm
        rw [Int.toNat_natCast, hwb] at this
        simp at this
      · rcases List.mem_cons.1 hw with rfl | hw
        · rw [Int.toNat_natCast]; exact h2.1.1
        · have := q5 _ hw
          rw [hwb, Bool.and_eq_true] at this
          exact this.1
end
section
variable {d : List (List Int)}
variable {to : Nat}
theorem tight_pc {fa : List Int} : ∀ (p : List Int) (v : Nat), Ch (fun a b => tight d fa a b = true) v p → pc d v p + fa.getD (lastP v p) 0 = fa.getD v 0
  | [], v, _ => by simp [pc, lastP]
  | u :: p, v, h => by
    have h1 := tight_pc p u.toNat h.2
    have h2 := of_decide_eq_true h.1
    rw [pc, lastP]; omega
end
section
variable {d : List (List Int)}
variable {to : Nat}
theorem all_bits {n u : Nat} : (2 ^ n - 1).testBit u = decide (u < n) := Nat.testBit_two_pow_sub_one n u
end
section
variable {d : List (List Int)}
variable {to : Nat}
theorem ld_all (h : okD d) (ht : to < d.length) {f : Nat} (hf : f < d.length) : ldT d (farL d to) to f (wo (2 ^ d.length - 1) f) = true := by
  obtain ⟨p, h1, h2, h3⟩ := far_walk h ht hf
  obtain ⟨q, q1, q2, q3⟩ := far_back h ht p.length p (Nat.le_refl _) h1 (by rw [h2]; exact h3)
  rw [h2] at q2 q3
  refine ch_ld h q.length q f _ (Nat.le_refl _) all1_lt hf q1 q2 q3 fun u hu _ => ?_
  have := q1 u hu
  rw [all_bits, decide_eq_true_eq]; omega
end
section
variable {d : List (List Int)}
variable {to : Nat}
theorem sh_ge (h : okD d) (ht : to < d.length) {o : List Bool} {f : Nat} (hf : f < d.length) : (farL d to).getD f 0 ≤ sh d o f to ∧ (sh d o f to = (farL d to).getD f 0 → ∃ p, inT d.length p ∧ Ch (fun a b => tight d (farL d to) a b = true ∧ okO o a b = true) f p ∧ lastP f p = to) := by
  have hz := far_zero h ht
  have key := rnds_inv (d := d) (Q := fun v a => (farL d to).getD f 0 ≤ a + (farL d to).getD v 0 ∧ (a + (farL d to).getD v 0 = (farL d to).getD f 0 → ∃ p, inT d.length p ∧ Ch (fun a b => tight d (farL d to) a b = true ∧ okO o a b = true) f p ∧ lastP f p = v)) (allP_in (ok := okO o) d.length 0 (by omega)) ?_ d.length ((List.replicate d.length 1099511627776).set f 0) (by simp) ?_ to ht
  · rw [hz] at key
    refine ⟨by have := key.1; unfold sh; omega, fun e => key.2 ?_⟩
    unfold sh at e; omega
  · rintro ⟨x, y⟩ hp a ⟨h1, h2⟩
    have hb := allP_in (ok := okO o) d.length 0 (by omega) _ hp
    have hok := ((mem_allP _ _).1 hp).2.2
    simp only at h1 h2 hb ⊢
    have htr := far_tri h ht (u := y) (v := x) hb.2 hb.1
    refine ⟨by omega, fun e => ?_⟩
    obtain ⟨p, p1, p2, p3⟩ := h2 (by omega)
    refine ⟨p ++ [(y : Int)], inT.app.2 ⟨p1, fun w hw => by rw [List.mem_singleton] at hw; subst hw; omega⟩, (Ch.split _ _ _).2 ⟨p2, ?_⟩, lastP_app p y f⟩
    rw [p3]
    refine ⟨⟨?_, ?_⟩, trivial⟩
    · rw [Int.toNat_natCast]; exact decide_eq_true (by omega)
    · rw [Int.toNat_natCast]; exact hok
  · intro v hv
    rw [getD_set' _ _ _ _ (by simpa using hf)]
    have hb := far_bd h ht hf
    have hb2 := far_bd h ht hv
    split
    · rename_i e; subst e
      exact ⟨by omega, fun _ => ⟨[], fun v hv => (by cases hv), trivial, rfl⟩⟩
    · have : (List.replicate d.length (1099511627776 : Int)).getD v 0 = 1099511627776 := by simp [List.getD, List.getElem?_replicate, hv]
      rw [this]
      exact ⟨by omega, fun e => by omega⟩
end
section
variable {d : List (List Int)}
variable {to : Nat}
def Left (n : Nat) (o : List Bool) (w : Nat) : Prop := ∀ u, u < n → w.testBit u = !(o.getD u false)
end
section
variable {d : List (List Int)}
variable {to : Nat}
theorem ok_ch {n w : Nat} {o : List Bool} (hw : Left n o w) : ∀ (p : List Int) (y : Nat), y < n → o.getD y false = false → inT n p → (∀ u ∈ p, w.testBit u.toNat = true) → Ch (fun a b => (a, b) ∈ allP (okO o) n n 0) y p
  | [], _, _, _, _, _ => trivial
  | u :: p, y, hy, ho, hp, hb => by
    have hu := hp.hd
    have h1 := hb u (by simp)
    rw [hw _ hu.1, Bool.not_eq_true'] at h1
    refine ⟨(mem_allP _ _).2 ⟨by omega, hu.1, by unfold okO; rw [ho, h1]; rfl⟩, ok_ch hw p _ hu.1 h1 hp.tail fun w hw => hb w (by simp [hw])⟩
end
section
variable {d : List (List Int)}
variable {to : Nat}
theorem sh_eq (h : okD d) (ht : to < d.length) {o : List Bool} {y w : Nat} (hw : Left d.length o w) (hwl : w < 2 ^ d.length) (hy : y < d.length) (ho : o.getD y false = false) (hl : ldT d (farL d to) to y (wo w y) = true) : sh d o y to = (farL d to).getD y 0 := by
  have h11 := h.1.2
  have h2048 := pow_le h.1.2
  have h1 := (sh_ge h ht (o := o) hy).1
  have hwo := wo_le w y
  obtain ⟨p, q1, q2, q3, q4, q5⟩ := ld_ch h _ y (wo w y) (Nat.le_refl _) hy (by omega) hl
  have hb : ∀ u ∈ p, w.testBit u.toNat = true := fun u hu => by
    have := q5 u hu
    rw [wo_bit (by omega) (by omega), Bool.and_eq_true] at this
    exact this.1
  have h3 := rnds_walk (d := d) (n := d.length) (fun p hp => (allP_in (ok := okO o) d.length 0 (by omega) p hp).2) d.length ((List.replicate d.length 1099511627776).set y 0) y p (by simp) (ok_ch hw p y hy ho q1 hb) (nd_len q4 q1)
  have h4 := tight_pc p y q2
  rw [q3, far_zero h ht] at h4
  rw [q3, getD_set' _ _ _ _ (by simpa using hy), if_pos rfl] at h3
  have h5 : sh d o y to ≤ 0 + pc d y p := h3
  omega
end
section
variable {d : List (List Int)}
variable {to : Nat}
theorem okW_iff (h : okD d) (ht : to < d.length) {o : List Bool} {x y w : Nat} (hw : Left d.length o w) (hwl : w < 2 ^ d.length) (hx : x < d.length) (hy : y < d.length) : okW d (farL d to) to x w y = (!(o.getD y false) && decide (at2 d x y + sh d o y to = (farL d to).getD x 0)) := by
  unfold okW
  rw [hw y hy]
  cases ho : o.getD y false with
  | true => rfl
  | false =>
    rw [Bool.not_false, Bool.true_and, Bool.true_and]
    obtain ⟨h1, h2⟩ := sh_ge h ht (o := o) hy
    have h3 := far_tri h ht hy hx
    rw [Bool.eq_iff_iff, Bool.and_eq_true, decide_eq_true_eq]
    constructor
    · rintro ⟨q1, q2⟩
      rw [sh_eq h ht hw hwl hy ho q2]
      exact of_decide_eq_true q1
    · intro e
      obtain ⟨p, p1, p2, p3⟩ := h2 (by omega)
      refine ⟨decide_eq_true (by omega), ch_ld h p.length p y w (Nat.le_refl _) hwl hy p1 (p2.mono (fun _ _ h => h.1)) p3 fun u hu _ => ?_⟩
      clear h1 h2 e p3
      have : ∀ (p : List Int) (s : Nat), inT d.length p → Ch (fun a b => tight d (farL d to) a b = true ∧ okO o a b = true) s p → ∀ u ∈ p, w.testBit u.toNat = true := by
        intro p
        induction p with
        | nil => intro s _ _ u hu; cases hu
        | cons v p ih =>
          intro s hp hc u hu
          rcases List.mem_cons.1 hu with rfl | hu
          · have := hc.1.2
            unfold okO at this
            rw [Bool.and_eq_true] at this
            rw [hw _ hp.hd.1]
            exact this.2
          · exact ih _ hp.tail hc.2 u hu
      exact this p y p1 p2 u hu
end
section
variable {d : List (List Int)}
variable {to : Nat}
theorem sum_eq (h : okD d) (ht : to < d.length) {f : Nat} (hf : f < d.length) : sh d (List.replicate d.length false) f to = (farL d to).getD f 0 :=
  sh_eq h ht (w := 2 ^ d.length - 1) (fun u hu => by rw [all_bits]; simp [List.getD, List.getElem?_replicate, hu]) all1_lt hf (by simp [List.getD, List.getElem?_replicate, hf]) (ld_all h ht hf)
end
section
variable {d : List (List Int)}
variable {to : Nat}
theorem wy_in (h : okD d) {fa : List Int} : ∀ (k v w : Nat), w < 2 ^ d.length → inT d.length (wyF d fa to k v w) ∧ (wyF d fa to k v w).Nodup ∧ ∀ u ∈ wyF d fa to k v w, w.testBit u.toNat = true := by
  have h11 := h.1.2
  have h2048 := pow_le h.1.2
  intro k
  induction k with
  | zero => intro v w _; exact ⟨fun u hu => (by cases hu), List.nodup_nil, fun u hu => (by cases hu)⟩
  | succ k ih =>
    intro v w hw
    rw [wyF]
    split
    · exact ⟨fun u hu => (by cases hu), List.nodup_nil, fun u hu => (by cases hu)⟩
    · split
      · rename_i u hp
        obtain ⟨h3, h4, _⟩ := pck_some _ _ hp
        simp only [okW, Bool.and_eq_true] at h4
        have hlt := wo_lt h4.1.1
        obtain ⟨q1, q2, q3⟩ := ih u (wo w u) (by omega)
        have hwb := fun x => wo_bit (L := w) (v := u) (by omega) (by omega) x
        refine ⟨fun x hx => ?_, List.nodup_cons.2 ⟨fun hm => ?_, q2⟩, fun x hx => ?_⟩
        · rcases List.mem_cons.1 hx with rfl | hx
          · omega
          · exact q1 x hx
        · have := q3 _ hm
          rw [Int.toNat_natCast, hwb] at this
          simp at this
        · rcases List.mem_cons.1 hx with rfl | hx
          · rw [Int.toNat_natCast]; exact h4.1.1
          · have := q3 _ hx
            rw [hwb, Bool.and_eq_true] at this
            exact this.1
      · exact ⟨fun u hu => (by cases hu), List.nodup_nil, fun u hu => (by cases hu)⟩
end
section
variable {d : List (List Int)}
variable {to : Nat}
theorem way_len (h : okD d) {fr : Nat} : (wayL d fr to).length ≤ 12 := by
  have hw := wo_le (2 ^ d.length - 1) fr
  have := all1_lt (n := d.length)
  obtain ⟨q1, q2, _⟩ := wy_in (to := to) h (fa := farL d to) (2 ^ d.length) fr (wo (2 ^ d.length - 1) fr) (by omega)
  have := nd_len q2 q1
  have := h.1.2
  unfold wayL
  rw [List.length_cons]
  omega
end
end Go.Proofs.Ytlendaofkmhgmaa
end
section
open Go Go.HL
namespace Go.Proofs.Ytlendaofkmhgmaa
noncomputable def polG : Pol := { pol with prim := fun g => if g == 54 then some short54 else none }
theorem soundG (n : Nat) : CallSound Try.prog (callN Try.prog polG n) := sound_prim _ (fun g f h => by
  split at h
  · rename_i hg; cases h; rw [eq_of_beq hg]; exact short_ok
  · cases h) n
open Classical in
noncomputable def way25 : List HV → Option HV := wayF fun R a b => if okD R ∧ (0 ≤ a ∧ a < R.length) ∧ 0 ≤ b ∧ b < R.length then some (.tuple [.own 1 ((wayL R a.toNat b.toNat).map encI), .int .i64 ((farL R b.toNat).getD a.toNat 0)]) else none
theorem arg_bo {H : Heap} {o : List Bool} {b m : Nat} {cap : Option Nat} (hm : o.length = m) (hb : H[b]? = some (.arr 1 (o.map HV.bool) true 0)) : toArg H 6 (.sl b 0 m cap m 1) = some (.imm .arg 1 (o.map HV.bool)) := by
  subst hm
  have e : toArg H 6 (.sl b 0 o.length cap o.length 1) = if o.length = 0 then some (.imm .arg 1 []) else match view H b 0 o.length o.length 1 with | some l => (match mapO (toArg H 5) l with | some l => some (.imm .arg 1 l) | none => none) | none => none := rfl
  rw [e]
  split
  · rename_i h0
    rw [List.length_eq_zero_iff.1 h0]; rfl
  · have hv : view H b 0 o.length o.length 1 = some (o.map HV.bool) := by
      simp only [view, hb, List.length_map]
      rw [if_pos ⟨trivial, by omega, trivial⟩]
      simp [List.take_of_length_le]
    have hm : mapO (toArg H 5) (o.map HV.bool) = some (o.map HV.bool) := mapO_self (f := toArg H 5) (g := HV.bool) (fun _ => rfl) o
    rw [hv]
    simp only [hm]
theorem same_bB (l : List Bool) : sameH [.arr 1 (l.map HV.bool) true 0] [.arr 1 (l.map HV.bool) true 0] = true := same_arr fun v hv => by
  obtain ⟨k, _, rfl⟩ := List.mem_map.1 hv
  simp [same]
theorem toRes_li1 {H : Heap} {b k : Nat} {cap : Option Nat} {o : List Int} (hb : H[b]? = some (bI o)) (hk : o.length = k) (e : Int) : toRes H false (.tuple [.sl b 0 k cap k 1, .int .i64 e]) = some (.tuple [.own 1 (o.map encI), .int .i64 e]) := by
  have hr := resCell_sl (H := H) (no := [b]) (b := b) (k := 1) (m := k) (cap := cap) (els := o.map encI) hb (by simpa using hk) (mapO_self (fun r => frz_int 4 r) _)
  have ho : ownedAll H false (.tuple [.sl b 0 k cap k 1, .int .i64 e]) = [b] := by simp [ownedAll, cellsOf, owned, hb]
  simp only [toRes, ho, List.nodup_cons, List.not_mem_nil, not_false_eq_true, List.nodup_nil, and_self, if_true, mapO, resVal, hr]
  rfl
theorem b_get {o : List Bool} {H : Heap} {b y : Nat} (hb : H[b]? = some (.arr 1 (o.map HV.bool) true 0)) (hy : y < o.length) : loadV Try.prog H 4 (.ptr b y 0 o.length) = some (.bool (o.getD y false)) :=
  load_elem (b := b) hb (by simp) (by rw [List.getElem?_map, List.getElem?_eq_getElem hy]; simp [List.getD, List.getElem?_eq_getElem hy]) rfl a4 i4
theorem b_set {o : List Bool} {H : Heap} {b y : Nat} (hb : H[b]? = some (.arr 1 (o.map HV.bool) true 0)) (hy : y < o.length) (v : Bool) : storeV Try.prog H 4 (.ptr b y 0 o.length) (.bool v) = some (H.set b (.arr 1 ((o.set y v).map HV.bool) true 0)) := by
  have hi : (o.map HV.bool)[y]? = some (.bool o[y]) := by rw [List.getElem?_map, List.getElem?_eq_getElem hy]; rfl
  have := store_elem (P := Try.prog) (t := 4) (b := b) (tot := o.length) (v := .bool v) hb (by simp) hi rfl (by intro cs h; cases h) z4 rfl rfl (by simp [bnd])
  rw [this, List.map_set]
theorem b_idx {b n cap x : Nat} (hx : x < n) : idxV Try.prog 79 (.sl b 0 n (some cap) n 1) (.int .i64 (x : Int)) = some (.ptr b x 0 n) := by
  have := idx_sl (P := Try.prog) (t := 79) (b := b) (len := n) (tot := n) (cap := some cap) (ik := .i64) (n := (x : Int)) u79 z4 (by omega) (by omega)
  rwa [Int.toNat_natCast] at this
end Go.Proofs.Ytlendaofkmhgmaa
end
section
open Go Go.HL
namespace Go.Proofs.Ytlendaofkmhgmaa
set_option maxRecDepth 100000
noncomputable def B25 : Code := Try.f25.body.getD .skip
abbrev env25 (v0 v1 v2 v6 v7 v8 v9 v10 v11 v12 v13 v14 : HV) : Env := [(0, v0), (1, v1), (2, v2), (6, v6), (7, v7), (8, v8), (9, v9), (10, v10), (11, v11), (12, v12), (13, v13), (14, v14)]
theorem rw_a_0 (N : Nat) (rw : List HV) (fr to : Nat) (H : Heap) : RunsTo Try.prog polG 25 (sub [0] B25) [(0, .imm .arg 1 rw), (1, .i (fr : Int)), (2, .i (to : Int))] H .normal (polG.keys 25) (env25 (.imm .arg 1 rw) (.i (fr : Int)) (.i (to : Int)) (.imm .lit 1 []) (.i 0) .undef .undef .undef .undef .undef .undef .undef) H :=
  RunsTo.hin N 60 [] fun kf hk => ⟨_, by kernel_rfl, .nil⟩
theorem rw_b_0 (N : Nat) (rw : List HV) (fr to : Nat) (H : Heap) : RunsTo Try.prog polG 25 (sub [1, 0] B25) (env25 (.imm .arg 1 rw) (.i (fr : Int)) (.i (to : Int)) (.imm .lit 1 []) (.i 0) .undef .undef .undef .undef .undef .undef .undef) H .normal (polG.keys 25) (env25 (.imm .arg 1 rw) (.i (fr : Int)) (.i (to : Int)) (.imm .lit 1 []) (.i 0) (.i (rw.length : Int)) .undef .undef .undef .undef .undef .undef) H :=
  RunsTo.hin N 60 [] fun kf hk => ⟨_, by kernel_rfl, .nil⟩
theorem rw_c_0 (N : Nat) (rw : List HV) (fr to : Nat) (n : Nat) (H : Heap) (H0 : Heap) (g0 : makeV Try.prog false 79 (.i (n : Int)) (.i (n : Int)) H = some (.sl 0 0 n (some n) n 1, H0)) : RunsTo Try.prog polG 25 (sub [1, 1, 0] B25) (env25 (.imm .arg 1 rw) (.i (fr : Int)) (.i (to : Int)) (.imm .lit 1 []) (.i 0) (.i (n : Int)) .undef .undef .undef .undef .undef .undef) H .normal (polG.keys 25) (env25 (.imm .arg 1 rw) (.i (fr : Int)) (.i (to : Int)) (.imm .lit 1 []) (.i 0) (.i (n : Int)) (.sl 0 0 n (some n) n 1) .undef .undef .undef .undef .undef) H0 :=
  RunsTo.hin N 60 [⟨2, 1, .sl 0 0 n (some n) n 1, H0⟩] fun kf hk => ⟨_, by kernel_rfl, (oC (g0) .nil)⟩
theorem rw_d_0 (N : Nat) (rw : List HV) (fr to : Nat) (n : Nat) (H : Heap) (sm0 : Int) (H0 : Heap) (g0 : ∀ kf, N ≤ kf → callN Try.prog polG (kf + 1) 54 [.imm .arg 1 rw, .sl 0 0 n (some n) n 1, .i (fr : Int), .i (to : Int)] H = some (.i sm0, H0)) : RunsTo Try.prog polG 25 (sub [1, 1, 1, 0] B25) (env25 (.imm .arg 1 rw) (.i (fr : Int)) (.i (to : Int)) (.imm .lit 1 []) (.i 0) (.i (n : Int)) (.sl 0 0 n (some n) n 1) .undef .undef .undef .undef .undef) H .normal (polG.keys 25) (env25 (.imm .arg 1 rw) (.i (fr : Int)) (.i (to : Int)) (.imm .lit 1 []) (.i 0) (.i (n : Int)) (.sl 0 0 n (some n) n 1) (.i sm0) .undef .undef .undef .undef) H0 :=
  RunsTo.hin N 60 [⟨3, 4, .i sm0, H0⟩] fun kf hk => ⟨_, by kernel_rfl, (oC (g0 kf (by omega)) .nil)⟩
theorem rw_e_0 (N : Nat) (rw : List HV) (fr to : Nat) (n : Nat) (H : Heap) (sm : Int) (tv : HV) (H0 : Heap) (g0 : litV Try.prog true true 23 1 [(0, .i (fr : Int))] H = some (tv, H0)) : RunsTo Try.prog polG 25 (sub [1, 1, 1, 1, 0] B25) (env25 (.imm .arg 1 rw) (.i (fr : Int)) (.i (to : Int)) (.imm .lit 1 []) (.i 0) (.i (n : Int)) (.sl 0 0 n (some n) n 1) (.i sm) .undef .undef .undef .undef) H .normal (polG.keys 25) (env25 (.imm .arg 1 rw) (.i (fr : Int)) (.i (to : Int)) (.imm .lit 1 []) (.i 0) (.i (n : Int)) (.sl 0 0 n (some n) n 1) (.i sm) tv .undef .undef .undef) H0 :=
  RunsTo.hin N 60 [⟨4, 1, tv, H0⟩] fun kf hk => ⟨_, by kernel_rfl, (oC (g0) .nil)⟩
theorem rw_f_0 (N : Nat) (rw : List HV) (fr to : Nat) (n : Nat) (H : Heap) (sm : Int) (tv : HV) : RunsTo Try.prog polG 25 (sub [1, 1, 1, 1, 1, 0] B25) (env25 (.imm .arg 1 rw) (.i (fr : Int)) (.i (to : Int)) (.imm .lit 1 []) (.i 0) (.i (n : Int)) (.sl 0 0 n (some n) n 1) (.i sm) tv .undef .undef .undef) H .normal (polG.keys 25) (env25 (.imm .arg 1 rw) (.i (fr : Int)) (.i (to : Int)) (.imm .lit 1 []) (.i 0) (.i (n : Int)) (.sl 0 0 n (some n) n 1) (.i sm) tv (.i (fr : Int)) (.i sm) .undef) H :=
  RunsTo.hin N 60 [] fun kf hk => ⟨_, by kernel_rfl, .nil⟩
theorem rw_g_0 (N : Nat) (rw : List HV) (fr to : Nat) (n : Nat) (H : Heap) (sm : Int) (tv : HV) (x : Nat) (lf : Int) (y14 : HV)(g0 : (x : Int) = (to : Int)) : RunsTo Try.prog polG 25 (sub [1, 1, 1, 1, 1, 1, 0, 0, 0, 0] B25) (env25 (.imm .arg 1 rw) (.i (fr : Int)) (.i (to : Int)) (.imm .lit 1 []) (.i 0) (.i (n : Int)) (.sl 0 0 n (some n) n 1) (.i sm) tv (.i (x : Int)) (.i lf) y14) H (.exit 0) (polG.keys 25) (env25 (.imm .arg 1 rw) (.i (fr : Int)) (.i (to : Int)) (.imm .lit 1 []) (.i 0) (.i (n : Int)) (.sl 0 0 n (some n) n 1) (.i sm) tv (.i (x : Int)) (.i lf) y14) H :=
  RunsTo.hin N 60 [⟨6, 2, .bool false, H⟩] fun kf hk => ⟨_, by kernel_rfl, (oB H (congrArg not (decide_eq_true g0)) .nil)⟩
theorem rw_g_1 (N : Nat) (rw : List HV) (fr to : Nat) (n : Nat) (H : Heap) (sm : Int) (tv : HV) (x : Nat) (lf : Int) (y14 : HV)(g0 : ¬ ((x : Int) = (to : Int))) : RunsTo Try.prog polG 25 (sub [1, 1, 1, 1, 1, 1, 0, 0, 0, 0] B25) (env25 (.imm .arg 1 rw) (.i (fr : Int)) (.i (to : Int)) (.imm .lit 1 []) (.i 0) (.i (n : Int)) (.sl 0 0 n (some n) n 1) (.i sm) tv (.i (x : Int)) (.i lf) y14) H .normal (polG.keys 25) (env25 (.imm .arg 1 rw) (.i (fr : Int)) (.i (to : Int)) (.imm .lit 1 []) (.i 0) (.i (n : Int)) (.sl 0 0 n (some n) n 1) (.i sm) tv (.i (x : Int)) (.i lf) y14) H :=
  RunsTo.hin N 60 [⟨6, 2, .bool true, H⟩] fun kf hk => ⟨_, by kernel_rfl, (oB H (congrArg not (decide_eq_false g0)) .nil)⟩
theorem rw_h_0 (N : Nat) (rw : List HV) (fr to : Nat) (n : Nat) (H : Heap) (sm : Int) (tv : HV) (x : Nat) (lf : Int) (y14 : HV) (H0 : Heap) (g0 : idxV Try.prog 79 (.sl 0 0 n (some n) n 1) (.i (x : Int)) = some (.ptr 0 x 0 n)) (g1 : storeV Try.prog H 4 (.ptr 0 x 0 n) (.bool true) = some H0) : RunsTo Try.prog polG 25 (sub [1, 1, 1, 1, 1, 1, 0, 0, 0, 1, 0, 0] B25) (env25 (.imm .arg 1 rw) (.i (fr : Int)) (.i (to : Int)) (.imm .lit 1 []) (.i 0) (.i (n : Int)) (.sl 0 0 n (some n) n 1) (.i sm) tv (.i (x : Int)) (.i lf) y14) H .normal (polG.keys 25) (env25 (.imm .arg 1 rw) (.i (fr : Int)) (.i (to : Int)) (.imm .lit 1 []) (.i 0) (.i (n : Int)) (.sl 0 0 n (some n) n 1) (.i sm) tv (.i (x : Int)) (.i lf) y14) H0 :=
  RunsTo.hin N 60 [⟨7, 2, .ptr 0 x 0 n, H⟩, ⟨7, 3, .tuple [], H0⟩] fun kf hk => ⟨_, by kernel_rfl, (oP H g0 (oS g1 .nil))⟩
theorem rw_i_0 (N : Nat) (rw : List HV) (fr to : Nat) (n : Nat) (H : Heap) (sm : Int) (tv : HV) (x : Nat) (lf : Int) (y14 : HV) : RunsTo Try.prog polG 25 (sub [1, 1, 1, 1, 1, 1, 0, 0, 0, 1, 0, 1, 0] B25) (env25 (.imm .arg 1 rw) (.i (fr : Int)) (.i (to : Int)) (.imm .lit 1 []) (.i 0) (.i (n : Int)) (.sl 0 0 n (some n) n 1) (.i sm) tv (.i (x : Int)) (.i lf) y14) H .normal (polG.keys 25) (env25 (.imm .arg 1 rw) (.i (fr : Int)) (.i (to : Int)) (.imm .lit 1 []) (.i 0) (.i (n : Int)) (.sl 0 0 n (some n) n 1) (.i sm) tv (.i (x : Int)) (.i lf) (.i 0)) H :=
  RunsTo.hin N 60 [] fun kf hk => ⟨_, by kernel_rfl, .nil⟩
theorem rw_l_0 (N : Nat) (rw : List HV) (fr to : Nat) (n : Nat) (H : Heap) (sm : Int) (tv : HV) (x : Nat) (lf : Int) (y : Nat)(g0 : (y : Int) < (n : Int)) (g1 : idxV Try.prog 79 (.sl 0 0 n (some n) n 1) (.i (y : Int)) = some (.ptr 0 y 0 n)) (g2 : loadV Try.prog H 4 (.ptr 0 y 0 n) = some (.bool true)) (gS11 : (true && (true && true)) = true) : RunsTo Try.prog polG 25 (sub [1, 1, 1, 1, 1, 1, 0, 0, 0, 1, 0, 1, 1, 0, 0] B25) (env25 (.imm .arg 1 rw) (.i (fr : Int)) (.i (to : Int)) (.imm .lit 1 []) (.i 0) (.i (n : Int)) (.sl 0 0 n (some n) n 1) (.i sm) tv (.i (x : Int)) (.i lf) (.i (y : Int))) H .normal (polG.keys 25) (env25 (.imm .arg 1 rw) (.i (fr : Int)) (.i (to : Int)) (.imm .lit 1 []) (.i 0) (.i (n : Int)) (.sl 0 0 n (some n) n 1) (.i sm) tv (.i (x : Int)) (.i lf) (.i (IntKind.i64.wrap ((y : Int) + 1)))) H :=
  RunsTo.hin N 60 [⟨9, 2, .bool true, H⟩, ⟨11, 2, .ptr 0 y 0 n, H⟩, ⟨11, 3, .bool true, H⟩] fun kf hk => ⟨_, by kernel_rfl, (oB H (decide_eq_true g0) (oC (gS11) (oP H g1 (oP H g2 .nil))))⟩
theorem rw_l_1 (N : Nat) (rw : List HV) (fr to : Nat) (n : Nat) (H : Heap) (sm : Int) (tv : HV) (x : Nat) (lf : Int) (y : Nat) (l0 : List HV) (x0 : Int) (sm0 : Int) (H0 : Heap) (H1 : Heap) (v0 : HV) (l1 : List HV) (x1 : Int) (g0 : (y : Int) < (n : Int)) (g1 : idxV Try.prog 79 (.sl 0 0 n (some n) n 1) (.i (y : Int)) = some (.ptr 0 y 0 n)) (g2 : loadV Try.prog H 4 (.ptr 0 y 0 n) = some (.bool false)) (g3 : idxV Try.prog 22 (.imm .arg 1 rw) (.i (x : Int)) = some (.vptr (.imm .arg 1 l0))) (g4 : idxV Try.prog 23 (.imm .arg 1 l0) (.i (y : Int)) = some (.vptr (.i x0))) (g5 : ∀ kf, N ≤ kf → callN Try.prog polG (kf + 1) 54 [.imm .arg 1 rw, .sl 0 0 n (some n) n 1, .i (y : Int), .i (to : Int)] H = some (.i sm0, H0)) (g6 : IntKind.i64.wrap (x0 + sm0) = lf) (gS11 : ((same (.imm .arg 1 l0) (.imm .arg 1 l0) && sameH (H : Heap) H && sameH (H0 : Heap) H0) && ((same (.i x0) (.i x0) && sameH (H : Heap) H && sameH (H0 : Heap) H0) && true)) = true) (g8 : appV H0 1 8 (tv) [.i (y : Int)] = some (v0, H1)) (g9 : idxV Try.prog 22 (.imm .arg 1 rw) (.i (x : Int)) = some (.vptr (.imm .arg 1 l1))) (g10 : idxV Try.prog 23 (.imm .arg 1 l1) (.i (y : Int)) = some (.vptr (.i x1))) : RunsTo Try.prog polG 25 (sub [1, 1, 1, 1, 1, 1, 0, 0, 0, 1, 0, 1, 1, 0, 0] B25) (env25 (.imm .arg 1 rw) (.i (fr : Int)) (.i (to : Int)) (.imm .lit 1 []) (.i 0) (.i (n : Int)) (.sl 0 0 n (some n) n 1) (.i sm) tv (.i (x : Int)) (.i lf) (.i (y : Int))) H (.exit 2) (polG.keys 25) (env25 (.imm .arg 1 rw) (.i (fr : Int)) (.i (to : Int)) (.imm .lit 1 []) (.i 0) (.i (n : Int)) (.sl 0 0 n (some n) n 1) (.i sm) v0 (.i (y : Int)) (.i (IntKind.i64.wrap (lf - x1))) (.i (y : Int))) H1 :=
  RunsTo.hin N 60 [⟨9, 2, .bool true, H⟩, ⟨11, 2, .ptr 0 y 0 n, H⟩, ⟨11, 3, .bool false, H⟩, ⟨11, 8, .vptr (.imm .arg 1 l0), H⟩, ⟨11, 11, .vptr (.i x0), H⟩, ⟨11, 17, .i sm0, H0⟩, ⟨11, 20, .bool true, H0⟩, ⟨12, 3, v0, H1⟩, ⟨13, 3, .vptr (.imm .arg 1 l1), H1⟩, ⟨13, 6, .vptr (.i x1), H1⟩] fun kf hk => ⟨_, by kernel_rfl, (oB H (decide_eq_true g0) (oC (gS11) (oP H g1 (oP H g2 (oP H g3 (oP H g4 (oC (g5 kf (by omega)) (oB H0 (decide_eq_true g6) (oC (g8) (oP H1 g9 (oP H1 g10 .nil)))))))))))⟩
theorem rw_l_2 (N : Nat) (rw : List HV) (fr to : Nat) (n : Nat) (H : Heap) (sm : Int) (tv : HV) (x : Nat) (lf : Int) (y : Nat) (l0 : List HV) (x0 : Int) (sm0 : Int) (H0 : Heap) (g0 : (y : Int) < (n : Int)) (g1 : idxV Try.prog 79 (.sl 0 0 n (some n) n 1) (.i (y : Int)) = some (.ptr 0 y 0 n)) (g2 : loadV Try.prog H 4 (.ptr 0 y 0 n) = some (.bool false)) (g3 : idxV Try.prog 22 (.imm .arg 1 rw) (.i (x : Int)) = some (.vptr (.imm .arg 1 l0))) (g4 : idxV Try.prog 23 (.imm .arg 1 l0) (.i (y : Int)) = some (.vptr (.i x0))) (g5 : ∀ kf, N ≤ kf → callN Try.prog polG (kf + 1) 54 [.imm .arg 1 rw, .sl 0 0 n (some n) n 1, .i (y : Int), .i (to : Int)] H = some (.i sm0, H0)) (g6 : ¬ (IntKind.i64.wrap (x0 + sm0) = lf)) (gS11 : ((same (.imm .arg 1 l0) (.imm .arg 1 l0) && sameH (H : Heap) H && sameH (H0 : Heap) H0) && ((same (.i x0) (.i x0) && sameH (H : Heap) H && sameH (H0 : Heap) H0) && true)) = true) : RunsTo Try.prog polG 25 (sub [1, 1, 1, 1, 1, 1, 0, 0, 0, 1, 0, 1, 1, 0, 0] B25) (env25 (.imm .arg 1 rw) (.i (fr : Int)) (.i (to : Int)) (.imm .lit 1 []) (.i 0) (.i (n : Int)) (.sl 0 0 n (some n) n 1) (.i sm) tv (.i (x : Int)) (.i lf) (.i (y : Int))) H .normal (polG.keys 25) (env25 (.imm .arg 1 rw) (.i (fr : Int)) (.i (to : Int)) (.imm .lit 1 []) (.i 0) (.i (n : Int)) (.sl 0 0 n (some n) n 1) (.i sm) tv (.i (x : Int)) (.i lf) (.i (IntKind.i64.wrap ((y : Int) + 1)))) H0 :=
  RunsTo.hin N 60 [⟨9, 2, .bool true, H⟩, ⟨11, 2, .ptr 0 y 0 n, H⟩, ⟨11, 3, .bool false, H⟩, ⟨11, 8, .vptr (.imm .arg 1 l0), H⟩, ⟨11, 11, .vptr (.i x0), H⟩, ⟨11, 17, .i sm0, H0⟩, ⟨11, 20, .bool false, H0⟩] fun kf hk => ⟨_, by kernel_rfl, (oB H (decide_eq_true g0) (oC (gS11) (oP H g1 (oP H g2 (oP H g3 (oP H g4 (oC (g5 kf (by omega)) (oB H0 (decide_eq_false g6) .nil))))))))⟩
theorem rw_z_0 (N : Nat) (rw : List HV) (fr to : Nat) (n : Nat) (H : Heap) (sm : Int) (tv : HV) (x : Nat) (lf : Int) (y14 : HV) : RunsTo Try.prog polG 25 (sub [1, 1, 1, 1, 1, 1, 1] B25) (env25 (.imm .arg 1 rw) (.i (fr : Int)) (.i (to : Int)) (.imm .lit 1 []) (.i 0) (.i (n : Int)) (.sl 0 0 n (some n) n 1) (.i sm) tv (.i (x : Int)) (.i lf) y14) H .ret (polG.keys 25) (env25 (.imm .arg 1 rw) (.i (fr : Int)) (.i (to : Int)) tv (.i sm) (.i (n : Int)) (.sl 0 0 n (some n) n 1) (.i sm) tv (.i (x : Int)) (.i lf) y14) H :=
  RunsTo.hin N 60 [] fun kf hk => ⟨_, by kernel_rfl, .nil⟩
end Go.Proofs.Ytlendaofkmhgmaa
end
section
open Go Go.HL
namespace Go.Proofs.Ytlendaofkmhgmaa
theorem res25 : Try.f25.results.toList = [.tmp 6, .tmp 7] := by kernel_rfl
section
variable {d : List (List Int)} {to : Nat}
structure BG (d : List (List Int)) (o : List Bool) (l : List Int) (tv : HV) (H : Heap) : Prop where
  out : H[0]? = some (.arr 1 (o.map HV.bool) true 0)
  len : o.length = d.length
  rf : sameH H H = true
  mx : mxs H ≤ 0
  st : (tv = .sl 1 0 1 (some 1) 1 1 ∧ l.length = 1 ∧ H.length = 2 ∧ H[1]? = some (bI l)) ∨ (tv = .sl 2 0 l.length none l.length 1 ∧ H.length = 3 ∧ H[2]? = some (bI l))
end
section
variable {d : List (List Int)} {to : Nat}
theorem BG.len3 {o : List Bool} {l : List Int} {tv : HV} {H : Heap} (h : BG d o l tv H) : 2 ≤ H.length ∧ H.length ≤ 3 ∧ bnd tv = H.length := by
  rcases h.st with ⟨h1, _, h3, _⟩ | ⟨h1, h3, _⟩ <;> rw [h1, h3] <;> simp [bnd]
end
section
variable {d : List (List Int)} {to : Nat}
theorem BG.app {o : List Bool} {l : List Int} {tv : HV} {H : Heap} (h : BG d o l tv H) (hl : l.length ≤ 500) (x : Int) :
    ∃ H', appV H 1 8 tv [.int .i64 x] = some (.sl 2 0 (l.length + 1) none (l.length + 1) 1, H') ∧ BG d o (l ++ [x]) (.sl 2 0 (l.length + 1) none (l.length + 1) 1) H' := by
  rcases h.st with ⟨h1, h2, h3, h4⟩ | ⟨h1, h3, h4⟩
  · obtain ⟨y, rfl⟩ : ∃ y, l = [y] := by
      match l, h2 with
      | [y], _ => exact ⟨y, rfl⟩
    subst h1
    refine ⟨H ++ [bI ([y] ++ [x])], ?_, ?_, h.len, sameH_app h.rf (same_bI _), ?_, .inr ⟨by simp, by simp [h3], ?_⟩⟩
    · simp only [appV, h4, h3]
      simp [roomMax, bnd, bndL, encI]
    · rw [List.getElem?_append_left (by omega)]; exact h.out
    · rw [mxs_le]
      intro C hC
      rcases List.mem_append.1 hC with hC | hC
      · exact mxs_le.1 h.mx C hC
      · rw [List.mem_singleton.1 hC]; exact Nat.zero_le _
    · rw [List.getElem?_append_right (by omega), h3]; rfl
  · subst h1
    have ap := app_ints (xs := [x]) h4 (by simp; omega) (by simp)
    rw [show (l ++ [x]).length = l.length + 1 by simp] at ap
    refine ⟨_, ap, ?_, h.len, sameH_set h.rf (same_bI _), ?_, .inr ⟨by simp, by simp [h3], List.getElem?_set_self (by omega)⟩⟩
    · rw [List.getElem?_set_ne (by omega)]; exact h.out
    · rw [mxs_le]
      intro C hC
      rcases List.mem_or_eq_of_mem_set hC with hC | rfl
      · exact mxs_le.1 h.mx C hC
      · exact Nat.zero_le _
end
section
variable {d : List (List Int)} {to : Nat}
theorem BG.set {o : List Bool} {l : List Int} {tv : HV} {H : Heap} (h : BG d o l tv H) (y : Nat) : BG d (o.set y true) l tv (H.set 0 (.arr 1 ((o.set y true).map HV.bool) true 0)) := by
  have hl := h.len3
  refine ⟨List.getElem?_set_self (by omega), by simp [h.len], sameH_set h.rf (same_bB _), ?_, ?_⟩
  · rw [mxs_le]
    intro C hC
    rcases List.mem_or_eq_of_mem_set hC with hC | rfl
    · exact mxs_le.1 h.mx C hC
    · exact Nat.zero_le _
  · rw [List.length_set, List.getElem?_set_ne (by omega), List.getElem?_set_ne (by omega)]
    exact h.st
end
section
variable {d : List (List Int)} {to : Nat}
abbrev rwE (d : List (List Int)) (fr to : Nat) (sm : Int) (tv : HV) (x : Nat) (lf : Int) (y14 : HV) : Env := env25 (.imm .arg 1 (d.map encR)) (.int .i64 (fr : Int)) (.int .i64 (to : Int)) (.imm .lit 1 []) (.int .i64 0) (.int .i64 (d.length : Int)) (.sl 0 0 d.length (some d.length) d.length 1) (.int .i64 sm) tv (.int .i64 (x : Int)) (.int .i64 lf) y14
end
section
variable {d : List (List Int)} {to : Nat}
theorem q54 (hd : okD d) {o : List Bool} (ho : o.length = d.length) {H : Heap} (hb : H[0]? = some (.arr 1 (o.map HV.bool) true 0)) {y : Nat} (hy : y < d.length) (ht : to < d.length) : ∀ kf, 0 ≤ kf → callN Try.prog polG (kf + 1) 54 [.imm .arg 1 (d.map encR), .sl 0 0 d.length (some d.length) d.length 1, .int .i64 (y : Int), .int .i64 (to : Int)] H = some (.int .i64 (sh d o y to), H) := fun kf _ => by
  rw [prim_call (pol := polG) (g := 54) (F := short54) (by kernel_rfl) (rs := [.imm .arg 1 (d.map encR), .imm .arg 1 (o.map HV.bool), .int .i64 (y : Int), .int .i64 (to : Int)]) (by simp only [mapO, arg_rw, arg_bo ho hb]; rfl) (res := .int .i64 (sh d o y to)) (by
    simp only [short54, roF, mapO_map decR_enc, mapO_map decBo_enc]
    rw [if_pos ⟨hd, ho, by omega, by omega⟩]; simp only [Int.toNat_natCast])]; rfl
end
section
variable {d : List (List Int)} {to : Nat}
theorem rg_in (hd : okD d) (ht : to < d.length) {fr x w : Nat} {sm : Int} {o : List Bool} {l : List Int} {tv : HV} {H : Heap} (hx : x < d.length) (hw : w < 2 ^ d.length) (hL : Left d.length o w) (hB : BG d o l tv H) (hl : l.length ≤ 500) : ∀ k y u, y + k = d.length → pck (okW d (farL d to) to x w) k y = some u →
    ∃ H', RunsTo Try.prog polG 25 (sub [1, 1, 1, 1, 1, 1, 0, 0, 0, 1, 0, 1, 1, 0] B25) (rwE d fr to sm tv x ((farL d to).getD x 0) (.int .i64 (y : Int))) H (.exit 2) (polG.keys 25)
      (rwE d fr to sm (.sl 2 0 (l.length + 1) none (l.length + 1) 1) u ((farL d to).getD u 0) (.int .i64 (u : Int))) H' ∧ BG d o (l ++ [(u : Int)]) (.sl 2 0 (l.length + 1) none (l.length + 1) 1) H' := by
  have hn := hd.1
  intro k
  induction k with
  | zero => intro y u _ h; cases h
  | succ k ih =>
    intro y u hy hp
    rw [pck, okW_iff hd ht hL hw hx (by omega)] at hp
    have gb := b_idx (b := 0) (n := d.length) (cap := d.length) (x := y) (by omega)
    have lb := b_get (b := 0) hB.out (y := y) (by rw [hB.len]; omega)
    rw [hB.len] at lb
    have next : pck (okW d (farL d to) to x w) k (y + 1) = some u → RunsTo Try.prog polG 25 (sub [1, 1, 1, 1, 1, 1, 0, 0, 0, 1, 0, 1, 1, 0, 0] B25) (rwE d fr to sm tv x ((farL d to).getD x 0) (.int .i64 (y : Int))) H .normal (polG.keys 25) (rwE d fr to sm tv x ((farL d to).getD x 0) (.int .i64 (IntKind.i64.wrap ((y : Int) + 1)))) H →
      ∃ H', RunsTo Try.prog polG 25 (sub [1, 1, 1, 1, 1, 1, 0, 0, 0, 1, 0, 1, 1, 0] B25) (rwE d fr to sm tv x ((farL d to).getD x 0) (.int .i64 (y : Int))) H (.exit 2) (polG.keys 25)
      (rwE d fr to sm (.sl 2 0 (l.length + 1) none (l.length + 1) 1) u ((farL d to).getD u 0) (.int .i64 (u : Int))) H' ∧ BG d o (l ++ [(u : Int)]) (.sl 2 0 (l.length + 1) none (l.length + 1) 1) H' := fun hp s => by
      rw [wrap_succ (by omega)] at s
      obtain ⟨H', q1, q2⟩ := ih (y + 1) u (by omega) hp
      exact ⟨H', RunsTo.loop s (by kernel_rfl) (gc_eq _ rfl) q1 rfl (by kernel_rfl) (by kernel_rfl), q2⟩
    cases ho : o.getD y false with
    | true =>
      rw [ho] at lb
      rw [ho, Bool.not_true, Bool.false_and, if_neg (by simp)] at hp
      exact next hp (rw_l_0 0 (d.map encR) fr to d.length H sm tv x _ y (by omega) gb lb rfl)
    | false =>
      rw [ho] at lb
      rw [ho, Bool.not_false, Bool.true_and] at hp
      have c := q54 (to := to) hd hB.len hB.out (y := y) (by omega) ht
      have b1 := hd.at hx (j := y) (by omega)
      have b2 := (sh_ge hd ht (o := o) (f := y) (by omega)).1
      have b3 := far_bd hd ht (v := y) (by omega)
      have b4 := far_bd hd ht (v := x) (by omega)
      have hsh : sh d o y to ≤ 1099511627776 := ((BdA.rnds hd (allP_in (ok := okO o) d.length 0 (by omega)) d.length _ (init_bd (by omega))).2 to ht).2
      have hwr : IntKind.i64.wrap (at2 d x y + sh d o y to) = at2 d x y + sh d o y to := wrap_id (by omega) (by omega)
      have gS : ((same (.imm .arg 1 ((d.getD x []).map encI)) (.imm .arg 1 ((d.getD x []).map encI)) && sameH (H : Heap) H && sameH (H : Heap) H) && ((same (.int .i64 (at2 d x y)) (.int .i64 (at2 d x y)) && sameH (H : Heap) H && sameH (H : Heap) H) && true)) = true := by
        rw [same_imm, hB.rf]; simp [same]
      by_cases e : at2 d x y + sh d o y to = (farL d to).getD x 0
      · rw [decide_eq_true e, if_pos rfl] at hp
        have hyu : y = u := by injection hp
        subst hyu
        have hok : okW d (farL d to) to x w y = true := by
          rw [okW_iff hd ht hL hw hx (by omega), ho, decide_eq_true e]; rfl
        simp only [okW, Bool.and_eq_true] at hok
        have hti := of_decide_eq_true hok.1.2
        obtain ⟨H1, ap, hB1⟩ := hB.app hl (y : Int)
        have s := rw_l_1 0 (d.map encR) fr to d.length H sm tv x ((farL d to).getD x 0) y _ _ _ _ _ _ _ _ (by omega) gb lb (g22' hx) (g23' hd hx (by omega)) c (by rw [hwr]; exact e) gS ap (g22' hx) (g23' hd hx (by omega))
        have e2 : IntKind.i64.wrap ((farL d to).getD x 0 - at2 d x y) = (farL d to).getD y 0 := by
          rw [wrap_id (by omega) (by omega)]; omega
        rw [e2] at s
        exact ⟨H1, RunsTo.loop_out s (by simp) (by kernel_rfl) (by kernel_rfl), hB1⟩
      · rw [decide_eq_false e, if_neg (by simp)] at hp
        exact next hp (rw_l_2 0 (d.map encR) fr to d.length H sm tv x ((farL d to).getD x 0) y _ _ _ _ (by omega) gb lb (g22' hx) (g23' hd hx (by omega)) c (by rw [hwr]; exact e) gS)
end
section
variable {d : List (List Int)} {to : Nat}
theorem rg_loop (hd : okD d) (ht : to < d.length) {fr : Nat} {sm : Int} : ∀ (k x w : Nat) (o : List Bool) (l : List Int) (tv : HV) (H : Heap), w ≤ k → x < d.length → w < 2 ^ d.length → Left d.length (o.set x true) w → ldT d (farL d to) to x w = true → BG d o l tv H → l.length + (wyF d (farL d to) to (k + 1) x w).length ≤ 500 →
    ∃ b cap H', RunsTo Try.prog polG 25 (sub [1, 1, 1, 1, 1, 1, 0, 0] B25) (rwE d fr to sm tv x ((farL d to).getD x 0) .undef) H (.exit 0) (polG.keys 25) (rwE d fr to sm (.sl b 0 (l ++ wyF d (farL d to) to (k + 1) x w).length cap (l ++ wyF d (farL d to) to (k + 1) x w).length 1) to ((farL d to).getD to 0) .undef) H' ∧ H'[b]? = some (bI (l ++ wyF d (farL d to) to (k + 1) x w)) := by
  have h11 := hd.1
  have hp := pow_le hd.1.2
  have h0 : ∀ (k w : Nat) (o : List Bool) (l : List Int) (tv : HV) (H : Heap), BG d o l tv H → ∃ b cap H', RunsTo Try.prog polG 25 (sub [1, 1, 1, 1, 1, 1, 0, 0] B25) (rwE d fr to sm tv to ((farL d to).getD to 0) .undef) H (.exit 0) (polG.keys 25) (rwE d fr to sm (.sl b 0 (l ++ wyF d (farL d to) to (k + 1) to w).length cap (l ++ wyF d (farL d to) to (k + 1) to w).length 1) to ((farL d to).getD to 0) .undef) H' ∧ H'[b]? = some (bI (l ++ wyF d (farL d to) to (k + 1) to w)) := by
    intro k w o l tv H hB
    have s := rw_g_0 0 (d.map encR) fr to d.length H sm tv to ((farL d to).getD to 0) .undef (by omega)
    have r := RunsTo.loop_out (RunsTo.seq_out s (by simp) (c := sub [1, 1, 1, 1, 1, 1, 0, 0, 0] B25) (b := sub [1, 1, 1, 1, 1, 1, 0, 0, 0, 1] B25) (by kernel_rfl)) (by simp) (c := sub [1, 1, 1, 1, 1, 1, 0, 0] B25) (by kernel_rfl) (by kernel_rfl)
    rw [wyF, if_pos rfl, List.append_nil]
    rcases hB.st with ⟨h1, h2, h3, h4⟩ | ⟨h1, h3, h4⟩
    · subst h1
      rw [h2]
      exact ⟨1, some 1, H, r, h4⟩
    · subst h1
      exact ⟨2, none, H, r, h4⟩
  intro k
  induction k with
  | zero =>
    intro x w o l tv H hk hx _ hL hl hB _
    have : w = 0 := by omega
    subst this
    have hvt : x = to := by
      unfold ldT ldF at hl
      exact of_decide_eq_true hl
    subst hvt
    exact h0 0 0 o l tv H hB
  | succ k ih =>
    intro x w o l tv H hk hx hw hL hl hB hlen
    by_cases cv : x = to
    · subst cv
      exact h0 (k + 1) w o l tv H hB
    · obtain ⟨u, p1, p2, p3, p4, p5⟩ := pckW_ok cv hl
      have eg : wyF d (farL d to) to (k + 1 + 1) x w = (u : Int) :: wyF d (farL d to) to (k + 1) u (wo w u) := by rw [wyF, if_neg cv, p1]
      rw [eg] at hlen ⊢
      rw [List.length_cons] at hlen
      have g := rw_g_1 0 (d.map encR) fr to d.length H sm tv x ((farL d to).getD x 0) .undef (by omega)
      have st := b_set hB.out (y := x) (by rw [hB.len]; omega) true
      rw [hB.len] at st
      have h := rw_h_0 0 (d.map encR) fr to d.length H sm tv x ((farL d to).getD x 0) .undef _ (b_idx (by omega)) st
      have hB1 := hB.set x
      generalize H.set 0 (.arr 1 ((o.set x true).map HV.bool) true 0) = H1 at h hB1
      have hlH : H1.length = H.length := by rw [← hB1.len3.2.2, hB.len3.2.2]
      have i := rw_i_0 0 (d.map encR) fr to d.length H1 sm tv x ((farL d to).getD x 0) .undef
      obtain ⟨H2, r, hB2⟩ := rg_in (fr := fr) (sm := sm) hd ht hx hw hL hB1 (by omega) d.length 0 u (by omega) p1
      have t1 := RunsTo.seq i (RunsTo.block_exit (c := sub [1, 1, 1, 1, 1, 1, 0, 0, 0, 1, 0, 1, 1] B25) r (by kernel_rfl)) (c := sub [1, 1, 1, 1, 1, 1, 0, 0, 0, 1, 0, 1] B25) (by kernel_rfl) (by kernel_rfl)
      have t2 := RunsTo.seq h t1 (c := sub [1, 1, 1, 1, 1, 1, 0, 0, 0, 1, 0] B25) (by kernel_rfl) (by kernel_rfl)
      have t3 := RunsTo.block_normal (i := 1) (c := sub [1, 1, 1, 1, 1, 1, 0, 0, 0, 1] B25) t2 (by kernel_rfl)
      have t4 := RunsTo.seq g t3 (c := sub [1, 1, 1, 1, 1, 1, 0, 0, 0] B25) (by kernel_rfl) (by kernel_rfl)
      have hwl := wo_lt p3
      have hL2 : Left d.length ((o.set x true).set u true) (wo w u) := fun q hq => by
        have := hL q hq
        rw [wo_bit (by omega) (by omega), this]
        have hlo : (o.set x true).length = d.length := by simp [hB.len]
        by_cases e : q = u
        · subst e
          have : ((o.set x true).set q true).getD q false = true := by
            simp only [List.getD, List.getElem?_set, hlo, hq, if_true]; rfl
          rw [this]; simp
        · have : ((o.set x true).set u true).getD q false = (o.set x true).getD q false := by
            simp only [List.getD, List.getElem?_set (l := o.set x true), if_neg (fun h : u = q => e h.symm)]
          rw [this]; simp [e]
      have hm2 := hB2.mx
      have ec : gc H.length (bndE (rwE d fr to sm (.sl 2 0 (l.length + 1) none (l.length + 1) 1) u ((farL d to).getD u 0) .undef)) H2 = H2 := by
        have := hB2.len3
        unfold gc
        rw [List.take_of_length_le]
        have e3 : bndE (rwE d fr to sm (.sl 2 0 (l.length + 1) none (l.length + 1) 1) u ((farL d to).getD u 0) .undef) = 3 := by simp [bndE, bnd, bndL]
        rw [e3]; omega
      obtain ⟨tb, cap, H', q1, q2⟩ := ih u (wo w u) (o.set x true) (l ++ [(u : Int)]) _ H2 (by omega) p2 (by omega) hL2 p5 hB2 (by simp; omega)
      rw [List.append_assoc] at q1 q2
      exact ⟨tb, cap, H', RunsTo.loop t4 (by kernel_rfl) ec q1 rfl (by kernel_rfl) (by kernel_rfl), q2⟩
end
theorem rway_ok : PrimOk Try.prog 25 way25 := by
  refine primOk_pure (pol := polG) (fn := Try.f25) (cd := B25) follows_mixed soundG (by kernel_rfl) (by kernel_rfl) (fnok polG.prim _ _ (by kernel_rfl)) (by kernel_rfl) ?_
  intro args res h
  obtain ⟨d, a0, b0, rfl, hq⟩ := wayF_inv h
  clear h
  split at hq
  · rename_i hin
    cases hq
    obtain ⟨hd, ha, hb⟩ := hin
    have hn := hd.1
    have hp := pow_le hd.1.2
    obtain ⟨fr, rfl⟩ : ∃ x : Nat, a0 = (x : Int) := ⟨a0.toNat, by omega⟩
    obtain ⟨to, rfl⟩ : ∃ x : Nat, b0 = (x : Int) := ⟨b0.toNat, by omega⟩
    simp only [Int.toNat_natCast]
    have hfr : fr < d.length := by omega
    have hto : to < d.length := by omega
    have a := rw_a_0 0 (d.map encR) fr to []
    have b := rw_b_0 0 (d.map encR) fr to []
    rw [List.length_map] at b
    have mk := makeV_ok (P := Try.prog) (H := []) (t := 79) (e := 4) (k := 1) (bt := 1) (zv := .bool false) (n := (d.length : Int)) u79 (by kernel_rfl) (by simp [cellsOf, cellV]) (by simp [cellsOf]) (by omega) (by omega) (by simp only [roomMax]; omega)
    rw [Int.toNat_natCast] at mk
    have hrep : List.replicate d.length (HV.bool false) = (List.replicate d.length false).map HV.bool := by simp
    rw [hrep] at mk
    have c := rw_c_0 0 (d.map encR) fr to d.length [] _ mk
    have hsm := sum_eq hd hto hfr
    have dd := rw_d_0 0 (d.map encR) fr to d.length _ _ _ (q54 (o := List.replicate d.length false) hd (by simp) (H := [] ++ [.arr 1 ((List.replicate d.length false).map HV.bool) true 0]) rfl hfr hto)
    rw [hsm] at dd
    have e := rw_e_0 0 (d.map encR) fr to d.length _ ((farL d to).getD fr 0) _ _ (lit_one (fr : Int) ([] ++ [.arr 1 ((List.replicate d.length false).map HV.bool) true 0]))
    have hBG : BG d (List.replicate d.length false) [(fr : Int)] (.sl 1 0 1 (some 1) 1 1) [.arr 1 ((List.replicate d.length false).map HV.bool) true 0, bI [(fr : Int)]] :=
      ⟨rfl, by simp, sameH_app (H := [_]) (same_bB _) (same_bI _), by simp [mxs, Blk.mx], .inl ⟨rfl, rfl, rfl, rfl⟩⟩
    have f := rw_f_0 0 (d.map encR) fr to d.length [.arr 1 ((List.replicate d.length false).map HV.bool) true 0, bI [(fr : Int)]] ((farL d to).getD fr 0) (.sl 1 0 1 (some 1) 1 1)
    have hwle := wo_le (2 ^ d.length - 1) fr
    have hall := all1_lt (n := d.length)
    have hL : Left d.length ((List.replicate d.length false).set fr true) (wo (2 ^ d.length - 1) fr) := fun q hq => by
      rw [wo_bit (by omega) (by omega), all_bits, decide_eq_true hq, Bool.true_and]
      by_cases e : q = fr
      · subst e
        have : ((List.replicate d.length false).set q true).getD q false = true := by
          simp [List.getD, List.getElem?_set, hq]
        rw [this]; simp
      · have : ((List.replicate d.length false).set fr true).getD q false = false := by
          simp only [List.getD, List.getElem?_set, if_neg (fun h : fr = q => e h.symm), List.getElem?_replicate, if_pos hq]; rfl
        rw [this]; simp [e]
    obtain ⟨Kp, hKp⟩ : ∃ Kp, 2 ^ d.length = Kp + 1 := ⟨2 ^ d.length - 1, by omega⟩
    have ewy : wayL d fr to = [(fr : Int)] ++ wyF d (farL d to) to (Kp + 1) fr (wo (2 ^ d.length - 1) fr) := by rw [← hKp]; rfl
    have hlen := way_len (to := to) hd (fr := fr)
    rw [ewy, List.length_append] at hlen
    obtain ⟨tb, cap, H', q1, q2⟩ := rg_loop hd hto (fr := fr) (sm := (farL d to).getD fr 0) Kp fr (wo (2 ^ d.length - 1) fr) (List.replicate d.length false) [(fr : Int)] _ _ (by omega) hfr (by omega) hL (ld_all hd hto hfr) hBG (by omega)
    rw [← ewy] at q1 q2
    have z := rw_z_0 0 (d.map encR) fr to d.length H' ((farL d to).getD fr 0) (.sl tb 0 (wayL d fr to).length cap (wayL d fr to).length 1) to ((farL d to).getD to 0) .undef
    have t1 := RunsTo.seq (RunsTo.block_exit (c := sub [1, 1, 1, 1, 1, 1, 0] B25) q1 (by kernel_rfl)) z (c := sub [1, 1, 1, 1, 1, 1] B25) (by kernel_rfl) (by kernel_rfl)
    have t2 := RunsTo.seq f t1 (c := sub [1, 1, 1, 1, 1] B25) (by kernel_rfl) (by kernel_rfl)
    have t3 := RunsTo.seq e t2 (c := sub [1, 1, 1, 1] B25) (by kernel_rfl) (by kernel_rfl)
    have t4 := RunsTo.seq dd t3 (c := sub [1, 1, 1] B25) (by kernel_rfl) (by kernel_rfl)
    have t5 := RunsTo.seq c t4 (c := sub [1, 1] B25) (by kernel_rfl) (by kernel_rfl)
    have t6 := RunsTo.seq a (RunsTo.seq b t5 (c := sub [1] B25) (by kernel_rfl) (by kernel_rfl)) (c := B25) (by kernel_rfl) (by kernel_rfl)
    exact ⟨_, _, _, .tuple [.sl tb 0 (wayL d fr to).length cap (wayL d fr to).length 1, .int .i64 ((farL d to).getD fr 0)], t6, by simp, by simp only [resultsV, res25]; rfl, toRes_li1 q2 rfl _⟩
  · cases hq
end Go.Proofs.Ytlendaofkmhgmaa
end
section
open Go Go.HL
namespace Go.Proofs.Ytlendaofkmhgmaa
noncomputable def polH : Pol := { pol with prim := fun g => if g == 20 then some awakeF else if g == 15 then some table15 else if g == 22 then some metric22 else if g == 23 then some way23 else if g == 18 then some miles46 else if g == 24 then some metric24 else if g == 25 then some way25 else if g == 26 then some ints26 else none }
theorem soundH (n : Nat) : CallSound Try.prog (callN Try.prog polH n) := sound_prim _ (fun g f h => by
  split at h
  · rename_i hg; cases h; rw [eq_of_beq hg]; exact awake_prim
  split at h
  · rename_i hg; cases h; rw [eq_of_beq hg]; exact table_ok
  split at h
  · rename_i hg; cases h; rw [eq_of_beq hg]; exact metric_ok
  split at h
  · rename_i hg; cases h; rw [eq_of_beq hg]; exact way_ok
  split at h
  · rename_i hg; cases h; rw [eq_of_beq hg]; exact dist_ok
  split at h
  · rename_i hg; cases h; rw [eq_of_beq hg]; exact rmetric_ok
  split at h
  · rename_i hg; cases h; rw [eq_of_beq hg]; exact rway_ok
  split at h
  · rename_i hg; cases h; rw [eq_of_beq hg]; exact ints_ok
  · cases h) n
end Go.Proofs.Ytlendaofkmhgmaa
end
section
open Go Go.HL
namespace Go.Proofs.Ytlendaofkmhgmaa
set_option maxRecDepth 100000
noncomputable def B4 : Code := Try.f4.body.getD .skip
abbrev env4 (v0 v1 v3 v4 v5 v6 v7 v8 v9 v10 v11 v12 v13 v14 v15 : HV) : Env := [(0, v0), (1, v1), (3, v3), (4, v4), (5, v5), (6, v6), (7, v7), (8, v8), (9, v9), (10, v10), (11, v11), (12, v12), (13, v13), (14, v14), (15, v15)]
theorem ly_a_0 (rw : List HV) (p r : Int) : RunsTo Try.prog polH 4 (sub [0] B4) [(0, .imm .arg 1 rw), (1, .agg [.i p, .i r])] [] .normal (polH.keys 4) (env4 (.imm .arg 1 rw) (.agg [.i p, .i r]) (.ptr 0 0 0 1) (.bool false) .undef .undef .undef .undef .undef .undef .undef .undef .undef .undef .undef) [.arr 2 [.agg [.i p, .i r]] true 0] :=
  RunsTo.hin 0 60 [] fun kf hk => ⟨_, by kernel_rfl, .nil⟩
theorem ly_b_0 (rw : List HV) (p r : Int) (n : Nat) (xs : List HV) (g0 : ∀ kf, callN Try.prog polH (kf + 1) 15 [.imm .arg 1 rw] [.arr 2 [.agg [.i p, .i r]] true 0] = some (.sl 1 0 n none n 1, [.arr 2 [.agg [.i p, .i r]] true 0, .arr 1 xs true 0])) : RunsTo Try.prog polH 4 (sub [1, 0] B4) (env4 (.imm .arg 1 rw) (.agg [.i p, .i r]) (.ptr 0 0 0 1) (.bool false) .undef .undef .undef .undef .undef .undef .undef .undef .undef .undef .undef) [.arr 2 [.agg [.i p, .i r]] true 0] .normal (polH.keys 4) (env4 (.imm .arg 1 rw) (.agg [.i p, .i r]) (.ptr 0 0 0 1) (.bool false) (.sl 1 0 n none n 1) .undef .undef .undef .undef .undef .undef .undef .undef .undef .undef) [.arr 2 [.agg [.i p, .i r]] true 0, .arr 1 xs true 0] :=
  RunsTo.hin 0 60 [⟨1, 1, .sl 1 0 n none n 1, [.arr 2 [.agg [.i p, .i r]] true 0, .arr 1 xs true 0]⟩] fun kf hk => ⟨_, by kernel_rfl, (oC (g0 kf) .nil)⟩
theorem ly_c_0 (rw : List HV) (p r : Int) (n : Nat) (xs : List HV) (va : Int) (vb : Int) (vc : Int) (e : Int) (g0 : ∀ kf, callN Try.prog polH (kf + 1) 22 [.sl 1 0 n none n 1] [.arr 2 [.agg [.i p, .i r]] true 0, .arr 1 xs true 0] = some (.tuple [.agg [.i va, .i vb, .i vc], .bool true, .i e], [.arr 2 [.agg [.i p, .i r]] true 0, .arr 1 xs true 0])) : RunsTo Try.prog polH 4 (sub [1, 1, 0] B4) (env4 (.imm .arg 1 rw) (.agg [.i p, .i r]) (.ptr 0 0 0 1) (.bool false) (.sl 1 0 n none n 1) .undef .undef .undef .undef .undef .undef .undef .undef .undef .undef) [.arr 2 [.agg [.i p, .i r]] true 0, .arr 1 xs true 0] .normal (polH.keys 4) (env4 (.imm .arg 1 rw) (.agg [.i p, .i r]) (.ptr 0 0 0 1) (.bool false) (.sl 1 0 n none n 1) (.ptr 2 0 0 1) (.bool true) (.i e) .undef .undef .undef .undef .undef .undef .undef) [.arr 2 [.agg [.i p, .i r]] true 0, .arr 1 xs true 0, .arr 3 [.agg [.i va, .i vb, .i vc]] true 0] :=
  RunsTo.hin 0 60 [⟨2, 1, .tuple [.agg [.i va, .i vb, .i vc], .bool true, .i e], [.arr 2 [.agg [.i p, .i r]] true 0, .arr 1 xs true 0]⟩] fun kf hk => ⟨_, by kernel_rfl, (oC (g0 kf) .nil)⟩
theorem ly_c_1 (rw : List HV) (p r : Int) (n : Nat) (xs : List HV) (va : Int) (vb : Int) (vc : Int) (e : Int) (g0 : ∀ kf, callN Try.prog polH (kf + 1) 22 [.sl 1 0 n none n 1] [.arr 2 [.agg [.i p, .i r]] true 0, .arr 1 xs true 0] = some (.tuple [.agg [.i va, .i vb, .i vc], .bool false, .i e], [.arr 2 [.agg [.i p, .i r]] true 0, .arr 1 xs true 0])) : RunsTo Try.prog polH 4 (sub [1, 1, 0] B4) (env4 (.imm .arg 1 rw) (.agg [.i p, .i r]) (.ptr 0 0 0 1) (.bool false) (.sl 1 0 n none n 1) .undef .undef .undef .undef .undef .undef .undef .undef .undef .undef) [.arr 2 [.agg [.i p, .i r]] true 0, .arr 1 xs true 0] .normal (polH.keys 4) (env4 (.imm .arg 1 rw) (.agg [.i p, .i r]) (.ptr 0 0 0 1) (.bool false) (.sl 1 0 n none n 1) (.ptr 2 0 0 1) (.bool false) (.i e) .undef .undef .undef .undef .undef .undef .undef) [.arr 2 [.agg [.i p, .i r]] true 0, .arr 1 xs true 0, .arr 3 [.agg [.i va, .i vb, .i vc]] true 0] :=
  RunsTo.hin 0 60 [⟨2, 1, .tuple [.agg [.i va, .i vb, .i vc], .bool false, .i e], [.arr 2 [.agg [.i p, .i r]] true 0, .arr 1 xs true 0]⟩] fun kf hk => ⟨_, by kernel_rfl, (oC (g0 kf) .nil)⟩
theorem ly_dt_0 (rw : List HV) (p r : Int) (n : Nat) (xs : List HV) (va vb vc e : Int) (q : Nat) (os : List HV) (sm : Int) (f : Int) (g0 : ∀ kf, callN Try.prog polH (kf + 1) 23 [.sl 1 0 n none n 1, .i p, .i r] [.arr 2 [.agg [.i p, .i r]] true 0, .arr 1 xs true 0, .arr 3 [.agg [.i va, .i vb, .i vc]] true 0] = some (.tuple [.sl 3 0 q none q 1, .i sm, .i f], [.arr 2 [.agg [.i p, .i r]] true 0, .arr 1 xs true 0, .arr 3 [.agg [.i va, .i vb, .i vc]] true 0, .arr 1 os true 0])) : RunsTo Try.prog polH 4 (sub [1, 1, 1, 0] B4) (env4 (.imm .arg 1 rw) (.agg [.i p, .i r]) (.ptr 0 0 0 1) (.bool false) (.sl 1 0 n none n 1) (.ptr 2 0 0 1) (.bool true) (.i e) .undef .undef .undef .undef .undef .undef .undef) [.arr 2 [.agg [.i p, .i r]] true 0, .arr 1 xs true 0, .arr 3 [.agg [.i va, .i vb, .i vc]] true 0] .normal (polH.keys 4) (env4 (.imm .arg 1 rw) (.agg [.i p, .i r]) (.ptr 0 0 0 1) (.bool false) (.sl 1 0 n none n 1) (.ptr 2 0 0 1) (.bool true) (.i e) (.sl 3 0 q none q 1) (.i sm) (.i f) .undef .undef .undef .undef) [.arr 2 [.agg [.i p, .i r]] true 0, .arr 1 xs true 0, .arr 3 [.agg [.i va, .i vb, .i vc]] true 0, .arr 1 os true 0] :=
  RunsTo.hin 0 60 [⟨3, 5, .tuple [.sl 3 0 q none q 1, .i sm, .i f], [.arr 2 [.agg [.i p, .i r]] true 0, .arr 1 xs true 0, .arr 3 [.agg [.i va, .i vb, .i vc]] true 0, .arr 1 os true 0]⟩] fun kf hk => ⟨_, by kernel_rfl, (oC (g0 kf) .nil)⟩
theorem ly_df_0 (rw : List HV) (p r : Int) (n : Nat) (xs : List HV) (va vb vc e : Int) (q : Nat) (os : List HV) (sm : Int) (f : Int) (g0 : ∀ kf, callN Try.prog polH (kf + 1) 23 [.sl 1 0 n none n 1, .i p, .i r] [.arr 2 [.agg [.i p, .i r]] true 0, .arr 1 xs true 0, .arr 3 [.agg [.i va, .i vb, .i vc]] true 0] = some (.tuple [.sl 3 0 q none q 1, .i sm, .i f], [.arr 2 [.agg [.i p, .i r]] true 0, .arr 1 xs true 0, .arr 3 [.agg [.i va, .i vb, .i vc]] true 0, .arr 1 os true 0])) : RunsTo Try.prog polH 4 (sub [1, 1, 1, 0] B4) (env4 (.imm .arg 1 rw) (.agg [.i p, .i r]) (.ptr 0 0 0 1) (.bool false) (.sl 1 0 n none n 1) (.ptr 2 0 0 1) (.bool false) (.i e) .undef .undef .undef .undef .undef .undef .undef) [.arr 2 [.agg [.i p, .i r]] true 0, .arr 1 xs true 0, .arr 3 [.agg [.i va, .i vb, .i vc]] true 0] .normal (polH.keys 4) (env4 (.imm .arg 1 rw) (.agg [.i p, .i r]) (.ptr 0 0 0 1) (.bool false) (.sl 1 0 n none n 1) (.ptr 2 0 0 1) (.bool false) (.i e) (.sl 3 0 q none q 1) (.i sm) (.i f) .undef .undef .undef .undef) [.arr 2 [.agg [.i p, .i r]] true 0, .arr 1 xs true 0, .arr 3 [.agg [.i va, .i vb, .i vc]] true 0, .arr 1 os true 0] :=
  RunsTo.hin 0 60 [⟨3, 5, .tuple [.sl 3 0 q none q 1, .i sm, .i f], [.arr 2 [.agg [.i p, .i r]] true 0, .arr 1 xs true 0, .arr 3 [.agg [.i va, .i vb, .i vc]] true 0, .arr 1 os true 0]⟩] fun kf hk => ⟨_, by kernel_rfl, (oC (g0 kf) .nil)⟩
theorem ly_e_1 (rw : List HV) (p r : Int) (n : Nat) (xs : List HV) (va vb vc e : Int) (q : Nat) (os : List HV) (sm f : Int)(g0 : ∀ kf, callN Try.prog polH (kf + 1) 18 [.sl 1 0 n none n 1] [.arr 2 [.agg [.i p, .i r]] true 0, .arr 1 xs true 0, .arr 3 [.agg [.i va, .i vb, .i vc]] true 0, .arr 1 os true 0] = some (.bool false, [.arr 2 [.agg [.i p, .i r]] true 0, .arr 1 xs true 0, .arr 3 [.agg [.i va, .i vb, .i vc]] true 0, .arr 1 os true 0])) (g1 : binV Try.prog .eql 35 (.agg [.i va, .i vb, .i vc]) (.agg [.i 0, .i 0, .i 0]) = some (.bool true)) (g2 : e = 2) (g3 : (q : Int) = 0) (g4 : sm = 0) (g5 : f = 2) : RunsTo Try.prog polH 4 (sub [1, 1, 1, 1, 0] B4) (env4 (.imm .arg 1 rw) (.agg [.i p, .i r]) (.ptr 0 0 0 1) (.bool false) (.sl 1 0 n none n 1) (.ptr 2 0 0 1) (.bool false) (.i e) (.sl 3 0 q none q 1) (.i sm) (.i f) .undef .undef .undef .undef) [.arr 2 [.agg [.i p, .i r]] true 0, .arr 1 xs true 0, .arr 3 [.agg [.i va, .i vb, .i vc]] true 0, .arr 1 os true 0] .ret (polH.keys 4) (env4 (.imm .arg 1 rw) (.agg [.i p, .i r]) (.ptr 0 0 0 1) (.bool true) (.sl 1 0 n none n 1) (.ptr 2 0 0 1) (.bool false) (.i e) (.sl 3 0 q none q 1) (.i sm) (.i f) .undef .undef .undef .undef) [.arr 2 [.agg [.i p, .i r]] true 0, .arr 1 xs true 0, .arr 3 [.agg [.i va, .i vb, .i vc]] true 0, .arr 1 os true 0] :=
  RunsTo.hin 0 60 [⟨4, 1, .bool false, [.arr 2 [.agg [.i p, .i r]] true 0, .arr 1 xs true 0, .arr 3 [.agg [.i va, .i vb, .i vc]] true 0, .arr 1 os true 0]⟩, ⟨5, 2, .bool true, [.arr 2 [.agg [.i p, .i r]] true 0, .arr 1 xs true 0, .arr 3 [.agg [.i va, .i vb, .i vc]] true 0, .arr 1 os true 0]⟩, ⟨5, 9, .bool true, [.arr 2 [.agg [.i p, .i r]] true 0, .arr 1 xs true 0, .arr 3 [.agg [.i va, .i vb, .i vc]] true 0, .arr 1 os true 0]⟩, ⟨5, 14, .bool true, [.arr 2 [.agg [.i p, .i r]] true 0, .arr 1 xs true 0, .arr 3 [.agg [.i va, .i vb, .i vc]] true 0, .arr 1 os true 0]⟩, ⟨5, 18, .bool true, [.arr 2 [.agg [.i p, .i r]] true 0, .arr 1 xs true 0, .arr 3 [.agg [.i va, .i vb, .i vc]] true 0, .arr 1 os true 0]⟩, ⟨5, 22, .bool true, [.arr 2 [.agg [.i p, .i r]] true 0, .arr 1 xs true 0, .arr 3 [.agg [.i va, .i vb, .i vc]] true 0, .arr 1 os true 0]⟩] fun kf hk => ⟨_, by kernel_rfl, (oC (g0 kf) (oP [.arr 2 [.agg [.i p, .i r]] true 0, .arr 1 xs true 0, .arr 3 [.agg [.i va, .i vb, .i vc]] true 0, .arr 1 os true 0] g1 (oB [.arr 2 [.agg [.i p, .i r]] true 0, .arr 1 xs true 0, .arr 3 [.agg [.i va, .i vb, .i vc]] true 0, .arr 1 os true 0] (decide_eq_true g2) (oB [.arr 2 [.agg [.i p, .i r]] true 0, .arr 1 xs true 0, .arr 3 [.agg [.i va, .i vb, .i vc]] true 0, .arr 1 os true 0] (decide_eq_true g3) (oB [.arr 2 [.agg [.i p, .i r]] true 0, .arr 1 xs true 0, .arr 3 [.agg [.i va, .i vb, .i vc]] true 0, .arr 1 os true 0] (decide_eq_true g4) (oB [.arr 2 [.agg [.i p, .i r]] true 0, .arr 1 xs true 0, .arr 3 [.agg [.i va, .i vb, .i vc]] true 0, .arr 1 os true 0] (decide_eq_true g5) .nil))))))⟩
theorem ly_et_0 (rw : List HV) (p r : Int) (n : Nat) (xs : List HV) (va vb vc e : Int) (q : Nat) (os : List HV) (sm f : Int)(g0 : ∀ kf, callN Try.prog polH (kf + 1) 18 [.sl 1 0 n none n 1] [.arr 2 [.agg [.i p, .i r]] true 0, .arr 1 xs true 0, .arr 3 [.agg [.i va, .i vb, .i vc]] true 0, .arr 1 os true 0] = some (.bool true, [.arr 2 [.agg [.i p, .i r]] true 0, .arr 1 xs true 0, .arr 3 [.agg [.i va, .i vb, .i vc]] true 0, .arr 1 os true 0])) : RunsTo Try.prog polH 4 (sub [1, 1, 1, 1, 0] B4) (env4 (.imm .arg 1 rw) (.agg [.i p, .i r]) (.ptr 0 0 0 1) (.bool false) (.sl 1 0 n none n 1) (.ptr 2 0 0 1) (.bool true) (.i e) (.sl 3 0 q none q 1) (.i sm) (.i f) .undef .undef .undef .undef) [.arr 2 [.agg [.i p, .i r]] true 0, .arr 1 xs true 0, .arr 3 [.agg [.i va, .i vb, .i vc]] true 0, .arr 1 os true 0] .normal (polH.keys 4) (env4 (.imm .arg 1 rw) (.agg [.i p, .i r]) (.ptr 0 0 0 1) (.bool false) (.sl 1 0 n none n 1) (.ptr 2 0 0 1) (.bool true) (.i e) (.sl 3 0 q none q 1) (.i sm) (.i f) .undef .undef .undef .undef) [.arr 2 [.agg [.i p, .i r]] true 0, .arr 1 xs true 0, .arr 3 [.agg [.i va, .i vb, .i vc]] true 0, .arr 1 os true 0] :=
  RunsTo.hin 0 60 [⟨4, 1, .bool true, [.arr 2 [.agg [.i p, .i r]] true 0, .arr 1 xs true 0, .arr 3 [.agg [.i va, .i vb, .i vc]] true 0, .arr 1 os true 0]⟩] fun kf hk => ⟨_, by kernel_rfl, (oC (g0 kf) .nil)⟩
theorem ly_gt_0 (rw : List HV) (p r : Int) (n : Nat) (xs : List HV) (va vb vc e : Int) (q : Nat) (os : List HV) (sm f : Int)(g0 : ∀ kf, callN Try.prog polH (kf + 1) 24 [.sl 1 0 n none n 1] [.arr 2 [.agg [.i p, .i r]] true 0, .arr 1 xs true 0, .arr 3 [.agg [.i va, .i vb, .i vc]] true 0, .arr 1 os true 0] = some (.tuple [.agg [.i va, .i vb, .i vc], .bool true], [.arr 2 [.agg [.i p, .i r]] true 0, .arr 1 xs true 0, .arr 3 [.agg [.i va, .i vb, .i vc]] true 0, .arr 1 os true 0])) : RunsTo Try.prog polH 4 (sub [1, 1, 1, 1, 1, 0] B4) (env4 (.imm .arg 1 rw) (.agg [.i p, .i r]) (.ptr 0 0 0 1) (.bool false) (.sl 1 0 n none n 1) (.ptr 2 0 0 1) (.bool true) (.i e) (.sl 3 0 q none q 1) (.i sm) (.i f) .undef .undef .undef .undef) [.arr 2 [.agg [.i p, .i r]] true 0, .arr 1 xs true 0, .arr 3 [.agg [.i va, .i vb, .i vc]] true 0, .arr 1 os true 0] .normal (polH.keys 4) (env4 (.imm .arg 1 rw) (.agg [.i p, .i r]) (.ptr 0 0 0 1) (.bool false) (.sl 1 0 n none n 1) (.ptr 2 0 0 1) (.bool true) (.i e) (.sl 3 0 q none q 1) (.i sm) (.i f) (.ptr 4 0 0 1) (.bool true) .undef .undef) [.arr 2 [.agg [.i p, .i r]] true 0, .arr 1 xs true 0, .arr 3 [.agg [.i va, .i vb, .i vc]] true 0, .arr 1 os true 0, .arr 3 [.agg [.i va, .i vb, .i vc]] true 0] :=
  RunsTo.hin 0 60 [⟨6, 1, .tuple [.agg [.i va, .i vb, .i vc], .bool true], [.arr 2 [.agg [.i p, .i r]] true 0, .arr 1 xs true 0, .arr 3 [.agg [.i va, .i vb, .i vc]] true 0, .arr 1 os true 0]⟩] fun kf hk => ⟨_, by kernel_rfl, (oC (g0 kf) .nil)⟩
theorem ly_ht_1 (rw : List HV) (p r : Int) (n : Nat) (xs : List HV) (va vb vc e : Int) (q : Nat) (os : List HV) (sm f : Int)(g0 : binV Try.prog .neq 35 (.agg [.i va, .i vb, .i vc]) (.agg [.i va, .i vb, .i vc]) = some (.bool false)) (g1 : e = 0) : RunsTo Try.prog polH 4 (sub [1, 1, 1, 1, 1, 1, 0] B4) (env4 (.imm .arg 1 rw) (.agg [.i p, .i r]) (.ptr 0 0 0 1) (.bool false) (.sl 1 0 n none n 1) (.ptr 2 0 0 1) (.bool true) (.i e) (.sl 3 0 q none q 1) (.i sm) (.i f) (.ptr 4 0 0 1) (.bool true) .undef .undef) [.arr 2 [.agg [.i p, .i r]] true 0, .arr 1 xs true 0, .arr 3 [.agg [.i va, .i vb, .i vc]] true 0, .arr 1 os true 0, .arr 3 [.agg [.i va, .i vb, .i vc]] true 0] .normal (polH.keys 4) (env4 (.imm .arg 1 rw) (.agg [.i p, .i r]) (.ptr 0 0 0 1) (.bool false) (.sl 1 0 n none n 1) (.ptr 2 0 0 1) (.bool true) (.i e) (.sl 3 0 q none q 1) (.i sm) (.i f) (.ptr 4 0 0 1) (.bool true) .undef .undef) [.arr 2 [.agg [.i p, .i r]] true 0, .arr 1 xs true 0, .arr 3 [.agg [.i va, .i vb, .i vc]] true 0, .arr 1 os true 0, .arr 3 [.agg [.i va, .i vb, .i vc]] true 0] :=
  RunsTo.hin 0 60 [⟨7, 2, .bool false, [.arr 2 [.agg [.i p, .i r]] true 0, .arr 1 xs true 0, .arr 3 [.agg [.i va, .i vb, .i vc]] true 0, .arr 1 os true 0, .arr 3 [.agg [.i va, .i vb, .i vc]] true 0]⟩, ⟨7, 10, .bool false, [.arr 2 [.agg [.i p, .i r]] true 0, .arr 1 xs true 0, .arr 3 [.agg [.i va, .i vb, .i vc]] true 0, .arr 1 os true 0, .arr 3 [.agg [.i va, .i vb, .i vc]] true 0]⟩] fun kf hk => ⟨_, by kernel_rfl, (oP [.arr 2 [.agg [.i p, .i r]] true 0, .arr 1 xs true 0, .arr 3 [.agg [.i va, .i vb, .i vc]] true 0, .arr 1 os true 0, .arr 3 [.agg [.i va, .i vb, .i vc]] true 0] g0 (oB [.arr 2 [.agg [.i p, .i r]] true 0, .arr 1 xs true 0, .arr 3 [.agg [.i va, .i vb, .i vc]] true 0, .arr 1 os true 0, .arr 3 [.agg [.i va, .i vb, .i vc]] true 0] (congrArg not (decide_eq_true g1)) .nil))⟩
theorem ly_it_0 (rw : List HV) (p r : Int) (n : Nat) (xs : List HV) (va vb vc e : Int) (q : Nat) (os : List HV) (sm f : Int)(g0 : p < 0) : RunsTo Try.prog polH 4 (sub [1, 1, 1, 1, 1, 1, 1, 0] B4) (env4 (.imm .arg 1 rw) (.agg [.i p, .i r]) (.ptr 0 0 0 1) (.bool false) (.sl 1 0 n none n 1) (.ptr 2 0 0 1) (.bool true) (.i e) (.sl 3 0 0 none 0 1) (.i 0) (.i 2) (.ptr 4 0 0 1) (.bool true) .undef .undef) [.arr 2 [.agg [.i p, .i r]] true 0, .arr 1 xs true 0, .arr 3 [.agg [.i va, .i vb, .i vc]] true 0, .arr 1 [] true 0, .arr 3 [.agg [.i va, .i vb, .i vc]] true 0] .ret (polH.keys 4) (env4 (.imm .arg 1 rw) (.agg [.i p, .i r]) (.ptr 0 0 0 1) (.bool true) (.sl 1 0 n none n 1) (.ptr 2 0 0 1) (.bool true) (.i e) (.sl 3 0 0 none 0 1) (.i 0) (.i 2) (.ptr 4 0 0 1) (.bool true) .undef .undef) [.arr 2 [.agg [.i p, .i r]] true 0, .arr 1 xs true 0, .arr 3 [.agg [.i va, .i vb, .i vc]] true 0, .arr 1 [] true 0, .arr 3 [.agg [.i va, .i vb, .i vc]] true 0] :=
  RunsTo.hin 0 60 [⟨9, 2, .bool true, [.arr 2 [.agg [.i p, .i r]] true 0, .arr 1 xs true 0, .arr 3 [.agg [.i va, .i vb, .i vc]] true 0, .arr 1 [] true 0, .arr 3 [.agg [.i va, .i vb, .i vc]] true 0]⟩] fun kf hk => ⟨_, by kernel_rfl, (oB [.arr 2 [.agg [.i p, .i r]] true 0, .arr 1 xs true 0, .arr 3 [.agg [.i va, .i vb, .i vc]] true 0, .arr 1 [] true 0, .arr 3 [.agg [.i va, .i vb, .i vc]] true 0] (decide_eq_true g0) .nil)⟩
theorem ly_it_1 (rw : List HV) (p r : Int) (n : Nat) (xs : List HV) (va vb vc e : Int) (q : Nat) (os : List HV) (sm f : Int)(g0 : ¬ (p < 0)) (g1 : (n : Int) ≤ p) : RunsTo Try.prog polH 4 (sub [1, 1, 1, 1, 1, 1, 1, 0] B4) (env4 (.imm .arg 1 rw) (.agg [.i p, .i r]) (.ptr 0 0 0 1) (.bool false) (.sl 1 0 n none n 1) (.ptr 2 0 0 1) (.bool true) (.i e) (.sl 3 0 0 none 0 1) (.i 0) (.i 2) (.ptr 4 0 0 1) (.bool true) .undef .undef) [.arr 2 [.agg [.i p, .i r]] true 0, .arr 1 xs true 0, .arr 3 [.agg [.i va, .i vb, .i vc]] true 0, .arr 1 [] true 0, .arr 3 [.agg [.i va, .i vb, .i vc]] true 0] .ret (polH.keys 4) (env4 (.imm .arg 1 rw) (.agg [.i p, .i r]) (.ptr 0 0 0 1) (.bool true) (.sl 1 0 n none n 1) (.ptr 2 0 0 1) (.bool true) (.i e) (.sl 3 0 0 none 0 1) (.i 0) (.i 2) (.ptr 4 0 0 1) (.bool true) .undef .undef) [.arr 2 [.agg [.i p, .i r]] true 0, .arr 1 xs true 0, .arr 3 [.agg [.i va, .i vb, .i vc]] true 0, .arr 1 [] true 0, .arr 3 [.agg [.i va, .i vb, .i vc]] true 0] :=
  RunsTo.hin 0 60 [⟨9, 2, .bool false, [.arr 2 [.agg [.i p, .i r]] true 0, .arr 1 xs true 0, .arr 3 [.agg [.i va, .i vb, .i vc]] true 0, .arr 1 [] true 0, .arr 3 [.agg [.i va, .i vb, .i vc]] true 0]⟩, ⟨9, 8, .bool true, [.arr 2 [.agg [.i p, .i r]] true 0, .arr 1 xs true 0, .arr 3 [.agg [.i va, .i vb, .i vc]] true 0, .arr 1 [] true 0, .arr 3 [.agg [.i va, .i vb, .i vc]] true 0]⟩] fun kf hk => ⟨_, by kernel_rfl, (oB [.arr 2 [.agg [.i p, .i r]] true 0, .arr 1 xs true 0, .arr 3 [.agg [.i va, .i vb, .i vc]] true 0, .arr 1 [] true 0, .arr 3 [.agg [.i va, .i vb, .i vc]] true 0] (decide_eq_false g0) (oB [.arr 2 [.agg [.i p, .i r]] true 0, .arr 1 xs true 0, .arr 3 [.agg [.i va, .i vb, .i vc]] true 0, .arr 1 [] true 0, .arr 3 [.agg [.i va, .i vb, .i vc]] true 0] (decide_eq_true g1) .nil))⟩
theorem ly_it_2 (rw : List HV) (p r : Int) (n : Nat) (xs : List HV) (va vb vc e : Int) (q : Nat) (os : List HV) (sm f : Int)(g0 : ¬ (p < 0)) (g1 : ¬ ((n : Int) ≤ p)) (g2 : r < 0) : RunsTo Try.prog polH 4 (sub [1, 1, 1, 1, 1, 1, 1, 0] B4) (env4 (.imm .arg 1 rw) (.agg [.i p, .i r]) (.ptr 0 0 0 1) (.bool false) (.sl 1 0 n none n 1) (.ptr 2 0 0 1) (.bool true) (.i e) (.sl 3 0 0 none 0 1) (.i 0) (.i 2) (.ptr 4 0 0 1) (.bool true) .undef .undef) [.arr 2 [.agg [.i p, .i r]] true 0, .arr 1 xs true 0, .arr 3 [.agg [.i va, .i vb, .i vc]] true 0, .arr 1 [] true 0, .arr 3 [.agg [.i va, .i vb, .i vc]] true 0] .ret (polH.keys 4) (env4 (.imm .arg 1 rw) (.agg [.i p, .i r]) (.ptr 0 0 0 1) (.bool true) (.sl 1 0 n none n 1) (.ptr 2 0 0 1) (.bool true) (.i e) (.sl 3 0 0 none 0 1) (.i 0) (.i 2) (.ptr 4 0 0 1) (.bool true) .undef .undef) [.arr 2 [.agg [.i p, .i r]] true 0, .arr 1 xs true 0, .arr 3 [.agg [.i va, .i vb, .i vc]] true 0, .arr 1 [] true 0, .arr 3 [.agg [.i va, .i vb, .i vc]] true 0] :=
  RunsTo.hin 0 60 [⟨9, 2, .bool false, [.arr 2 [.agg [.i p, .i r]] true 0, .arr 1 xs true 0, .arr 3 [.agg [.i va, .i vb, .i vc]] true 0, .arr 1 [] true 0, .arr 3 [.agg [.i va, .i vb, .i vc]] true 0]⟩, ⟨9, 8, .bool false, [.arr 2 [.agg [.i p, .i r]] true 0, .arr 1 xs true 0, .arr 3 [.agg [.i va, .i vb, .i vc]] true 0, .arr 1 [] true 0, .arr 3 [.agg [.i va, .i vb, .i vc]] true 0]⟩, ⟨9, 13, .bool true, [.arr 2 [.agg [.i p, .i r]] true 0, .arr 1 xs true 0, .arr 3 [.agg [.i va, .i vb, .i vc]] true 0, .arr 1 [] true 0, .arr 3 [.agg [.i va, .i vb, .i vc]] true 0]⟩] fun kf hk => ⟨_, by kernel_rfl, (oB [.arr 2 [.agg [.i p, .i r]] true 0, .arr 1 xs true 0, .arr 3 [.agg [.i va, .i vb, .i vc]] true 0, .arr 1 [] true 0, .arr 3 [.agg [.i va, .i vb, .i vc]] true 0] (decide_eq_false g0) (oB [.arr 2 [.agg [.i p, .i r]] true 0, .arr 1 xs true 0, .arr 3 [.agg [.i va, .i vb, .i vc]] true 0, .arr 1 [] true 0, .arr 3 [.agg [.i va, .i vb, .i vc]] true 0] (decide_eq_false g1) (oB [.arr 2 [.agg [.i p, .i r]] true 0, .arr 1 xs true 0, .arr 3 [.agg [.i va, .i vb, .i vc]] true 0, .arr 1 [] true 0, .arr 3 [.agg [.i va, .i vb, .i vc]] true 0] (decide_eq_true g2) .nil)))⟩
theorem ly_it_3 (rw : List HV) (p r : Int) (n : Nat) (xs : List HV) (va vb vc e : Int) (q : Nat) (os : List HV) (sm f : Int)(g0 : ¬ (p < 0)) (g1 : ¬ ((n : Int) ≤ p)) (g2 : ¬ (r < 0)) (g3 : (n : Int) ≤ r) : RunsTo Try.prog polH 4 (sub [1, 1, 1, 1, 1, 1, 1, 0] B4) (env4 (.imm .arg 1 rw) (.agg [.i p, .i r]) (.ptr 0 0 0 1) (.bool false) (.sl 1 0 n none n 1) (.ptr 2 0 0 1) (.bool true) (.i e) (.sl 3 0 0 none 0 1) (.i 0) (.i 2) (.ptr 4 0 0 1) (.bool true) .undef .undef) [.arr 2 [.agg [.i p, .i r]] true 0, .arr 1 xs true 0, .arr 3 [.agg [.i va, .i vb, .i vc]] true 0, .arr 1 [] true 0, .arr 3 [.agg [.i va, .i vb, .i vc]] true 0] .ret (polH.keys 4) (env4 (.imm .arg 1 rw) (.agg [.i p, .i r]) (.ptr 0 0 0 1) (.bool true) (.sl 1 0 n none n 1) (.ptr 2 0 0 1) (.bool true) (.i e) (.sl 3 0 0 none 0 1) (.i 0) (.i 2) (.ptr 4 0 0 1) (.bool true) .undef .undef) [.arr 2 [.agg [.i p, .i r]] true 0, .arr 1 xs true 0, .arr 3 [.agg [.i va, .i vb, .i vc]] true 0, .arr 1 [] true 0, .arr 3 [.agg [.i va, .i vb, .i vc]] true 0] :=
  RunsTo.hin 0 60 [⟨9, 2, .bool false, [.arr 2 [.agg [.i p, .i r]] true 0, .arr 1 xs true 0, .arr 3 [.agg [.i va, .i vb, .i vc]] true 0, .arr 1 [] true 0, .arr 3 [.agg [.i va, .i vb, .i vc]] true 0]⟩, ⟨9, 8, .bool false, [.arr 2 [.agg [.i p, .i r]] true 0, .arr 1 xs true 0, .arr 3 [.agg [.i va, .i vb, .i vc]] true 0, .arr 1 [] true 0, .arr 3 [.agg [.i va, .i vb, .i vc]] true 0]⟩, ⟨9, 13, .bool false, [.arr 2 [.agg [.i p, .i r]] true 0, .arr 1 xs true 0, .arr 3 [.agg [.i va, .i vb, .i vc]] true 0, .arr 1 [] true 0, .arr 3 [.agg [.i va, .i vb, .i vc]] true 0]⟩, ⟨9, 20, .bool true, [.arr 2 [.agg [.i p, .i r]] true 0, .arr 1 xs true 0, .arr 3 [.agg [.i va, .i vb, .i vc]] true 0, .arr 1 [] true 0, .arr 3 [.agg [.i va, .i vb, .i vc]] true 0]⟩] fun kf hk => ⟨_, by kernel_rfl, (oB [.arr 2 [.agg [.i p, .i r]] true 0, .arr 1 xs true 0, .arr 3 [.agg [.i va, .i vb, .i vc]] true 0, .arr 1 [] true 0, .arr 3 [.agg [.i va, .i vb, .i vc]] true 0] (decide_eq_false g0) (oB [.arr 2 [.agg [.i p, .i r]] true 0, .arr 1 xs true 0, .arr 3 [.agg [.i va, .i vb, .i vc]] true 0, .arr 1 [] true 0, .arr 3 [.agg [.i va, .i vb, .i vc]] true 0] (decide_eq_false g1) (oB [.arr 2 [.agg [.i p, .i r]] true 0, .arr 1 xs true 0, .arr 3 [.agg [.i va, .i vb, .i vc]] true 0, .arr 1 [] true 0, .arr 3 [.agg [.i va, .i vb, .i vc]] true 0] (decide_eq_false g2) (oB [.arr 2 [.agg [.i p, .i r]] true 0, .arr 1 xs true 0, .arr 3 [.agg [.i va, .i vb, .i vc]] true 0, .arr 1 [] true 0, .arr 3 [.agg [.i va, .i vb, .i vc]] true 0] (decide_eq_true g3) .nil))))⟩
theorem ly_kt_16 (rw : List HV) (p r : Int) (n : Nat) (xs : List HV) (va vb vc e : Int) (q : Nat) (os : List HV) (sm f : Int)(g0 : ¬ (p < 0)) (g1 : ¬ ((n : Int) ≤ p)) (g2 : ¬ (r < 0)) (g3 : ¬ ((n : Int) ≤ r)) : RunsTo Try.prog polH 4 (sub [1, 1, 1, 1, 1, 1, 1, 0] B4) (env4 (.imm .arg 1 rw) (.agg [.i p, .i r]) (.ptr 0 0 0 1) (.bool false) (.sl 1 0 n none n 1) (.ptr 2 0 0 1) (.bool true) (.i e) (.sl 3 0 q none q 1) (.i sm) (.i f) (.ptr 4 0 0 1) (.bool true) .undef .undef) [.arr 2 [.agg [.i p, .i r]] true 0, .arr 1 xs true 0, .arr 3 [.agg [.i va, .i vb, .i vc]] true 0, .arr 1 os true 0, .arr 3 [.agg [.i va, .i vb, .i vc]] true 0] .normal (polH.keys 4) (env4 (.imm .arg 1 rw) (.agg [.i p, .i r]) (.ptr 0 0 0 1) (.bool false) (.sl 1 0 n none n 1) (.ptr 2 0 0 1) (.bool true) (.i e) (.sl 3 0 q none q 1) (.i sm) (.i f) (.ptr 4 0 0 1) (.bool true) .undef .undef) [.arr 2 [.agg [.i p, .i r]] true 0, .arr 1 xs true 0, .arr 3 [.agg [.i va, .i vb, .i vc]] true 0, .arr 1 os true 0, .arr 3 [.agg [.i va, .i vb, .i vc]] true 0] :=
  RunsTo.hin 0 60 [⟨9, 2, .bool false, [.arr 2 [.agg [.i p, .i r]] true 0, .arr 1 xs true 0, .arr 3 [.agg [.i va, .i vb, .i vc]] true 0, .arr 1 os true 0, .arr 3 [.agg [.i va, .i vb, .i vc]] true 0]⟩, ⟨9, 8, .bool false, [.arr 2 [.agg [.i p, .i r]] true 0, .arr 1 xs true 0, .arr 3 [.agg [.i va, .i vb, .i vc]] true 0, .arr 1 os true 0, .arr 3 [.agg [.i va, .i vb, .i vc]] true 0]⟩, ⟨9, 13, .bool false, [.arr 2 [.agg [.i p, .i r]] true 0, .arr 1 xs true 0, .arr 3 [.agg [.i va, .i vb, .i vc]] true 0, .arr 1 os true 0, .arr 3 [.agg [.i va, .i vb, .i vc]] true 0]⟩, ⟨9, 20, .bool false, [.arr 2 [.agg [.i p, .i r]] true 0, .arr 1 xs true 0, .arr 3 [.agg [.i va, .i vb, .i vc]] true 0, .arr 1 os true 0, .arr 3 [.agg [.i va, .i vb, .i vc]] true 0]⟩] fun kf hk => ⟨_, by kernel_rfl, (oB [.arr 2 [.agg [.i p, .i r]] true 0, .arr 1 xs true 0, .arr 3 [.agg [.i va, .i vb, .i vc]] true 0, .arr 1 os true 0, .arr 3 [.agg [.i va, .i vb, .i vc]] true 0] (decide_eq_false g0) (oB [.arr 2 [.agg [.i p, .i r]] true 0, .arr 1 xs true 0, .arr 3 [.agg [.i va, .i vb, .i vc]] true 0, .arr 1 os true 0, .arr 3 [.agg [.i va, .i vb, .i vc]] true 0] (decide_eq_false g1) (oB [.arr 2 [.agg [.i p, .i r]] true 0, .arr 1 xs true 0, .arr 3 [.agg [.i va, .i vb, .i vc]] true 0, .arr 1 os true 0, .arr 3 [.agg [.i va, .i vb, .i vc]] true 0] (decide_eq_false g2) (oB [.arr 2 [.agg [.i p, .i r]] true 0, .arr 1 xs true 0, .arr 3 [.agg [.i va, .i vb, .i vc]] true 0, .arr 1 os true 0, .arr 3 [.agg [.i va, .i vb, .i vc]] true 0] (decide_eq_false g3) .nil))))⟩
theorem ly_jt_0 (rw : List HV) (p r : Int) (n : Nat) (xs : List HV) (va vb vc e : Int) (q : Nat) (os : List HV) (sm f : Int) (q2 : Nat) (os2 : List HV) (sm2 : Int) (g0 : ∀ kf, callN Try.prog polH (kf + 1) 25 [.sl 1 0 n none n 1, .i p, .i r] [.arr 2 [.agg [.i p, .i r]] true 0, .arr 1 xs true 0, .arr 3 [.agg [.i va, .i vb, .i vc]] true 0, .arr 1 os true 0, .arr 3 [.agg [.i va, .i vb, .i vc]] true 0] = some (.tuple [.sl 5 0 q2 none q2 1, .i sm2], [.arr 2 [.agg [.i p, .i r]] true 0, .arr 1 xs true 0, .arr 3 [.agg [.i va, .i vb, .i vc]] true 0, .arr 1 os true 0, .arr 3 [.agg [.i va, .i vb, .i vc]] true 0, .arr 1 os2 true 0])) (g1 : ∀ kf, callN Try.prog polH (kf + 1) 26 [.sl 3 0 q none q 1, .sl 5 0 q2 none q2 1] [.arr 2 [.agg [.i p, .i r]] true 0, .arr 1 xs true 0, .arr 3 [.agg [.i va, .i vb, .i vc]] true 0, .arr 1 os true 0, .arr 3 [.agg [.i va, .i vb, .i vc]] true 0, .arr 1 os2 true 0] = some (.bool true, [.arr 2 [.agg [.i p, .i r]] true 0, .arr 1 xs true 0, .arr 3 [.agg [.i va, .i vb, .i vc]] true 0, .arr 1 os true 0, .arr 3 [.agg [.i va, .i vb, .i vc]] true 0, .arr 1 os2 true 0])) (g2 : sm = sm2) (g3 : f = 0) : RunsTo Try.prog polH 4 (sub [1, 1, 1, 1, 1, 1, 1, 1] B4) (env4 (.imm .arg 1 rw) (.agg [.i p, .i r]) (.ptr 0 0 0 1) (.bool false) (.sl 1 0 n none n 1) (.ptr 2 0 0 1) (.bool true) (.i e) (.sl 3 0 q none q 1) (.i sm) (.i f) (.ptr 4 0 0 1) (.bool true) .undef .undef) [.arr 2 [.agg [.i p, .i r]] true 0, .arr 1 xs true 0, .arr 3 [.agg [.i va, .i vb, .i vc]] true 0, .arr 1 os true 0, .arr 3 [.agg [.i va, .i vb, .i vc]] true 0] .ret (polH.keys 4) (env4 (.imm .arg 1 rw) (.agg [.i p, .i r]) (.ptr 0 0 0 1) (.bool true) (.sl 1 0 n none n 1) (.ptr 2 0 0 1) (.bool true) (.i e) (.sl 3 0 q none q 1) (.i sm) (.i f) (.ptr 4 0 0 1) (.bool true) (.sl 5 0 q2 none q2 1) (.i sm2)) [.arr 2 [.agg [.i p, .i r]] true 0, .arr 1 xs true 0, .arr 3 [.agg [.i va, .i vb, .i vc]] true 0, .arr 1 os true 0, .arr 3 [.agg [.i va, .i vb, .i vc]] true 0, .arr 1 os2 true 0] :=
  RunsTo.hin 0 60 [⟨11, 5, .tuple [.sl 5 0 q2 none q2 1, .i sm2], [.arr 2 [.agg [.i p, .i r]] true 0, .arr 1 xs true 0, .arr 3 [.agg [.i va, .i vb, .i vc]] true 0, .arr 1 os true 0, .arr 3 [.agg [.i va, .i vb, .i vc]] true 0, .arr 1 os2 true 0]⟩, ⟨12, 2, .bool true, [.arr 2 [.agg [.i p, .i r]] true 0, .arr 1 xs true 0, .arr 3 [.agg [.i va, .i vb, .i vc]] true 0, .arr 1 os true 0, .arr 3 [.agg [.i va, .i vb, .i vc]] true 0, .arr 1 os2 true 0]⟩, ⟨12, 6, .bool true, [.arr 2 [.agg [.i p, .i r]] true 0, .arr 1 xs true 0, .arr 3 [.agg [.i va, .i vb, .i vc]] true 0, .arr 1 os true 0, .arr 3 [.agg [.i va, .i vb, .i vc]] true 0, .arr 1 os2 true 0]⟩, ⟨12, 10, .bool true, [.arr 2 [.agg [.i p, .i r]] true 0, .arr 1 xs true 0, .arr 3 [.agg [.i va, .i vb, .i vc]] true 0, .arr 1 os true 0, .arr 3 [.agg [.i va, .i vb, .i vc]] true 0, .arr 1 os2 true 0]⟩] fun kf hk => ⟨_, by kernel_rfl, (oC (g0 kf) (oC (g1 kf) (oB [.arr 2 [.agg [.i p, .i r]] true 0, .arr 1 xs true 0, .arr 3 [.agg [.i va, .i vb, .i vc]] true 0, .arr 1 os true 0, .arr 3 [.agg [.i va, .i vb, .i vc]] true 0, .arr 1 os2 true 0] (decide_eq_true g2) (oB [.arr 2 [.agg [.i p, .i r]] true 0, .arr 1 xs true 0, .arr 3 [.agg [.i va, .i vb, .i vc]] true 0, .arr 1 os true 0, .arr 3 [.agg [.i va, .i vb, .i vc]] true 0, .arr 1 os2 true 0] (decide_eq_true g3) .nil))))⟩
theorem ly_ef_0 (rw : List HV) (p r : Int) (n : Nat) (xs : List HV) (va vb vc e : Int) (q : Nat) (os : List HV) (sm f : Int)(g0 : ∀ kf, callN Try.prog polH (kf + 1) 18 [.sl 1 0 n none n 1] [.arr 2 [.agg [.i p, .i r]] true 0, .arr 1 xs true 0, .arr 3 [.agg [.i va, .i vb, .i vc]] true 0, .arr 1 os true 0] = some (.bool true, [.arr 2 [.agg [.i p, .i r]] true 0, .arr 1 xs true 0, .arr 3 [.agg [.i va, .i vb, .i vc]] true 0, .arr 1 os true 0])) : RunsTo Try.prog polH 4 (sub [1, 1, 1, 1, 0] B4) (env4 (.imm .arg 1 rw) (.agg [.i p, .i r]) (.ptr 0 0 0 1) (.bool false) (.sl 1 0 n none n 1) (.ptr 2 0 0 1) (.bool false) (.i e) (.sl 3 0 q none q 1) (.i sm) (.i f) .undef .undef .undef .undef) [.arr 2 [.agg [.i p, .i r]] true 0, .arr 1 xs true 0, .arr 3 [.agg [.i va, .i vb, .i vc]] true 0, .arr 1 os true 0] .normal (polH.keys 4) (env4 (.imm .arg 1 rw) (.agg [.i p, .i r]) (.ptr 0 0 0 1) (.bool false) (.sl 1 0 n none n 1) (.ptr 2 0 0 1) (.bool false) (.i e) (.sl 3 0 q none q 1) (.i sm) (.i f) .undef .undef .undef .undef) [.arr 2 [.agg [.i p, .i r]] true 0, .arr 1 xs true 0, .arr 3 [.agg [.i va, .i vb, .i vc]] true 0, .arr 1 os true 0] :=
  RunsTo.hin 0 60 [⟨4, 1, .bool true, [.arr 2 [.agg [.i p, .i r]] true 0, .arr 1 xs true 0, .arr 3 [.agg [.i va, .i vb, .i vc]] true 0, .arr 1 os true 0]⟩] fun kf hk => ⟨_, by kernel_rfl, (oC (g0 kf) .nil)⟩
theorem ly_gf_0 (rw : List HV) (p r : Int) (n : Nat) (xs : List HV) (va vb vc e : Int) (q : Nat) (os : List HV) (sm f : Int)(g0 : ∀ kf, callN Try.prog polH (kf + 1) 24 [.sl 1 0 n none n 1] [.arr 2 [.agg [.i p, .i r]] true 0, .arr 1 xs true 0, .arr 3 [.agg [.i va, .i vb, .i vc]] true 0, .arr 1 os true 0] = some (.tuple [.agg [.i va, .i vb, .i vc], .bool false], [.arr 2 [.agg [.i p, .i r]] true 0, .arr 1 xs true 0, .arr 3 [.agg [.i va, .i vb, .i vc]] true 0, .arr 1 os true 0])) : RunsTo Try.prog polH 4 (sub [1, 1, 1, 1, 1, 0] B4) (env4 (.imm .arg 1 rw) (.agg [.i p, .i r]) (.ptr 0 0 0 1) (.bool false) (.sl 1 0 n none n 1) (.ptr 2 0 0 1) (.bool false) (.i e) (.sl 3 0 q none q 1) (.i sm) (.i f) .undef .undef .undef .undef) [.arr 2 [.agg [.i p, .i r]] true 0, .arr 1 xs true 0, .arr 3 [.agg [.i va, .i vb, .i vc]] true 0, .arr 1 os true 0] .normal (polH.keys 4) (env4 (.imm .arg 1 rw) (.agg [.i p, .i r]) (.ptr 0 0 0 1) (.bool false) (.sl 1 0 n none n 1) (.ptr 2 0 0 1) (.bool false) (.i e) (.sl 3 0 q none q 1) (.i sm) (.i f) (.ptr 4 0 0 1) (.bool false) .undef .undef) [.arr 2 [.agg [.i p, .i r]] true 0, .arr 1 xs true 0, .arr 3 [.agg [.i va, .i vb, .i vc]] true 0, .arr 1 os true 0, .arr 3 [.agg [.i va, .i vb, .i vc]] true 0] :=
  RunsTo.hin 0 60 [⟨6, 1, .tuple [.agg [.i va, .i vb, .i vc], .bool false], [.arr 2 [.agg [.i p, .i r]] true 0, .arr 1 xs true 0, .arr 3 [.agg [.i va, .i vb, .i vc]] true 0, .arr 1 os true 0]⟩] fun kf hk => ⟨_, by kernel_rfl, (oC (g0 kf) .nil)⟩
theorem ly_hf_1 (rw : List HV) (p r : Int) (n : Nat) (xs : List HV) (va vb vc e : Int) (q : Nat) (os : List HV) (sm f : Int)(g0 : binV Try.prog .neq 35 (.agg [.i va, .i vb, .i vc]) (.agg [.i va, .i vb, .i vc]) = some (.bool false)) (g1 : e = 0) : RunsTo Try.prog polH 4 (sub [1, 1, 1, 1, 1, 1, 0] B4) (env4 (.imm .arg 1 rw) (.agg [.i p, .i r]) (.ptr 0 0 0 1) (.bool false) (.sl 1 0 n none n 1) (.ptr 2 0 0 1) (.bool false) (.i e) (.sl 3 0 q none q 1) (.i sm) (.i f) (.ptr 4 0 0 1) (.bool false) .undef .undef) [.arr 2 [.agg [.i p, .i r]] true 0, .arr 1 xs true 0, .arr 3 [.agg [.i va, .i vb, .i vc]] true 0, .arr 1 os true 0, .arr 3 [.agg [.i va, .i vb, .i vc]] true 0] .normal (polH.keys 4) (env4 (.imm .arg 1 rw) (.agg [.i p, .i r]) (.ptr 0 0 0 1) (.bool false) (.sl 1 0 n none n 1) (.ptr 2 0 0 1) (.bool false) (.i e) (.sl 3 0 q none q 1) (.i sm) (.i f) (.ptr 4 0 0 1) (.bool false) .undef .undef) [.arr 2 [.agg [.i p, .i r]] true 0, .arr 1 xs true 0, .arr 3 [.agg [.i va, .i vb, .i vc]] true 0, .arr 1 os true 0, .arr 3 [.agg [.i va, .i vb, .i vc]] true 0] :=
  RunsTo.hin 0 60 [⟨7, 2, .bool false, [.arr 2 [.agg [.i p, .i r]] true 0, .arr 1 xs true 0, .arr 3 [.agg [.i va, .i vb, .i vc]] true 0, .arr 1 os true 0, .arr 3 [.agg [.i va, .i vb, .i vc]] true 0]⟩, ⟨7, 10, .bool false, [.arr 2 [.agg [.i p, .i r]] true 0, .arr 1 xs true 0, .arr 3 [.agg [.i va, .i vb, .i vc]] true 0, .arr 1 os true 0, .arr 3 [.agg [.i va, .i vb, .i vc]] true 0]⟩] fun kf hk => ⟨_, by kernel_rfl, (oP [.arr 2 [.agg [.i p, .i r]] true 0, .arr 1 xs true 0, .arr 3 [.agg [.i va, .i vb, .i vc]] true 0, .arr 1 os true 0, .arr 3 [.agg [.i va, .i vb, .i vc]] true 0] g0 (oB [.arr 2 [.agg [.i p, .i r]] true 0, .arr 1 xs true 0, .arr 3 [.agg [.i va, .i vb, .i vc]] true 0, .arr 1 os true 0, .arr 3 [.agg [.i va, .i vb, .i vc]] true 0] (congrArg not (decide_eq_true g1)) .nil))⟩
theorem ly_if_0 (rw : List HV) (p r : Int) (n : Nat) (xs : List HV) (va vb vc e : Int) (q : Nat) (os : List HV) (sm f : Int)(g0 : p < 0) : RunsTo Try.prog polH 4 (sub [1, 1, 1, 1, 1, 1, 1, 0] B4) (env4 (.imm .arg 1 rw) (.agg [.i p, .i r]) (.ptr 0 0 0 1) (.bool false) (.sl 1 0 n none n 1) (.ptr 2 0 0 1) (.bool false) (.i e) (.sl 3 0 0 none 0 1) (.i 0) (.i 2) (.ptr 4 0 0 1) (.bool false) .undef .undef) [.arr 2 [.agg [.i p, .i r]] true 0, .arr 1 xs true 0, .arr 3 [.agg [.i va, .i vb, .i vc]] true 0, .arr 1 [] true 0, .arr 3 [.agg [.i va, .i vb, .i vc]] true 0] .ret (polH.keys 4) (env4 (.imm .arg 1 rw) (.agg [.i p, .i r]) (.ptr 0 0 0 1) (.bool true) (.sl 1 0 n none n 1) (.ptr 2 0 0 1) (.bool false) (.i e) (.sl 3 0 0 none 0 1) (.i 0) (.i 2) (.ptr 4 0 0 1) (.bool false) .undef .undef) [.arr 2 [.agg [.i p, .i r]] true 0, .arr 1 xs true 0, .arr 3 [.agg [.i va, .i vb, .i vc]] true 0, .arr 1 [] true 0, .arr 3 [.agg [.i va, .i vb, .i vc]] true 0] :=
  RunsTo.hin 0 60 [⟨9, 2, .bool true, [.arr 2 [.agg [.i p, .i r]] true 0, .arr 1 xs true 0, .arr 3 [.agg [.i va, .i vb, .i vc]] true 0, .arr 1 [] true 0, .arr 3 [.agg [.i va, .i vb, .i vc]] true 0]⟩] fun kf hk => ⟨_, by kernel_rfl, (oB [.arr 2 [.agg [.i p, .i r]] true 0, .arr 1 xs true 0, .arr 3 [.agg [.i va, .i vb, .i vc]] true 0, .arr 1 [] true 0, .arr 3 [.agg [.i va, .i vb, .i vc]] true 0] (decide_eq_true g0) .nil)⟩
theorem ly_if_1 (rw : List HV) (p r : Int) (n : Nat) (xs : List HV) (va vb vc e : Int) (q : Nat) (os : List HV) (sm f : Int)(g0 : ¬ (p < 0)) (g1 : (n : Int) ≤ p) : RunsTo Try.prog polH 4 (sub [1, 1, 1, 1, 1, 1, 1, 0] B4) (env4 (.imm .arg 1 rw) (.agg [.i p, .i r]) (.ptr 0 0 0 1) (.bool false) (.sl 1 0 n none n 1) (.ptr 2 0 0 1) (.bool false) (.i e) (.sl 3 0 0 none 0 1) (.i 0) (.i 2) (.ptr 4 0 0 1) (.bool false) .undef .undef) [.arr 2 [.agg [.i p, .i r]] true 0, .arr 1 xs true 0, .arr 3 [.agg [.i va, .i vb, .i vc]] true 0, .arr 1 [] true 0, .arr 3 [.agg [.i va, .i vb, .i vc]] true 0] .ret (polH.keys 4) (env4 (.imm .arg 1 rw) (.agg [.i p, .i r]) (.ptr 0 0 0 1) (.bool true) (.sl 1 0 n none n 1) (.ptr 2 0 0 1) (.bool false) (.i e) (.sl 3 0 0 none 0 1) (.i 0) (.i 2) (.ptr 4 0 0 1) (.bool false) .undef .undef) [.arr 2 [.agg [.i p, .i r]] true 0, .arr 1 xs true 0, .arr 3 [.agg [.i va, .i vb, .i vc]] true 0, .arr 1 [] true 0, .arr 3 [.agg [.i va, .i vb, .i vc]] true 0] :=
  RunsTo.hin 0 60 [⟨9, 2, .bool false, [.arr 2 [.agg [.i p, .i r]] true 0, .arr 1 xs true 0, .arr 3 [.agg [.i va, .i vb, .i vc]] true 0, .arr 1 [] true 0, .arr 3 [.agg [.i va, .i vb, .i vc]] true 0]⟩, ⟨9, 8, .bool true, [.arr 2 [.agg [.i p, .i r]] true 0, .arr 1 xs true 0, .arr 3 [.agg [.i va, .i vb, .i vc]] true 0, .arr 1 [] true 0, .arr 3 [.agg [.i va, .i vb, .i vc]] true 0]⟩] fun kf hk => ⟨_, by kernel_rfl, (oB [.arr 2 [.agg [.i p, .i r]] true 0, .arr 1 xs true 0, .arr 3 [.agg [.i va, .i vb, .i vc]] true 0, .arr 1 [] true 0, .arr 3 [.agg [.i va, .i vb, .i vc]] true 0] (decide_eq_false g0) (oB [.arr 2 [.agg [.i p, .i r]] true 0, .arr 1 xs true 0, .arr 3 [.agg [.i va, .i vb, .i vc]] true 0, .arr 1 [] true 0, .arr 3 [.agg [.i va, .i vb, .i vc]] true 0] (decide_eq_true g1) .nil))⟩
theorem ly_if_2 (rw : List HV) (p r : Int) (n : Nat) (xs : List HV) (va vb vc e : Int) (q : Nat) (os : List HV) (sm f : Int)(g0 : ¬ (p < 0)) (g1 : ¬ ((n : Int) ≤ p)) (g2 : r < 0) : RunsTo Try.prog polH 4 (sub [1, 1, 1, 1, 1, 1, 1, 0] B4) (env4 (.imm .arg 1 rw) (.agg [.i p, .i r]) (.ptr 0 0 0 1) (.bool false) (.sl 1 0 n none n 1) (.ptr 2 0 0 1) (.bool false) (.i e) (.sl 3 0 0 none 0 1) (.i 0) (.i 2) (.ptr 4 0 0 1) (.bool false) .undef .undef) [.arr 2 [.agg [.i p, .i r]] true 0, .arr 1 xs true 0, .arr 3 [.agg [.i va, .i vb, .i vc]] true 0, .arr 1 [] true 0, .arr 3 [.agg [.i va, .i vb, .i vc]] true 0] .ret (polH.keys 4) (env4 (.imm .arg 1 rw) (.agg [.i p, .i r]) (.ptr 0 0 0 1) (.bool true) (.sl 1 0 n none n 1) (.ptr 2 0 0 1) (.bool false) (.i e) (.sl 3 0 0 none 0 1) (.i 0) (.i 2) (.ptr 4 0 0 1) (.bool false) .undef .undef) [.arr 2 [.agg [.i p, .i r]] true 0, .arr 1 xs true 0, .arr 3 [.agg [.i va, .i vb, .i vc]] true 0, .arr 1 [] true 0, .arr 3 [.agg [.i va, .i vb, .i vc]] true 0] :=
  RunsTo.hin 0 60 [⟨9, 2, .bool false, [.arr 2 [.agg [.i p, .i r]] true 0, .arr 1 xs true 0, .arr 3 [.agg [.i va, .i vb, .i vc]] true 0, .arr 1 [] true 0, .arr 3 [.agg [.i va, .i vb, .i vc]] true 0]⟩, ⟨9, 8, .bool false, [.arr 2 [.agg [.i p, .i r]] true 0, .arr 1 xs true 0, .arr 3 [.agg [.i va, .i vb, .i vc]] true 0, .arr 1 [] true 0, .arr 3 [.agg [.i va, .i vb, .i vc]] true 0]⟩, ⟨9, 13, .bool true, [.arr 2 [.agg [.i p, .i r]] true 0, .arr 1 xs true 0, .arr 3 [.agg [.i va, .i vb, .i vc]] true 0, .arr 1 [] true 0, .arr 3 [.agg [.i va, .i vb, .i vc]] true 0]⟩] fun kf hk => ⟨_, by kernel_rfl, (oB [.arr 2 [.agg [.i p, .i r]] true 0, .arr 1 xs true 0, .arr 3 [.agg [.i va, .i vb, .i vc]] true 0, .arr 1 [] true 0, .arr 3 [.agg [.i va, .i vb, .i vc]] true 0] (decide_eq_false g0) (oB [.arr 2 [.agg [.i p, .i r]] true 0, .arr 1 xs true 0, .arr 3 [.agg [.i va, .i vb, .i vc]] true 0, .arr 1 [] true 0, .arr 3 [.agg [.i va, .i vb, .i vc]] true 0] (decide_eq_false g1) (oB [.arr 2 [.agg [.i p, .i r]] true 0, .arr 1 xs true 0, .arr 3 [.agg [.i va, .i vb, .i vc]] true 0, .arr 1 [] true 0, .arr 3 [.agg [.i va, .i vb, .i vc]] true 0] (decide_eq_true g2) .nil)))⟩
theorem ly_if_3 (rw : List HV) (p r : Int) (n : Nat) (xs : List HV) (va vb vc e : Int) (q : Nat) (os : List HV) (sm f : Int)(g0 : ¬ (p < 0)) (g1 : ¬ ((n : Int) ≤ p)) (g2 : ¬ (r < 0)) (g3 : (n : Int) ≤ r) : RunsTo Try.prog polH 4 (sub [1, 1, 1, 1, 1, 1, 1, 0] B4) (env4 (.imm .arg 1 rw) (.agg [.i p, .i r]) (.ptr 0 0 0 1) (.bool false) (.sl 1 0 n none n 1) (.ptr 2 0 0 1) (.bool false) (.i e) (.sl 3 0 0 none 0 1) (.i 0) (.i 2) (.ptr 4 0 0 1) (.bool false) .undef .undef) [.arr 2 [.agg [.i p, .i r]] true 0, .arr 1 xs true 0, .arr 3 [.agg [.i va, .i vb, .i vc]] true 0, .arr 1 [] true 0, .arr 3 [.agg [.i va, .i vb, .i vc]] true 0] .ret (polH.keys 4) (env4 (.imm .arg 1 rw) (.agg [.i p, .i r]) (.ptr 0 0 0 1) (.bool true) (.sl 1 0 n none n 1) (.ptr 2 0 0 1) (.bool false) (.i e) (.sl 3 0 0 none 0 1) (.i 0) (.i 2) (.ptr 4 0 0 1) (.bool false) .undef .undef) [.arr 2 [.agg [.i p, .i r]] true 0, .arr 1 xs true 0, .arr 3 [.agg [.i va, .i vb, .i vc]] true 0, .arr 1 [] true 0, .arr 3 [.agg [.i va, .i vb, .i vc]] true 0] :=
  RunsTo.hin 0 60 [⟨9, 2, .bool false, [.arr 2 [.agg [.i p, .i r]] true 0, .arr 1 xs true 0, .arr 3 [.agg [.i va, .i vb, .i vc]] true 0, .arr 1 [] true 0, .arr 3 [.agg [.i va, .i vb, .i vc]] true 0]⟩, ⟨9, 8, .bool false, [.arr 2 [.agg [.i p, .i r]] true 0, .arr 1 xs true 0, .arr 3 [.agg [.i va, .i vb, .i vc]] true 0, .arr 1 [] true 0, .arr 3 [.agg [.i va, .i vb, .i vc]] true 0]⟩, ⟨9, 13, .bool false, [.arr 2 [.agg [.i p, .i r]] true 0, .arr 1 xs true 0, .arr 3 [.agg [.i va, .i vb, .i vc]] true 0, .arr 1 [] true 0, .arr 3 [.agg [.i va, .i vb, .i vc]] true 0]⟩, ⟨9, 20, .bool true, [.arr 2 [.agg [.i p, .i r]] true 0, .arr 1 xs true 0, .arr 3 [.agg [.i va, .i vb, .i vc]] true 0, .arr 1 [] true 0, .arr 3 [.agg [.i va, .i vb, .i vc]] true 0]⟩] fun kf hk => ⟨_, by kernel_rfl, (oB [.arr 2 [.agg [.i p, .i r]] true 0, .arr 1 xs true 0, .arr 3 [.agg [.i va, .i vb, .i vc]] true 0, .arr 1 [] true 0, .arr 3 [.agg [.i va, .i vb, .i vc]] true 0] (decide_eq_false g0) (oB [.arr 2 [.agg [.i p, .i r]] true 0, .arr 1 xs true 0, .arr 3 [.agg [.i va, .i vb, .i vc]] true 0, .arr 1 [] true 0, .arr 3 [.agg [.i va, .i vb, .i vc]] true 0] (decide_eq_false g1) (oB [.arr 2 [.agg [.i p, .i r]] true 0, .arr 1 xs true 0, .arr 3 [.agg [.i va, .i vb, .i vc]] true 0, .arr 1 [] true 0, .arr 3 [.agg [.i va, .i vb, .i vc]] true 0] (decide_eq_false g2) (oB [.arr 2 [.agg [.i p, .i r]] true 0, .arr 1 xs true 0, .arr 3 [.agg [.i va, .i vb, .i vc]] true 0, .arr 1 [] true 0, .arr 3 [.agg [.i va, .i vb, .i vc]] true 0] (decide_eq_true g3) .nil))))⟩
theorem ly_kf_16 (rw : List HV) (p r : Int) (n : Nat) (xs : List HV) (va vb vc e : Int) (q : Nat) (os : List HV) (sm f : Int)(g0 : ¬ (p < 0)) (g1 : ¬ ((n : Int) ≤ p)) (g2 : ¬ (r < 0)) (g3 : ¬ ((n : Int) ≤ r)) : RunsTo Try.prog polH 4 (sub [1, 1, 1, 1, 1, 1, 1, 0] B4) (env4 (.imm .arg 1 rw) (.agg [.i p, .i r]) (.ptr 0 0 0 1) (.bool false) (.sl 1 0 n none n 1) (.ptr 2 0 0 1) (.bool false) (.i e) (.sl 3 0 q none q 1) (.i sm) (.i f) (.ptr 4 0 0 1) (.bool false) .undef .undef) [.arr 2 [.agg [.i p, .i r]] true 0, .arr 1 xs true 0, .arr 3 [.agg [.i va, .i vb, .i vc]] true 0, .arr 1 os true 0, .arr 3 [.agg [.i va, .i vb, .i vc]] true 0] .normal (polH.keys 4) (env4 (.imm .arg 1 rw) (.agg [.i p, .i r]) (.ptr 0 0 0 1) (.bool false) (.sl 1 0 n none n 1) (.ptr 2 0 0 1) (.bool false) (.i e) (.sl 3 0 q none q 1) (.i sm) (.i f) (.ptr 4 0 0 1) (.bool false) .undef .undef) [.arr 2 [.agg [.i p, .i r]] true 0, .arr 1 xs true 0, .arr 3 [.agg [.i va, .i vb, .i vc]] true 0, .arr 1 os true 0, .arr 3 [.agg [.i va, .i vb, .i vc]] true 0] :=
  RunsTo.hin 0 60 [⟨9, 2, .bool false, [.arr 2 [.agg [.i p, .i r]] true 0, .arr 1 xs true 0, .arr 3 [.agg [.i va, .i vb, .i vc]] true 0, .arr 1 os true 0, .arr 3 [.agg [.i va, .i vb, .i vc]] true 0]⟩, ⟨9, 8, .bool false, [.arr 2 [.agg [.i p, .i r]] true 0, .arr 1 xs true 0, .arr 3 [.agg [.i va, .i vb, .i vc]] true 0, .arr 1 os true 0, .arr 3 [.agg [.i va, .i vb, .i vc]] true 0]⟩, ⟨9, 13, .bool false, [.arr 2 [.agg [.i p, .i r]] true 0, .arr 1 xs true 0, .arr 3 [.agg [.i va, .i vb, .i vc]] true 0, .arr 1 os true 0, .arr 3 [.agg [.i va, .i vb, .i vc]] true 0]⟩, ⟨9, 20, .bool false, [.arr 2 [.agg [.i p, .i r]] true 0, .arr 1 xs true 0, .arr 3 [.agg [.i va, .i vb, .i vc]] true 0, .arr 1 os true 0, .arr 3 [.agg [.i va, .i vb, .i vc]] true 0]⟩] fun kf hk => ⟨_, by kernel_rfl, (oB [.arr 2 [.agg [.i p, .i r]] true 0, .arr 1 xs true 0, .arr 3 [.agg [.i va, .i vb, .i vc]] true 0, .arr 1 os true 0, .arr 3 [.agg [.i va, .i vb, .i vc]] true 0] (decide_eq_false g0) (oB [.arr 2 [.agg [.i p, .i r]] true 0, .arr 1 xs true 0, .arr 3 [.agg [.i va, .i vb, .i vc]] true 0, .arr 1 os true 0, .arr 3 [.agg [.i va, .i vb, .i vc]] true 0] (decide_eq_false g1) (oB [.arr 2 [.agg [.i p, .i r]] true 0, .arr 1 xs true 0, .arr 3 [.agg [.i va, .i vb, .i vc]] true 0, .arr 1 os true 0, .arr 3 [.agg [.i va, .i vb, .i vc]] true 0] (decide_eq_false g2) (oB [.arr 2 [.agg [.i p, .i r]] true 0, .arr 1 xs true 0, .arr 3 [.agg [.i va, .i vb, .i vc]] true 0, .arr 1 os true 0, .arr 3 [.agg [.i va, .i vb, .i vc]] true 0] (decide_eq_false g3) .nil))))⟩
theorem ly_jf_0 (rw : List HV) (p r : Int) (n : Nat) (xs : List HV) (va vb vc e : Int) (q : Nat) (os : List HV) (sm f : Int) (q2 : Nat) (os2 : List HV) (sm2 : Int) (g0 : ∀ kf, callN Try.prog polH (kf + 1) 25 [.sl 1 0 n none n 1, .i p, .i r] [.arr 2 [.agg [.i p, .i r]] true 0, .arr 1 xs true 0, .arr 3 [.agg [.i va, .i vb, .i vc]] true 0, .arr 1 os true 0, .arr 3 [.agg [.i va, .i vb, .i vc]] true 0] = some (.tuple [.sl 5 0 q2 none q2 1, .i sm2], [.arr 2 [.agg [.i p, .i r]] true 0, .arr 1 xs true 0, .arr 3 [.agg [.i va, .i vb, .i vc]] true 0, .arr 1 os true 0, .arr 3 [.agg [.i va, .i vb, .i vc]] true 0, .arr 1 os2 true 0])) (g1 : ∀ kf, callN Try.prog polH (kf + 1) 26 [.sl 3 0 q none q 1, .sl 5 0 q2 none q2 1] [.arr 2 [.agg [.i p, .i r]] true 0, .arr 1 xs true 0, .arr 3 [.agg [.i va, .i vb, .i vc]] true 0, .arr 1 os true 0, .arr 3 [.agg [.i va, .i vb, .i vc]] true 0, .arr 1 os2 true 0] = some (.bool true, [.arr 2 [.agg [.i p, .i r]] true 0, .arr 1 xs true 0, .arr 3 [.agg [.i va, .i vb, .i vc]] true 0, .arr 1 os true 0, .arr 3 [.agg [.i va, .i vb, .i vc]] true 0, .arr 1 os2 true 0])) (g2 : sm = sm2) (g3 : f = 0) : RunsTo Try.prog polH 4 (sub [1, 1, 1, 1, 1, 1, 1, 1] B4) (env4 (.imm .arg 1 rw) (.agg [.i p, .i r]) (.ptr 0 0 0 1) (.bool false) (.sl 1 0 n none n 1) (.ptr 2 0 0 1) (.bool false) (.i e) (.sl 3 0 q none q 1) (.i sm) (.i f) (.ptr 4 0 0 1) (.bool false) .undef .undef) [.arr 2 [.agg [.i p, .i r]] true 0, .arr 1 xs true 0, .arr 3 [.agg [.i va, .i vb, .i vc]] true 0, .arr 1 os true 0, .arr 3 [.agg [.i va, .i vb, .i vc]] true 0] .ret (polH.keys 4) (env4 (.imm .arg 1 rw) (.agg [.i p, .i r]) (.ptr 0 0 0 1) (.bool true) (.sl 1 0 n none n 1) (.ptr 2 0 0 1) (.bool false) (.i e) (.sl 3 0 q none q 1) (.i sm) (.i f) (.ptr 4 0 0 1) (.bool false) (.sl 5 0 q2 none q2 1) (.i sm2)) [.arr 2 [.agg [.i p, .i r]] true 0, .arr 1 xs true 0, .arr 3 [.agg [.i va, .i vb, .i vc]] true 0, .arr 1 os true 0, .arr 3 [.agg [.i va, .i vb, .i vc]] true 0, .arr 1 os2 true 0] :=
  RunsTo.hin 0 60 [⟨11, 5, .tuple [.sl 5 0 q2 none q2 1, .i sm2], [.arr 2 [.agg [.i p, .i r]] true 0, .arr 1 xs true 0, .arr 3 [.agg [.i va, .i vb, .i vc]] true 0, .arr 1 os true 0, .arr 3 [.agg [.i va, .i vb, .i vc]] true 0, .arr 1 os2 true 0]⟩, ⟨12, 2, .bool true, [.arr 2 [.agg [.i p, .i r]] true 0, .arr 1 xs true 0, .arr 3 [.agg [.i va, .i vb, .i vc]] true 0, .arr 1 os true 0, .arr 3 [.agg [.i va, .i vb, .i vc]] true 0, .arr 1 os2 true 0]⟩, ⟨12, 6, .bool true, [.arr 2 [.agg [.i p, .i r]] true 0, .arr 1 xs true 0, .arr 3 [.agg [.i va, .i vb, .i vc]] true 0, .arr 1 os true 0, .arr 3 [.agg [.i va, .i vb, .i vc]] true 0, .arr 1 os2 true 0]⟩, ⟨12, 10, .bool true, [.arr 2 [.agg [.i p, .i r]] true 0, .arr 1 xs true 0, .arr 3 [.agg [.i va, .i vb, .i vc]] true 0, .arr 1 os true 0, .arr 3 [.agg [.i va, .i vb, .i vc]] true 0, .arr 1 os2 true 0]⟩] fun kf hk => ⟨_, by kernel_rfl, (oC (g0 kf) (oC (g1 kf) (oB [.arr 2 [.agg [.i p, .i r]] true 0, .arr 1 xs true 0, .arr 3 [.agg [.i va, .i vb, .i vc]] true 0, .arr 1 os true 0, .arr 3 [.agg [.i va, .i vb, .i vc]] true 0, .arr 1 os2 true 0] (decide_eq_true g2) (oB [.arr 2 [.agg [.i p, .i r]] true 0, .arr 1 xs true 0, .arr 3 [.agg [.i va, .i vb, .i vc]] true 0, .arr 1 os true 0, .arr 3 [.agg [.i va, .i vb, .i vc]] true 0, .arr 1 os2 true 0] (decide_eq_true g3) .nil))))⟩
end Go.Proofs.Ytlendaofkmhgmaa
end
section
open Go Go.HL
namespace Go.Proofs.Ytlendaofkmhgmaa
theorem res4 : Try.f4.results.toList = [.tmp 4] := by kernel_rfl
abbrev hW1 (d : List (List Int)) (p r : Int) : Heap := [.arr 2 [.agg [.int .i64 p, .int .i64 r]] true 0, .arr 1 (d.map encO) true 0]
abbrev t3 (a b c : Int) : HV := .agg [.int .i64 a, .int .i64 b, .int .i64 c]
theorem neq3 (a b c : Int) : binV Try.prog .neq 35 (t3 a b c) (t3 a b c) = some (.bool false) := by
  have : binV Try.prog .neq 35 (t3 a b c) (t3 a b c) = some (.bool (!(decide (a = a) && (decide (b = b) && (decide (c = c) && true))))) := by kernel_rfl
  rw [this]; simp
theorem vTri_some (o : Option (Nat × Nat × Nat)) : ∃ a b c, vTri o = t3 a b c := by
  cases o with
  | none => exact ⟨0, 0, 0, rfl⟩
  | some r => exact ⟨_, _, _, rfl⟩
theorem roundWays_law (R0 : List (List Int)) (p r : Int) : ∃ E H, RunsTo Try.prog polH 4 B4 (args0 [.imm .arg 1 (R0.map encR), .agg [.int .i64 p, .int .i64 r]]) [] .ret (polH.keys 4) E H ∧ E.get 4 = .bool true := by
  have a1 := ly_a_0 (R0.map encR) p r
  have k15 : ∀ k, callN Try.prog polH (k + 1) 15 [.imm .arg 1 (R0.map encR)] [.arr 2 [.agg [.int .i64 p, .int .i64 r]] true 0] = some (.sl 1 0 (tabL R0).length none (tabL R0).length 1, hW1 (tabL R0) p r) := fun k => by
    rw [prim_call (pol := polH) (g := 15) (F := table15) (by kernel_rfl) (rs := [.imm .arg 1 (R0.map encR)]) (by simp only [mapO, arg_rw]) (res := .own 1 ((tabL R0).map encO)) (by simp only [table15, rwF, mapO_map decR_enc]), recv_rows]; rfl
  have b1 := ly_b_0 (R0.map encR) p r _ _ k15
  obtain ⟨hd12, hdr⟩ := tabL_len R0
  generalize tabL R0 = d at b1 hd12 hdr
  have hb : d.length ≤ 1000 ∧ (d.all fun r => decide (r.length ≤ 1000)) = true := ⟨by omega, hdr⟩
  have q18 : ∀ (b : Bool) (T : Heap), okB d = b → ∀ k, callN Try.prog polH (k + 1) 18 [.sl 1 0 d.length none d.length 1] (hW1 d p r ++ T) = some (.bool b, hW1 d p r ++ T) := fun b T hk k => by
    rw [prim_call (pol := polH) (g := 18) (F := miles46) (by kernel_rfl) (rs := [.imm .arg 1 (d.map encR)]) (by simp only [mapO]; rw [arg_rs (mx := 0) rfl rfl]) (res := .bool b) (by simp only [miles46, rwF, mapO_map decR_enc]; rw [if_pos hb, hk])]; rfl
  have ups : ∀ (bb : Bool) (va vb vc e : Int) (E : Env) (H : Heap), (∀ k, callN Try.prog polH (k + 1) 22 [.sl 1 0 d.length none d.length 1] (hW1 d p r) = some (.tuple [t3 va vb vc, .bool bb, .int .i64 e], hW1 d p r)) →
      ∀ (q : List Int) (sm f : Int), (∀ T k, callN Try.prog polH (k + 1) 23 [.sl 1 0 d.length none d.length 1, .int .i64 p, .int .i64 r] (hW1 d p r ++ [T]) = some (.tuple [.sl 3 0 q.length none q.length 1, .int .i64 sm, .int .i64 f], hW1 d p r ++ [T, bI q])) →
      RunsTo Try.prog polH 4 (sub [1, 1, 1, 1] B4) (env4 (.imm .arg 1 (R0.map encR)) (.agg [.int .i64 p, .int .i64 r]) (.ptr 0 0 0 1) (.bool false) (.sl 1 0 d.length none d.length 1) (.ptr 2 0 0 1) (.bool bb) (.int .i64 e) (.sl 3 0 q.length none q.length 1) (.int .i64 sm) (.int .i64 f) .undef .undef .undef .undef) (hW1 d p r ++ [.arr 3 [t3 va vb vc] true 0, bI q]) .ret (polH.keys 4) E H →
      RunsTo Try.prog polH 4 B4 (args0 [.imm .arg 1 (R0.map encR), .agg [.int .i64 p, .int .i64 r]]) [] .ret (polH.keys 4) E H := fun bb va vb vc e E H k22 q sm f k23 t => by
    refine RunsTo.seq a1 (RunsTo.seq b1 (b := sub [1, 1] B4) ?_ (c := sub [1] B4) (by kernel_rfl) (by kernel_rfl)) (c := B4) (by kernel_rfl) (by kernel_rfl)
    cases bb with
    | true =>
      have c := ly_c_0 (R0.map encR) p r d.length (d.map encO) va vb vc e k22
      have dd := ly_dt_0 (R0.map encR) p r d.length (d.map encO) va vb vc e q.length (q.map encI) sm f (k23 _)
      exact RunsTo.seq c (RunsTo.seq dd t (c := sub [1, 1, 1] B4) (by kernel_rfl) (by kernel_rfl)) (c := sub [1, 1] B4) (by kernel_rfl) (by kernel_rfl)
    | false =>
      have c := ly_c_1 (R0.map encR) p r d.length (d.map encO) va vb vc e k22
      have dd := ly_df_0 (R0.map encR) p r d.length (d.map encO) va vb vc e q.length (q.map encI) sm f (k23 _)
      exact RunsTo.seq c (RunsTo.seq dd t (c := sub [1, 1, 1] B4) (by kernel_rfl) (by kernel_rfl)) (c := sub [1, 1] B4) (by kernel_rfl) (by kernel_rfl)
  by_cases hd : okD d
  · obtain ⟨va, vb, vc, hv⟩ := vTri_some (vio d)
    have k22 : ∀ k, callN Try.prog polH (k + 1) 22 [.sl 1 0 d.length none d.length 1] (hW1 d p r) = some (.tuple [t3 va vb vc, .bool (vio d).isNone, .int .i64 0], hW1 d p r) := fun k => by
      rw [prim_call (pol := polH) (g := 22) (F := metric22) (by kernel_rfl) (rs := [.imm .arg 1 (d.map encR)]) (by simp only [mapO]; rw [arg_rs (mx := 0) rfl rfl]) (res := .tuple [vTri (vio d), .bool (vio d).isNone, .int .i64 0]) (by simp only [metric22, rwF, mapO_map decR_enc]; rw [if_pos hb, if_pos hd]), hv]; rfl
    have k24 : ∀ (T : Heap) k, callN Try.prog polH (k + 1) 24 [.sl 1 0 d.length none d.length 1] (hW1 d p r ++ T) = some (.tuple [t3 va vb vc, .bool (vio d).isNone], hW1 d p r ++ T) := fun T k => by
      rw [prim_call (pol := polH) (g := 24) (F := metric24) (by kernel_rfl) (rs := [.imm .arg 1 (d.map encR)]) (by simp only [mapO]; rw [arg_rs (mx := 0) rfl rfl]) (res := .tuple [vTri (vio d), .bool (vio d).isNone]) (by simp only [metric24, rwF, mapO_map decR_enc]; rw [if_pos hd]), hv]; rfl
    have hn := hd.1
    have rest : ∀ (q : List Int) (sm f : Int), (∀ T k, callN Try.prog polH (k + 1) 23 [.sl 1 0 d.length none d.length 1, .int .i64 p, .int .i64 r] (hW1 d p r ++ [T]) = some (.tuple [.sl 3 0 q.length none q.length 1, .int .i64 sm, .int .i64 f], hW1 d p r ++ [T, bI q])) →
        (∀ bb, ∃ E H, RunsTo Try.prog polH 4 (sub [1, 1, 1, 1, 1, 1, 1] B4) (env4 (.imm .arg 1 (R0.map encR)) (.agg [.int .i64 p, .int .i64 r]) (.ptr 0 0 0 1) (.bool false) (.sl 1 0 d.length none d.length 1) (.ptr 2 0 0 1) (.bool bb) (.int .i64 0) (.sl 3 0 q.length none q.length 1) (.int .i64 sm) (.int .i64 f) (.ptr 4 0 0 1) (.bool bb) .undef .undef) (hW1 d p r ++ [.arr 3 [t3 va vb vc] true 0, bI q, .arr 3 [t3 va vb vc] true 0]) .ret (polH.keys 4) E H ∧ E.get 4 = .bool true) →
        ∃ E H, RunsTo Try.prog polH 4 B4 (args0 [.imm .arg 1 (R0.map encR), .agg [.int .i64 p, .int .i64 r]]) [] .ret (polH.keys 4) E H ∧ E.get 4 = .bool true := by
      intro q sm f k23 t
      have k18 := q18 true [.arr 3 [t3 va vb vc] true 0, bI q] (okB_true hd)
      generalize (vio d).isNone = bb at k22 k24
      obtain ⟨E, H, t, ht⟩ := t bb
      refine ⟨E, H, ups bb va vb vc 0 E H k22 q sm f k23 ?_, ht⟩
      cases bb with
      | true =>
        have e := ly_et_0 (R0.map encR) p r d.length (d.map encO) va vb vc 0 q.length (q.map encI) sm f k18
        have g := ly_gt_0 (R0.map encR) p r d.length (d.map encO) va vb vc 0 q.length (q.map encI) sm f (k24 [.arr 3 [t3 va vb vc] true 0, bI q])
        have h := ly_ht_1 (R0.map encR) p r d.length (d.map encO) va vb vc 0 q.length (q.map encI) sm f (neq3 va vb vc) rfl
        exact RunsTo.seq e (RunsTo.seq g (RunsTo.seq h t (c := sub [1, 1, 1, 1, 1, 1] B4) (by kernel_rfl) (by kernel_rfl)) (c := sub [1, 1, 1, 1, 1] B4) (by kernel_rfl) (by kernel_rfl)) (c := sub [1, 1, 1, 1] B4) (by kernel_rfl) (by kernel_rfl)
      | false =>
        have e := ly_ef_0 (R0.map encR) p r d.length (d.map encO) va vb vc 0 q.length (q.map encI) sm f k18
        have g := ly_gf_0 (R0.map encR) p r d.length (d.map encO) va vb vc 0 q.length (q.map encI) sm f (k24 [.arr 3 [t3 va vb vc] true 0, bI q])
        have h := ly_hf_1 (R0.map encR) p r d.length (d.map encO) va vb vc 0 q.length (q.map encI) sm f (neq3 va vb vc) rfl
        exact RunsTo.seq e (RunsTo.seq g (RunsTo.seq h t (c := sub [1, 1, 1, 1, 1, 1] B4) (by kernel_rfl) (by kernel_rfl)) (c := sub [1, 1, 1, 1, 1] B4) (by kernel_rfl) (by kernel_rfl)) (c := sub [1, 1, 1, 1] B4) (by kernel_rfl) (by kernel_rfl)
    by_cases hin : (0 ≤ p ∧ p < d.length) ∧ 0 ≤ r ∧ r < d.length
    · have hld : ldT d (farL d r.toNat) r.toNat p.toNat (wo (2 ^ d.length - 1) p.toNat) = true := ld_all hd (by omega) (by omega)
      have hlen := way_len (to := r.toNat) hd (fr := p.toNat)
      have k23 : ∀ (T : Blk) k, callN Try.prog polH (k + 1) 23 [.sl 1 0 d.length none d.length 1, .int .i64 p, .int .i64 r] (hW1 d p r ++ [T]) = some (.tuple [.sl 3 0 (wayL d p.toNat r.toNat).length none (wayL d p.toNat r.toNat).length 1, .int .i64 ((farL d r.toNat).getD p.toNat 0), .int .i64 0], hW1 d p r ++ [T, bI (wayL d p.toNat r.toNat)]) := fun T k => by
        rw [prim_call (pol := polH) (g := 23) (F := way23) (by kernel_rfl) (rs := [.imm .arg 1 (d.map encR), .int .i64 p, .int .i64 r]) (by simp only [mapO]; rw [arg_rs (mx := 0) rfl rfl]; rfl) (res := .tuple [.own 1 ((wayL d p.toNat r.toNat).map encI), .int .i64 ((farL d r.toNat).getD p.toNat 0), .int .i64 0]) (by simp only [way23, wayF, mapO_map decR_enc]; rw [if_pos hb, if_pos ⟨hd, hin.1, hin.2⟩, if_pos ⟨hld, by omega⟩])]
        simp only [recv, recvVals, recvVal, recvCell, encI_any, List.length_map]
        rfl
      refine rest _ _ _ k23 fun bb => ?_
      have k25 : ∀ (a b c : Blk) k, callN Try.prog polH (k + 1) 25 [.sl 1 0 d.length none d.length 1, .int .i64 p, .int .i64 r] (hW1 d p r ++ [a, b, c]) = some (.tuple [.sl 5 0 (wayL d p.toNat r.toNat).length none (wayL d p.toNat r.toNat).length 1, .int .i64 ((farL d r.toNat).getD p.toNat 0)], hW1 d p r ++ [a, b, c, bI (wayL d p.toNat r.toNat)]) := fun a b c k => by
        rw [prim_call (pol := polH) (g := 25) (F := way25) (by kernel_rfl) (rs := [.imm .arg 1 (d.map encR), .int .i64 p, .int .i64 r]) (by simp only [mapO]; rw [arg_rs (mx := 0) rfl rfl]; rfl) (res := .tuple [.own 1 ((wayL d p.toNat r.toNat).map encI), .int .i64 ((farL d r.toNat).getD p.toNat 0)]) (by simp only [way25, wayF, mapO_map decR_enc]; rw [if_pos ⟨hd, hin.1, hin.2⟩])]
        simp only [recv, recvVals, recvVal, recvCell, encI_any, List.length_map]
        rfl
      generalize wayL d p.toNat r.toNat = q at hlen k23 k25 ⊢
      generalize (farL d r.toNat).getD p.toNat 0 = sm at k23 k25 ⊢
      have k26 : ∀ (a c : Blk) k, callN Try.prog polH (k + 1) 26 [.sl 3 0 q.length none q.length 1, .sl 5 0 q.length none q.length 1] (hW1 d p r ++ [a, bI q, c, bI q]) = some (.bool true, hW1 d p r ++ [a, bI q, c, bI q]) := fun a c k => by
        rw [prim_call (pol := polH) (g := 26) (F := ints26) (by kernel_rfl) (rs := [.imm .arg 1 (q.map encI), .imm .arg 1 (q.map encI)]) (by simp only [mapO]; rw [arg_sl rfl rfl, arg_sl rfl rfl]) (res := .bool true) (by simp only [ints26, llF, mapO_map decI_enc]; rw [if_pos (by omega), decide_eq_true trivial])]; rfl
      cases bb with
      | true =>
        have i := ly_kt_16 (R0.map encR) p r d.length (d.map encO) va vb vc 0 q.length (q.map encI) sm 0 (by omega) (by omega) (by omega) (by omega)
        have j := ly_jt_0 (R0.map encR) p r d.length (d.map encO) va vb vc 0 q.length (q.map encI) sm 0 q.length (q.map encI) sm (k25 _ _ _) (k26 _ _) rfl rfl
        exact ⟨_, _, RunsTo.seq i j (c := sub [1, 1, 1, 1, 1, 1, 1] B4) (by kernel_rfl) (by kernel_rfl), rfl⟩
      | false =>
        have i := ly_kf_16 (R0.map encR) p r d.length (d.map encO) va vb vc 0 q.length (q.map encI) sm 0 (by omega) (by omega) (by omega) (by omega)
        have j := ly_jf_0 (R0.map encR) p r d.length (d.map encO) va vb vc 0 q.length (q.map encI) sm 0 q.length (q.map encI) sm (k25 _ _ _) (k26 _ _) rfl rfl
        exact ⟨_, _, RunsTo.seq i j (c := sub [1, 1, 1, 1, 1, 1, 1] B4) (by kernel_rfl) (by kernel_rfl), rfl⟩
    · have k23 : ∀ (T : Blk) k, callN Try.prog polH (k + 1) 23 [.sl 1 0 d.length none d.length 1, .int .i64 p, .int .i64 r] (hW1 d p r ++ [T]) = some (.tuple [.sl 3 0 ([] : List Int).length none ([] : List Int).length 1, .int .i64 0, .int .i64 2], hW1 d p r ++ [T, bI []]) := fun T k => by
        rw [prim_call (pol := polH) (g := 23) (F := way23) (by kernel_rfl) (rs := [.imm .arg 1 (d.map encR), .int .i64 p, .int .i64 r]) (by simp only [mapO]; rw [arg_rs (mx := 0) rfl rfl]; rfl) (res := .tuple [.own 1 [], .int .i64 0, .int .i64 2]) (by simp only [way23, wayF, mapO_map decR_enc]; rw [if_pos hb, if_neg (fun h => hin ⟨h.2.1, h.2.2⟩)])]
        rfl
      refine rest [] 0 2 k23 fun bb => ?_
      cases bb with
      | true =>
        by_cases c0 : p < 0
        · exact ⟨_, _, RunsTo.seq_out (ly_it_0 (R0.map encR) p r d.length (d.map encO) va vb vc 0 0 [] 0 0 c0) (by simp) (c := sub [1, 1, 1, 1, 1, 1, 1] B4) (b := sub [1, 1, 1, 1, 1, 1, 1, 1] B4) (by kernel_rfl), rfl⟩
        by_cases c1 : (d.length : Int) ≤ p
        · exact ⟨_, _, RunsTo.seq_out (ly_it_1 (R0.map encR) p r d.length (d.map encO) va vb vc 0 0 [] 0 0 c0 c1) (by simp) (c := sub [1, 1, 1, 1, 1, 1, 1] B4) (b := sub [1, 1, 1, 1, 1, 1, 1, 1] B4) (by kernel_rfl), rfl⟩
        by_cases c2 : r < 0
        · exact ⟨_, _, RunsTo.seq_out (ly_it_2 (R0.map encR) p r d.length (d.map encO) va vb vc 0 0 [] 0 0 c0 c1 c2) (by simp) (c := sub [1, 1, 1, 1, 1, 1, 1] B4) (b := sub [1, 1, 1, 1, 1, 1, 1, 1] B4) (by kernel_rfl), rfl⟩
        exact ⟨_, _, RunsTo.seq_out (ly_it_3 (R0.map encR) p r d.length (d.map encO) va vb vc 0 0 [] 0 0 c0 c1 c2 (by omega)) (by simp) (c := sub [1, 1, 1, 1, 1, 1, 1] B4) (b := sub [1, 1, 1, 1, 1, 1, 1, 1] B4) (by kernel_rfl), rfl⟩
      | false =>
        by_cases c0 : p < 0
        · exact ⟨_, _, RunsTo.seq_out (ly_if_0 (R0.map encR) p r d.length (d.map encO) va vb vc 0 0 [] 0 0 c0) (by simp) (c := sub [1, 1, 1, 1, 1, 1, 1] B4) (b := sub [1, 1, 1, 1, 1, 1, 1, 1] B4) (by kernel_rfl), rfl⟩
        by_cases c1 : (d.length : Int) ≤ p
        · exact ⟨_, _, RunsTo.seq_out (ly_if_1 (R0.map encR) p r d.length (d.map encO) va vb vc 0 0 [] 0 0 c0 c1) (by simp) (c := sub [1, 1, 1, 1, 1, 1, 1] B4) (b := sub [1, 1, 1, 1, 1, 1, 1, 1] B4) (by kernel_rfl), rfl⟩
        by_cases c2 : r < 0
        · exact ⟨_, _, RunsTo.seq_out (ly_if_2 (R0.map encR) p r d.length (d.map encO) va vb vc 0 0 [] 0 0 c0 c1 c2) (by simp) (c := sub [1, 1, 1, 1, 1, 1, 1] B4) (b := sub [1, 1, 1, 1, 1, 1, 1, 1] B4) (by kernel_rfl), rfl⟩
        exact ⟨_, _, RunsTo.seq_out (ly_if_3 (R0.map encR) p r d.length (d.map encO) va vb vc 0 0 [] 0 0 c0 c1 c2 (by omega)) (by simp) (c := sub [1, 1, 1, 1, 1, 1, 1] B4) (b := sub [1, 1, 1, 1, 1, 1, 1, 1] B4) (by kernel_rfl), rfl⟩
  · have k22 : ∀ k, callN Try.prog polH (k + 1) 22 [.sl 1 0 d.length none d.length 1] (hW1 d p r) = some (.tuple [t3 0 0 0, .bool false, .int .i64 2], hW1 d p r) := fun k => by
      rw [prim_call (pol := polH) (g := 22) (F := metric22) (by kernel_rfl) (rs := [.imm .arg 1 (d.map encR)]) (by simp only [mapO]; rw [arg_rs (mx := 0) rfl rfl]) (res := .tuple [t3 0 0 0, .bool false, .int .i64 2]) (by simp only [metric22, rwF, mapO_map decR_enc]; rw [if_pos hb, if_neg hd])]; rfl
    have k23 : ∀ (T : Blk) k, callN Try.prog polH (k + 1) 23 [.sl 1 0 d.length none d.length 1, .int .i64 p, .int .i64 r] (hW1 d p r ++ [T]) = some (.tuple [.sl 3 0 ([] : List Int).length none ([] : List Int).length 1, .int .i64 0, .int .i64 2], hW1 d p r ++ [T, bI []]) := fun T k => by
      rw [prim_call (pol := polH) (g := 23) (F := way23) (by kernel_rfl) (rs := [.imm .arg 1 (d.map encR), .int .i64 p, .int .i64 r]) (by simp only [mapO]; rw [arg_rs (mx := 0) rfl rfl]; rfl) (res := .tuple [.own 1 [], .int .i64 0, .int .i64 2]) (by simp only [way23, wayF, mapO_map decR_enc]; rw [if_pos hb, if_neg (fun h => hd h.1)])]
      rfl
    have k18 := q18 false [.arr 3 [t3 0 0 0] true 0, bI []] (okB_false hd)
    have e := ly_e_1 (R0.map encR) p r d.length (d.map encO) 0 0 0 2 0 [] 0 2 k18 (by kernel_rfl) rfl rfl rfl rfl
    exact ⟨_, _, ups false 0 0 0 2 _ _ k22 [] 0 2 k23 (RunsTo.seq_out e (by simp) (c := sub [1, 1, 1, 1] B4) (b := sub [1, 1, 1, 1, 1] B4) (by kernel_rfl)), rfl⟩
end Go.Proofs.Ytlendaofkmhgmaa
end
section
namespace Go.HL
open Go.ChangeShapes Go.WideShapes Go.ChangeAt Go.RowKit Go.Deep
theorem okNil (w : World) (r : Nat) : okOf Ctx.nil w.heap.size false r := by
  refine ⟨fun hM => ?_, by simp⟩
  obtain ⟨b, y, h1, _, _⟩ := M_iff.1 hM
  simp [Ctx.nil] at h1
theorem cell_lt {w : World} {a : Addr} {v : Value} (h : w.cell? a = some v) : a.block < w.heap.size := by
  rcases Nat.lt_or_ge a.block w.heap.size with hl | hl
  · exact hl
  · have : w.heap[a.block]? = none := by simp [hl]
    simp [World.cell?, this] at h
end Go.HL
end
section
namespace Go.HL
open Go.ChangeShapes Go.WideShapes Go.ChangeAt Go.RowKit Go.Deep
theorem ints_cells {H : Type} {enc : TypeId × Value → H} {P : Program} {W : World} {base fuel : Nat} {sp : Nat → Bool} {held : Bool} {t q : TypeId} {cs : List Value} {x : DataW H × List MemPlace} (ht : P.underlying t = some (.slice q)) (hq : P.underlying q = some (.int .i64)) (cq : P.cellsOf q = 1)
    (hf : DataW.trod enc P W base sp held fuel t cs = some x) : ∃ (l : List Int) (v : Value), cs = [v] ∧ V W (okOf Ctx.nil W.heap.size) Ctx.nil (.imm .arg 1 (l.map encI)) v := by
  rcases open_slice ht hf with ⟨h0, _⟩ | ⟨a', len, cap, m, n, D, Pl, h0, hb, hl, hm, hmm, hx, hel⟩
  · exact ⟨[], _, h0, .imm .arg 1 [] none 0 (fun _ => .bool false) (by simp) (by simp) (by simp) (by simp) (by simp) (by simp)⟩
  · subst h0
    have hlm : len ≤ m := by rw [hmm]; split <;> omega
    have each : ∀ i, i < len → ∃ z : Int, W.cell? (a'.add i) = some (.int .i64 z) := by
      intro i hi
      obtain ⟨cs', h1, h2⟩ := hel i (by omega)
      rw [cq] at h1
      obtain ⟨_, hlen, hcell⟩ := World.cells?_some h1
      match cs', hlen with
      | [v0], _ =>
        obtain ⟨z0, e0, _, _⟩ := DataW.trod_int hq h2
        simp at e0
        subst e0
        have c0 := hcell 0 (by omega)
        rw [add_add] at c0
        exact ⟨z0, by simpa using c0⟩
    obtain ⟨f, hf⟩ := choose_lt each
    refine ⟨(List.range len).map f, _, rfl, ?_⟩
    have hlen : (((List.range len).map f).map encI).length = len := by simp
    have key := V.imm (w := W) (ok := okOf Ctx.nil W.heap.size) (c := Ctx.nil) .arg 1 (((List.range len).map f).map encI) (some a') cap (fun j => .int .i64 (f j))
      (by rw [hlen]; exact hl) (by simp) ?_ ?_ ?_ ?_
    · rw [hlen] at key; exact key
    · intro hne
      have h0 : 0 < len := by
        rcases Nat.eq_zero_or_pos len with h | h
        · subst h; simp at hne
        · exact h
      obtain ⟨b, off, spot⟩ := a'
      have hspot : spot = none := by simpa [Addr.add] using World.cell?_spot (hf 0 h0)
      subst hspot
      refine ⟨b, off, rfl, by simpa [Addr.add] using cell_lt (hf 0 h0), okNil W b, fun j hj => ?_⟩
      rw [hlen] at hj
      have c0 := hf j (by omega)
      rw [add_plain] at c0
      exact c0
    · intro v hv
      obtain ⟨p, _, rfl⟩ := List.mem_map.1 hv
      rfl
    · intro v hv
      obtain ⟨p, _, rfl⟩ := List.mem_map.1 hv
      rfl
    · intro i v j x hi hj
      have hil : i < len := by have := lt_of_get hi; rw [hlen] at this; exact this
      have : v = encI (f i) := by
        rw [List.getElem?_map, List.getElem?_map, List.getElem?_range hil] at hi
        simpa using hi.symm
      subst this
      have hjx : j < 1 := lt_of_get hj
      match j, hjx, hj with
      | 0, _, hj =>
        simp [encI, cellsOf] at hj
        subst hj
        have e1 : i * 1 + 0 = i := by omega
        rw [e1]
        exact V.int _ _
def encRH (r : List Int) : HV := .imm .arg 1 (r.map encI)
theorem rows_cells {H : Type} {enc : TypeId × Value → H} {P : Program} {W : World} {base fuel : Nat} {sp : Nat → Bool} {held : Bool} {s t q : TypeId} {cs : List Value} {x : DataW H × List MemPlace} (hs : P.underlying s = some (.slice t)) (ct : P.cellsOf t = 1) (ht : P.underlying t = some (.slice q)) (hq : P.underlying q = some (.int .i64)) (cq : P.cellsOf q = 1)
    (hf : DataW.trod enc P W base sp held fuel s cs = some x) : ∃ (R : List (List Int)) (v : Value), cs = [v] ∧ V W (okOf Ctx.nil W.heap.size) Ctx.nil (.imm .arg 1 (R.map encRH)) v := by
  rcases open_slice hs hf with ⟨h0, _⟩ | ⟨a', len, cap, m, n, D, Pl, h0, hb, hl, hm, hmm, hx, hel⟩
  · exact ⟨[], _, h0, .imm .arg 1 [] none 0 (fun _ => .bool false) (by simp) (by simp) (by simp) (by simp) (by simp) (by simp)⟩
  · subst h0
    have hlm : len ≤ m := by rw [hmm]; split <;> omega
    have each : ∀ i, i < len → ∃ p : List Int × Value, W.cell? (a'.add i) = some p.2 ∧ V W (okOf Ctx.nil W.heap.size) Ctx.nil (encRH p.1) p.2 := by
      intro i hi
      obtain ⟨cs', h1, h2⟩ := hel i (by omega)
      rw [ct, Nat.mul_one] at h1
      obtain ⟨_, hlen, hcell⟩ := World.cells?_some h1
      obtain ⟨l, v, rfl, hV⟩ := ints_cells ht hq cq h2
      have c0 := hcell 0 (by omega)
      rw [add_add] at c0
      exact ⟨(l, v), by simpa using c0, hV⟩
    obtain ⟨f, hf⟩ := choose_lt each
    refine ⟨(List.range len).map fun i => (f i).1, _, rfl, ?_⟩
    have hlen : (((List.range len).map fun i => (f i).1).map encRH).length = len := by simp
    have key := V.imm (w := W) (ok := okOf Ctx.nil W.heap.size) (c := Ctx.nil) .arg 1 (((List.range len).map fun i => (f i).1).map encRH) (some a') cap (fun j => (f j).2)
      (by rw [hlen]; exact hl) (by simp) ?_ ?_ ?_ ?_
    · rw [hlen] at key; exact key
    · intro hne
      have h0 : 0 < len := by
        rcases Nat.eq_zero_or_pos len with h | h
        · subst h; simp at hne
        · exact h
      obtain ⟨b, off, spot⟩ := a'
      have hspot : spot = none := by simpa [Addr.add] using World.cell?_spot (hf 0 h0).1
      subst hspot
      refine ⟨b, off, rfl, by simpa [Addr.add] using cell_lt (hf 0 h0).1, okNil W b, fun j hj => ?_⟩
      rw [hlen, Nat.mul_one] at hj
      have c0 := (hf j hj).1
      rw [add_plain] at c0
      exact c0
    · intro v hv
      obtain ⟨p, _, rfl⟩ := List.mem_map.1 hv
      rfl
    · intro v hv
      obtain ⟨p, _, rfl⟩ := List.mem_map.1 hv
      rfl
    · intro i v j x hi hj
      have hil : i < len := by have := lt_of_get hi; rw [hlen] at this; exact this
      have : v = encRH (f i).1 := by
        rw [List.getElem?_map, List.getElem?_map, List.getElem?_range hil] at hi
        simpa using hi.symm
      subst this
      have hjx : j < 1 := lt_of_get hj
      obtain rfl : j = 0 := by omega
      simp [encRH, cellsOf] at hj
      subst hj
      have e1 : i * 1 + 0 = i := by omega
      rw [e1]
      exact (hf i hil).2
theorem arg_rows_ok {H : Type} {enc : TypeId × Value → H} {P : Program} {W : World} {base : Nat} {s t q : TypeId} {v : Value} {d : DataW H} {ps : List MemPlace} (hs : P.underlying s = some (.slice t)) (ct : P.cellsOf t = 1) (ht : P.underlying t = some (.slice q)) (hq : P.underlying q = some (.int .i64)) (cq : P.cellsOf q = 1)
    (hval : Value.okWide P W .any base s v) (hd : DataW.Trod enc P W 0 (fun _ => true) true s v d ps) : ∃ R : List (List Int), V W (okOf Ctx.nil W.heap.size) Ctx.nil (.imm .arg 1 (R.map encRH)) v := by
  obtain ⟨a, len, cap, rfl⟩ := okWide_slice hs hval
  obtain ⟨fuel, hf⟩ := hd
  obtain ⟨R, v, hv, h⟩ := rows_cells hs ct ht hq cq hf
  simp [Value.cells] at hv
  subst hv
  exact ⟨R, h⟩
end Go.HL
end
section
namespace Go.HL
open Go.ChangeShapes Go.WideShapes Go.ChangeAt Go.RowKit Go.Deep
theorem arg_pair_ok {H : Type} {enc : TypeId × Value → H} {P : Program} {W : World} {base : Nat} {t q : TypeId} {v : Value} {d : DataW H} {ps : List MemPlace} (ht : P.underlying t = some (.array 2 q)) (hq : P.underlying q = some (.int .i64)) (ct : P.cellsOf t = 2) (cq : P.cellsOf q = 1)
    (hval : Value.okWide P W .any base t v) (hd : DataW.Trod enc P W 0 (fun _ => true) true t v d ps) : ∃ a b : Int, V W (okOf Ctx.nil W.heap.size) Ctx.nil (.agg [.int .i64 a, .int .i64 b]) v := by
  unfold Value.okWide at hval
  simp only [ht] at hval
  obtain ⟨cs, rfl, hsz, _⟩ := hval
  rw [ct] at hsz
  obtain ⟨fuel, hf⟩ := hd
  obtain ⟨xs, k, _, _, _, hxl, hxs⟩ := DataW.trod_array ht hf
  have g0 := hxs 0 (by omega)
  have g1 := hxs 1 (by omega)
  rw [cq] at g0 g1
  have hx0 : xs[0]? = some xs[0] := List.getElem?_eq_getElem (by omega)
  have hx1 : xs[1]? = some xs[1] := List.getElem?_eq_getElem (by omega)
  rw [hx0] at g0
  rw [hx1] at g1
  obtain ⟨l⟩ := cs
  simp [Value.cells] at g0 g1 hsz
  obtain ⟨v0, v1, rfl⟩ : ∃ v0 v1, l = [v0, v1] := by
    match l, hsz with
    | [a, b], _ => exact ⟨a, b, rfl⟩
  obtain ⟨z0, e0, _, _⟩ := DataW.trod_int hq g0
  obtain ⟨z1, e1, _, _⟩ := DataW.trod_int hq g1
  have f0 : v0 = .int .i64 z0 := by simpa using e0
  have f1 : v1 = .int .i64 z1 := by simpa using e1
  subst f0; subst f1
  refine ⟨z0, z1, V.agg _ _ rfl (fun v hv => ?_) fun i v r h1 h2 => ?_⟩
  · simp only [List.mem_cons, List.not_mem_nil, or_false] at hv
    rcases hv with rfl | rfl <;> rfl
  · match i, h1, h2 with
    | 0, h1, h2 => simp at h1 h2; subst h1; subst h2; exact V.int _ _
    | 1, h1, h2 => simp at h1 h2; subst h1; subst h2; exact V.int _ _
end Go.HL
end
