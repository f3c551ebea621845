/- A part of the proof. -/
import Derived.Test.YtmhfkhlamnapdaaP3C
set_option linter.unusedVariables false
set_option linter.unusedSimpArgs false
section
open Go Go.HL
namespace Go.Proofs.Ytmhfkhlamnapdaa
theorem bIn_all (c : Int) {n k : Nat} (hc : 0 ≤ c ∧ c + 1 ≤ k) : ∀ (l : List Nat) (s : List Int × List Nat), (∀ y ∈ l, y < n) → BInv n k s → ∀ z ∈ l, z ∈ (bIn c l s).2
  | [], _, _, _, z, hz => by cases hz
  | y :: l, s, hl, h, z, hz => by
    rw [bIn]
    have hy := hl y (by simp)
    have h' := h.step hc hy
    rcases List.mem_cons.1 hz with rfl | hz
    · obtain ⟨t, ht⟩ := bIn_pre c l (if s.1.getD z 0 < 0 then (s.1.set z (c + 1), s.2 ++ [z]) else s)
      rw [ht]
      apply List.mem_append_left
      by_cases hlt : s.1.getD z 0 < 0
      · rw [if_pos hlt]; simp
      · rw [if_neg hlt]; exact (h.got z hy).1 (by omega)
    · exact bIn_all c hc l _ (fun w hw => hl w (by simp [hw])) h' z hz
theorem bIn_sub (c : Int) {S : Nat → Prop} : ∀ (l : List Nat) (s : List Int × List Nat), (∀ y ∈ s.2, S y) → (∀ y ∈ l, S y) → ∀ y ∈ (bIn c l s).2, S y
  | [], _, h, _ => h
  | y :: l, s, h, hl => by
    rw [bIn]
    refine bIn_sub c l _ (fun z hz => ?_) (fun z hz => hl z (by simp [hz]))
    split at hz
    · rcases List.mem_append.1 hz with hz | hz
      · exact h z hz
      · rw [List.mem_singleton] at hz; rw [hz]; exact hl y (by simp)
    · exact h z hz
theorem bGo_sub (nb : Nat → List Nat) {S : Nat → Prop} (hS : ∀ x, S x → ∀ z ∈ nb x, S z) : ∀ (d i : Nat) (s : List Int × List Nat), (∀ y ∈ s.2, S y) → ∀ y ∈ (bGo nb d i s).2, S y
  | 0, _, _, h => h
  | d + 1, i, s, h => by
    rw [bGo]
    split
    · rename_i x hx
      exact bGo_sub nb hS d (i + 1) _ (bIn_sub _ _ _ h (hS x (h x (List.mem_of_getElem? hx))))
    · exact h
theorem bGo_closed (nb : Nat → List Nat) (n : Nat) (hnb : ∀ x, x < n → ∀ z ∈ nb x, z < n) : ∀ (d i : Nat) (s : List Int × List Nat), i + d = n → BInv n i s → i ≤ s.2.length → (∀ k x, k < i → s.2[k]? = some x → ∀ z ∈ nb x, z ∈ s.2) →
    BInv n n (bGo nb d i s) ∧ (∀ y ∈ s.2, y ∈ (bGo nb d i s).2) ∧ ∀ x ∈ (bGo nb d i s).2, ∀ z ∈ nb x, z ∈ (bGo nb d i s).2 := by
  intro d
  induction d with
  | zero =>
    intro i s hi hinv hle hcl
    rw [bGo]
    refine ⟨hinv.mono (by omega), fun y hy => hy, fun x hx z hz => ?_⟩
    obtain ⟨k, hk, rfl⟩ := List.getElem_of_mem hx
    have := hinv.qlen
    exact hcl k _ (by omega) (List.getElem?_eq_getElem hk) z hz
  | succ d ih =>
    intro i s hi hinv hle hcl
    rw [bGo]
    cases hw : s.2[i]? with
    | none =>
      have hge := List.getElem?_eq_none_iff.1 hw
      dsimp only
      refine ⟨hinv.mono (by omega), fun y hy => hy, fun x hx z hz => ?_⟩
      obtain ⟨k, hk, rfl⟩ := List.getElem_of_mem hx
      exact hcl k _ (by omega) (List.getElem?_eq_getElem hk) z hz
    | some w =>
      dsimp only
      have hil := lt_of_get hw
      have hwn : w < n := hinv.lt _ (List.mem_of_getElem? hw)
      have hc0 := (hinv.got w hwn).2 (List.mem_of_getElem? hw)
      have hci := hinv.le w hwn
      have hc : 0 ≤ s.1.getD w 0 ∧ s.1.getD w 0 + 1 ≤ ((i + 1 : Nat) : Int) := ⟨hc0, by omega⟩
      have hinv' := BInv.inn hc (nb w) s (hnb w hwn) (hinv.mono (by omega))
      obtain ⟨t, ht⟩ := bIn_pre (s.1.getD w 0) (nb w) s
      have hall := bIn_all (s.1.getD w 0) hc (nb w) s (hnb w hwn) (hinv.mono (by omega))
      obtain ⟨h1, h2, h3⟩ := ih (i + 1) _ (by omega) hinv' (by rw [ht, List.length_append]; omega) (fun k x hk hx z hz => by
        rcases Nat.lt_or_ge k i with h | h
        · rw [ht, List.getElem?_append_left (by omega)] at hx
          have := hcl k x h hx z hz
          rw [ht]; exact List.mem_append_left _ this
        · have : k = i := by omega
          subst this
          rw [ht, List.getElem?_append_left hil, hw] at hx
          cases hx
          exact hall z hz)
      exact ⟨h1, fun y hy => h2 y (by rw [ht]; exact List.mem_append_left _ hy), h3⟩
/-- What the search reaches: the smallest set that holds its start and is closed. -/
theorem bfs_reach (nb nb' : Nat → List Nat) (n x : Nat) (hx : x < n) (hnb : ∀ x, x < n → ∀ z ∈ nb x, z < n) (hnb' : ∀ x, x < n → ∀ z ∈ nb' x, z < n) (he : ∀ x, x < n → ∀ z, z ∈ nb x → z ∈ nb' x) {y : Nat} (hy : y < n) (h : 0 ≤ (bfs nb n x).getD y 0) : 0 ≤ (bfs nb' n x).getD y 0 := by
  obtain ⟨a1, a2, a3⟩ := bGo_closed nb n hnb n 0 (bInit n x) (by omega) (bInit_inv hx) (Nat.zero_le _) (fun k x hk => by omega)
  obtain ⟨b1, b2, b3⟩ := bGo_closed nb' n hnb' n 0 (bInit n x) (by omega) (bInit_inv hx) (Nat.zero_le _) (fun k x hk => by omega)
  have hm := (a1.got y hy).1 h
  have := bGo_sub nb (S := fun z => z ∈ (bGo nb' n 0 (bInit n x)).2) (fun w hw z hz => b3 w hw z (he w (b1.lt w hw) z hz)) n 0 (bInit n x) (fun z hz => b2 z hz) y hm
  exact (b1.got y hy).2 this
theorem bfs_ge (nb : Nat → List Nat) (n x : Nat) (hx : x < n) (hnb : ∀ x, x < n → ∀ z ∈ nb x, z < n) {y : Nat} (hy : y < n) : -1 ≤ (bfs nb n x).getD y 0 :=
  (bGo_closed nb n hnb n 0 (bInit n x) (by omega) (bInit_inv hx) (Nat.zero_le _) (fun k x hk => by omega)).1.ge y hy
def isP (x y : Nat) (p : Int × Int) : Prop := (p.1.toNat = x ∧ p.2.toNat = y) ∨ (p.2.toNat = x ∧ p.1.toNat = y)
theorem adjAdd_mem {adj : List (List Nat)} {a b x y : Nat} (ha : a < adj.length) : y ∈ (adjAdd adj a b).getD x [] ↔ y ∈ adj.getD x [] ∨ (x = a ∧ y = b) := by
  unfold adjAdd
  simp only [List.getD, List.getElem?_set]
  by_cases e : a = x
  · subst e
    simp [ha]
  · have e' : ¬ x = a := fun h => e h.symm
    simp [e, e']
theorem adjGo_mem {n : Nat} : ∀ (l : List (Int × Int)) (adj : List (List Nat)), adj.length = n → (∀ p ∈ l, validB (n : Int) p = true) → ∀ x y, y ∈ (adjGo l adj).getD x [] ↔ y ∈ adj.getD x [] ∨ ∃ p ∈ l, isP x y p
  | [], adj, _, _, x, y => by simp [adjGo]
  | p :: l, adj, ha, hv, x, y => by
    have h1 := hv p (by simp)
    rw [validB, decide_eq_true_eq] at h1
    have e : adjGo (p :: l) adj = adjGo l (adjStep adj p) := rfl
    rw [e, adjGo_mem l (adjStep adj p) (by simp [adjStep, adjAdd, ha]) (fun q hq => hv q (by simp [hq])), adjStep, adjAdd_mem (by simp [adjAdd, ha]; omega), adjAdd_mem (by omega)]
    constructor
    · rintro (((h | h) | h) | ⟨q, hq, h⟩)
      · exact .inl h
      · exact .inr ⟨p, by simp, .inl ⟨h.1.symm, h.2.symm⟩⟩
      · exact .inr ⟨p, by simp, .inr ⟨h.1.symm, h.2.symm⟩⟩
      · exact .inr ⟨q, by simp [hq], h⟩
    · rintro (h | ⟨q, hq, h⟩)
      · exact .inl (.inl (.inl h))
      · rcases List.mem_cons.1 hq with rfl | hq
        · rcases h with ⟨h1, h2⟩ | ⟨h1, h2⟩
          · exact .inl (.inl (.inr ⟨h1.symm, h2.symm⟩))
          · exact .inl (.inr ⟨h1.symm, h2.symm⟩)
        · exact .inr ⟨q, hq, h⟩
theorem adjOf_mem {n : Nat} {l : List (Int × Int)} (hv : ∀ p ∈ l, validB (n : Int) p = true) (x y : Nat) : y ∈ (adjOf n l).getD x [] ↔ ∃ p ∈ l, isP x y p := by
  rw [adjOf, adjGo_mem l _ (by simp) hv]
  have : (List.replicate n ([] : List Nat)).getD x [] = [] := by
    simp only [List.getD, List.getElem?_replicate]
    split <;> rfl
  rw [this]; simp
theorem valid_in {n : Nat} {l : List (Int × Int)} (hv : ∀ p ∈ l, validB (n : Int) p = true) : ∀ p ∈ l, inB n p := fun p hp => by
  have := hv p hp
  rw [validB, decide_eq_true_eq] at this
  unfold inB; omega
theorem nb_same {n : Nat} {l : List (Int × Int)} (hv : ∀ p ∈ l, validB (n : Int) p = true) (x y : Nat) : y ∈ (adjOf n l).getD x [] ↔ y ∈ nbN n l x := by
  rw [adjOf_mem hv, nbN_mem (valid_in hv)]
  constructor
  · rintro ⟨p, hp, h⟩
    refine ⟨?_, p, hp, h⟩
    have h1 := hv p hp
    rw [validB, decide_eq_true_eq] at h1
    rcases h with ⟨_, h⟩ | ⟨_, h⟩ <;> omega
  · rintro ⟨_, p, hp, h⟩
    exact ⟨p, hp, h⟩
theorem all_getD {o : List Int} {n : Nat} (ho : o.length = n) : reached o = true ↔ ∀ y, y < n → 0 ≤ o.getD y 0 := by
  unfold reached
  rw [List.all_eq_true]
  constructor
  · intro h y hy
    have := h o[y] (List.getElem_mem (by omega))
    rw [decide_eq_true_eq] at this
    simpa [List.getD, List.getElem?_eq_getElem (show y < o.length by omega)] using this
  · intro h v hv
    obtain ⟨i, hi, rfl⟩ := List.getElem_of_mem hv
    have := h i (by omega)
    rw [decide_eq_true_eq]
    simpa [List.getD, List.getElem?_eq_getElem hi] using this
theorem farOk_iff {n : Nat} (hn : 0 < n) {adj : List (List Nat)} {k : Nat} (hA : AInv n k adj) : farOk adj = true ↔ ∀ y, y < n → 0 ≤ (bfs (fun y => adj.getD y []) n 0).getD y 0 := by
  have hnb : ∀ x, x < n → ∀ z ∈ adj.getD x [], z < n := fun x hx z hz => by
    obtain ⟨r, hr⟩ : ∃ r, adj[x]? = some r := ⟨_, List.getElem?_eq_getElem (by rw [hA.len]; exact hx)⟩
    simp only [List.getD, hr, Option.getD_some] at hz
    exact (hA.row _ (List.mem_of_getElem? hr)).2 z hz
  have hlen : (farF adj 0).length = n := by rw [farF, bfs_len]; exact hA.len
  have hF : farF adj 0 = bfs (fun y => adj.getD y []) n 0 := by rw [farF, hA.len]
  have hge : ∀ y, y < n → -1 ≤ (bfs (fun y => adj.getD y []) n 0).getD y 0 := fun y hy => bfs_ge (fun y => adj.getD y []) n 0 hn hnb hy
  rw [farOk, decide_eq_true_eq, hF]
  rw [hF] at hlen
  generalize bfs (fun y => adj.getD y []) n 0 = o at hge hlen
  constructor
  · intro h y hy
    rcases Int.lt_or_le (o.getD y 0) 0 with hlt | hle
    · exfalso
      apply h
      have e : o.getD y 0 = -1 := by have := hge y hy; omega
      rw [← e]
      have hyl : y < o.length := by omega
      simp only [List.getD, List.getElem?_eq_getElem hyl, Option.getD_some]
      exact List.getElem_mem hyl
    · exact hle
  · intro h hm
    obtain ⟨i, hi, e⟩ := List.getElem_of_mem hm
    have := h i (by omega)
    simp only [List.getD, List.getElem?_eq_getElem hi, Option.getD_some, e] at this
    omega
/-- The program's tree is the document's. -/
theorem tree_same (n : Int) (l : List (Int × Int)) : treeOk n l = rTree n l := by
  rw [treeOk, rTree]
  by_cases h1 : (1 ≤ n ∧ n ≤ 30) ∧ (l.length : Int) = n - 1
  · by_cases h2 : l.all (validB n) = true
    · rw [decide_eq_true ⟨h1, h2⟩, decide_eq_true h1, h2, Bool.true_and, Bool.true_and, Bool.true_and]
      obtain ⟨m, rfl⟩ : ∃ m : Nat, n = (m : Int) := ⟨n.toNat, by omega⟩
      rw [Int.toNat_natCast]
      have hv := List.all_eq_true.1 h2
      have hA := adjOf_inv hv
      have hm : 0 < m := by omega
      have hnb : ∀ x, x < m → ∀ z ∈ (adjOf m l).getD x [], z < m := fun x hx z hz => ((nbN_mem (valid_in hv)).1 ((nb_same hv x z).1 hz)).1
      have hnb' : ∀ x, x < m → ∀ z ∈ nbN m l x, z < m := fun x hx z hz => ((nbN_mem (valid_in hv)).1 hz).1
      rw [Bool.eq_iff_iff, farOk_iff hm hA, rfarF, all_getD (n := m) (bfs_len _ _ _)]
      constructor
      · intro h y hy
        exact bfs_reach _ _ m 0 hm hnb hnb' (fun x _ z hz => (nb_same hv x z).1 hz) hy (h y hy)
      · intro h y hy
        exact bfs_reach _ _ m 0 hm hnb' hnb (fun x _ z hz => (nb_same hv x z).2 hz) hy (h y hy)
    · have h2' : l.all (validB n) = false := by cases h : l.all (validB n) with | true => exact absurd h h2 | false => rfl
      rw [decide_eq_false (fun h => h2 h.2), h2', Bool.false_and, Bool.false_and, Bool.and_false]
  · rw [decide_eq_false (fun h => h1 h.1), decide_eq_false h1, Bool.false_and, Bool.false_and]
end Go.Proofs.Ytmhfkhlamnapdaa
end
section
open Go Go.HL
namespace Go.Proofs.Ytmhfkhlamnapdaa
def isE (x y : Int) (p : Int × Int) : Prop := (p.1 = x ∧ p.2 = y) ∨ (p.2 = x ∧ p.1 = y)
def oth (x : Int) (p : Int × Int) : Option Int := if p.1 = x then some p.2 else if p.2 = x then some p.1 else none
def rowE (l : List (Int × Int)) (x : Int) : List Int := l.filterMap (oth x)
theorem oth_isE {x y : Int} {p : Int × Int} : oth x p = some y ↔ (p.1 = x ∧ p.2 = y) ∨ (p.1 ≠ x ∧ p.2 = x ∧ p.1 = y) := by
  unfold oth
  by_cases h1 : p.1 = x
  · simp [h1]
  · by_cases h2 : p.2 = x
    · simp [h1, h2]
    · simp [h1, h2]
theorem rowE_mem {l : List (Int × Int)} {x y : Int} : y ∈ rowE l x ↔ ∃ p ∈ l, isE x y p := by
  unfold rowE
  rw [List.mem_filterMap]
  refine ⟨fun ⟨p, hp, h⟩ => ⟨p, hp, ?_⟩, fun ⟨p, hp, h⟩ => ⟨p, hp, ?_⟩⟩
  · rw [oth_isE] at h
    rcases h with h | h
    · exact .inl h
    · exact .inr h.2
  · rw [oth_isE]
    rcases h with h | h
    · exact .inl h
    · by_cases c : p.1 = x
      · left; obtain ⟨h1, h2⟩ := h; constructor; exact c; omega
      · exact .inr ⟨c, h⟩
theorem isE_sym {x y : Int} {p : Int × Int} (h : isE x y p) : isE y x p := by
  rcases h with h | h
  · exact .inr ⟨h.2, h.1⟩
  · exact .inl ⟨h.2, h.1⟩
theorem rowE_sym {l : List (Int × Int)} {x y : Int} (h : y ∈ rowE l x) : x ∈ rowE l y := by
  obtain ⟨p, hp, h⟩ := rowE_mem.1 h
  exact rowE_mem.2 ⟨p, hp, isE_sym h⟩
def chd (ρ : Int → Nat) (p : Int × Int) : Int := if ρ p.1 < ρ p.2 then p.2 else p.1
structure Ori (l : List (Int × Int)) (ρ : Int → Nat) (M : Nat) : Prop where
  ne : ∀ p ∈ l, ρ p.1 ≠ ρ p.2
  nd : (l.map (chd ρ)).Nodup
  bd : ∀ p ∈ l, ρ p.1 ≤ M ∧ ρ p.2 ≤ M
section
variable {l : List (Int × Int)} {ρ : Int → Nat} {M : Nat}
theorem chd_of {x y : Int} {p : Int × Int} (h : isE x y p) (hr : ρ y < ρ x) : chd ρ p = x := by
  unfold chd
  rcases h with ⟨h1, h2⟩ | ⟨h1, h2⟩
  · rw [h1, h2, if_neg (by omega)]
  · rw [h1, h2, if_pos hr]
end
section
variable {l : List (Int × Int)} {ρ : Int → Nat} {M : Nat}
theorem inj_of_nodup {α β : Type} {f : α → β} : ∀ {l : List α}, (l.map f).Nodup → ∀ a ∈ l, ∀ b ∈ l, f a = f b → a = b
  | [], _, a, ha, _, _, _ => by cases ha
  | c :: l, h, a, ha, b, hb, he => by
    rw [List.map_cons, List.nodup_cons] at h
    rcases List.mem_cons.1 ha with rfl | ha2 <;> rcases List.mem_cons.1 hb with rfl | hb2
    · rfl
    · exact (h.1 (by rw [he]; exact List.mem_map_of_mem hb2)).elim
    · exact (h.1 (by rw [← he]; exact List.mem_map_of_mem ha2)).elim
    · exact inj_of_nodup h.2 a ha2 b hb2 he
end
section
variable {l : List (Int × Int)} {ρ : Int → Nat} {M : Nat}
theorem Ori.low (h : Ori l ρ M) {x u u' : Int} (hu : u ∈ rowE l x) (hu' : u' ∈ rowE l x) (h1 : ρ u < ρ x) (h2 : ρ u' < ρ x) : u = u' := by
  obtain ⟨p, hp, e⟩ := rowE_mem.1 hu
  obtain ⟨q, hq, e'⟩ := rowE_mem.1 hu'
  have : p = q := inj_of_nodup h.nd p hp q hq (by rw [chd_of e h1, chd_of e' h2])
  subst this
  rcases e with ⟨a1, a2⟩ | ⟨a1, a2⟩ <;> rcases e' with ⟨b1, b2⟩ | ⟨b1, b2⟩
  · rw [← a2, b2]
  · have e1 : u' = x := by rw [← b2, a1]
    rw [e1] at h2; omega
  · have e1 : u' = x := by rw [← b2, a1]
    rw [e1] at h2; omega
  · rw [← a2, b2]
end
section
variable {l : List (Int × Int)} {ρ : Int → Nat} {M : Nat}
theorem Ori.nodup (h : Ori l ρ M) (x : Int) : (rowE l x).Nodup := by
  unfold rowE List.Nodup
  have hp : l.Pairwise fun p q => chd ρ p ≠ chd ρ q := by
    have := h.nd
    unfold List.Nodup at this
    rwa [List.pairwise_map] at this
  have hp2 : l.Pairwise fun p q => p ∈ l ∧ q ∈ l ∧ chd ρ p ≠ chd ρ q := by
    refine List.Pairwise.imp_of_mem (fun {a b} ha hb hab => ⟨ha, hb, hab⟩) hp
  refine List.Pairwise.filterMap (oth x) (fun p q hpq y hy z hz hyz => ?_) hp2
  subst hyz
  obtain ⟨h1, h2, h3⟩ := hpq
  have ep : isE x y p := by
    rcases oth_isE.1 hy with h | h
    · exact .inl h
    · exact .inr h.2
  have eq : isE x y q := by
    rcases oth_isE.1 hz with h | h
    · exact .inl h
    · exact .inr h.2
  have hne := h.ne p h1
  have hxy : ρ x ≠ ρ y := by
    rcases ep with ⟨a, b⟩ | ⟨a, b⟩
    · rwa [a, b] at hne
    · rw [a, b] at hne; exact fun h => hne h.symm
  rcases Nat.lt_or_gt_of_ne hxy with h | h
  · exact h3 (by rw [chd_of (isE_sym ep) h, chd_of (isE_sym eq) h])
  · exact h3 (by rw [chd_of ep h, chd_of eq h])
end
section
variable {l : List (Int × Int)} {ρ : Int → Nat} {M : Nat}
theorem Ori.neq (h : Ori l ρ M) {x y : Int} (hy : y ∈ rowE l x) : ρ y ≠ ρ x := by
  obtain ⟨p, hp, e⟩ := rowE_mem.1 hy
  have := h.ne p hp
  rcases e with ⟨a, b⟩ | ⟨a, b⟩
  · rw [a, b] at this; exact fun h => this h.symm
  · rw [a, b] at this; exact this
end
section
variable {l : List (Int × Int)} {ρ : Int → Nat} {M : Nat}
theorem Ori.le (h : Ori l ρ M) {x y : Int} (hy : y ∈ rowE l x) : ρ y ≤ M ∧ ρ x ≤ M := by
  obtain ⟨p, hp, e⟩ := rowE_mem.1 hy
  have := h.bd p hp
  rcases e with ⟨a, b⟩ | ⟨a, b⟩
  · rw [a, b] at this; exact ⟨this.2, this.1⟩
  · rw [a, b] at this; exact ⟨this.1, this.2⟩
end
section
variable {l : List (Int × Int)} {ρ : Int → Nat} {M : Nat}
open Classical in
noncomputable def mu (l : List (Int × Int)) (ρ : Int → Nat) (M : Nat) (v w : Int) : Nat := if w ∈ rowE l v ∧ ρ w < ρ v then M - ρ v else M + 1 + ρ v
end
section
variable {l : List (Int × Int)} {ρ : Int → Nat} {M : Nat}
def Gd (l : List (Int × Int)) (n : Nat) (v w : Int) : Prop := (0 ≤ v ∧ v < (n : Int)) ∧ (w = -1 ∨ w ∈ rowE l v)
end
section
variable {l : List (Int × Int)} {ρ : Int → Nat} {M : Nat}
theorem valid_row {n : Nat} (hv : ∀ p ∈ l, validB (n : Int) p = true) {x y : Int} (hy : y ∈ rowE l x) : 0 ≤ y ∧ y < (n : Int) := by
  obtain ⟨p, hp, e⟩ := rowE_mem.1 hy
  have h1 := hv p hp
  rw [validB, decide_eq_true_eq] at h1
  rcases e with e | e <;> omega
end
section
variable {l : List (Int × Int)} {ρ : Int → Nat} {M : Nat}
theorem keep_mem {w u : Int} {r : List Int} : u ∈ keep w r ↔ u ∈ r ∧ u ≠ w := by
  rw [keep, List.mem_filter]
  simp
end
section
variable {l : List (Int × Int)} {ρ : Int → Nat} {M : Nat}
theorem Ori.msr {n : Nat} (h : Ori l ρ M) (hv : ∀ p ∈ l, validB (n : Int) p = true) : Msr (rowE l) (Gd l n) (mu l ρ M) where
  step v w hG u hu := by
    obtain ⟨hu1, hu2⟩ := keep_mem.1 hu
    refine ⟨⟨valid_row hv hu1, .inr (rowE_sym hu1)⟩, ?_⟩
    have hne := h.neq hu1
    obtain ⟨hM1, hM2⟩ := h.le hu1
    unfold mu
    by_cases c : ρ v < ρ u
    · rw [if_pos ⟨rowE_sym hu1, c⟩]
      split <;> omega
    · rw [if_neg (fun h => c h.2), if_neg (fun hw => hu2 (h.low hu1 hw.1 (by omega) hw.2))]
      omega
end
section
variable {l : List (Int × Int)} {ρ : Int → Nat} {M : Nat}
theorem mu_le (l : List (Int × Int)) (ρ : Int → Nat) (M : Nat) (v w : Int) (h : ρ v ≤ M) : mu l ρ M v w ≤ 2 * M + 1 := by
  unfold mu
  split <;> omega
end
theorem adjAdd_get {adj : List (List Nat)} {a b x : Nat} (ha : a < adj.length) : (adjAdd adj a b).getD x [] = adj.getD x [] ++ (if a = x then [b] else []) := by
  unfold adjAdd
  simp only [List.getD, List.getElem?_set]
  by_cases e : a = x
  · subst e
    simp [ha]
  · simp [e]
theorem adjGo_row {n : Nat} : ∀ (l : List (Int × Int)) (adj : List (List Nat)), adj.length = n → (∀ p ∈ l, validB (n : Int) p = true) → ∀ x : Nat, rowI ((adjGo l adj).getD x []) = rowI (adj.getD x []) ++ rowE l (x : Int)
  | [], adj, _, _, x => by simp [adjGo, rowE]
  | p :: l, adj, ha, hv, x => by
    have h1 := hv p (by simp)
    rw [validB, decide_eq_true_eq] at h1
    have e : adjGo (p :: l) adj = adjGo l (adjStep adj p) := rfl
    rw [e, adjGo_row l (adjStep adj p) (by simp [adjStep, adjAdd, ha]) (fun q hq => hv q (by simp [hq])), adjStep, adjAdd_get (by simp [adjAdd, ha]; omega), adjAdd_get (by omega)]
    have e2 : rowE (p :: l) (x : Int) = (match oth (x : Int) p with | some y => [y] | none => []) ++ rowE l (x : Int) := by
      unfold rowE
      rw [List.filterMap_cons]
      cases oth (x : Int) p <;> rfl
    rw [e2]
    unfold oth
    by_cases c1 : p.1 = (x : Int)
    · have c2 : ¬ p.2 = (x : Int) := by omega
      rw [if_pos c1, if_pos (by omega), if_neg (by omega)]
      simp [rowI]
      omega
    · by_cases c2 : p.2 = (x : Int)
      · rw [if_neg c1, if_pos c2, if_neg (by omega), if_pos (by omega)]
        simp [rowI]
        omega
      · rw [if_neg c1, if_neg c2, if_neg (by omega), if_neg (by omega)]
        simp [rowI]
theorem adjOf_row {n : Nat} {l : List (Int × Int)} (hv : ∀ p ∈ l, validB (n : Int) p = true) {x : Nat} (hx : x < n) : ∃ r, (adjOf n l)[x]? = some r ∧ rowI r = rowE l (x : Int) := by
  have hl : (adjOf n l).length = n := (adjOf_inv hv).len
  have h := adjGo_row l (List.replicate n []) (by simp) hv x
  refine ⟨(adjOf n l)[x]'(by omega), List.getElem?_eq_getElem (by omega), ?_⟩
  have e : (adjOf n l).getD x [] = (adjOf n l)[x]'(by omega) := by simp [List.getD, List.getElem?_eq_getElem (show x < (adjOf n l).length by omega)]
  have e0 : (List.replicate n ([] : List Nat)).getD x [] = [] := by
    simp only [List.getD, List.getElem?_replicate]
    split <;> rfl
  rw [← e, adjOf, h, e0]
  rfl
theorem trues_sorted (r : List Bool) : ∀ (d j : Nat) (acc : List Int), acc.Pairwise (fun a b => a < b) → (∀ z ∈ acc, z < (j : Int)) → (truesFrom r j d acc).Pairwise fun a b => a < b
  | 0, j, acc, h, _ => h
  | d + 1, j, acc, h, hz => by
    rw [truesFrom]
    split
    · refine trues_sorted r d (j + 1) _ ?_ (fun z hz' => ?_)
      · rw [List.pairwise_append]
        refine ⟨h, by simp, fun a ha b hb => ?_⟩
        rw [List.mem_singleton.1 hb]; exact hz a ha
      · rcases List.mem_append.1 hz' with h' | h'
        · have := hz z h'; omega
        · rw [List.mem_singleton.1 h']; omega
    · exact trues_sorted r d (j + 1) _ h (fun z hz' => by have := hz z hz'; omega)
theorem nbrs_nodup (m : Nat) (l : List (Int × Int)) (x : Int) : (nbrs m l x).Nodup := by
  have := trues_sorted (nbMark x l (List.replicate m false)) m 0 [] List.Pairwise.nil (by simp)
  exact this.imp fun {a b} h => by omega
theorem nbrs_len (m : Nat) (l : List (Int × Int)) (x : Int) : (nbrs m l x).length ≤ m := by
  have := trues_len (nbMark x l (List.replicate m false)) m 0 []
  simpa [nbrs] using this
theorem nbrs_row {n : Nat} {l : List (Int × Int)} (hv : ∀ p ∈ l, validB (n : Int) p = true) {x : Int} (hx : 0 ≤ x) (y : Int) : y ∈ nbrs n l x ↔ y ∈ rowE l x := by
  obtain ⟨a, rfl⟩ : ∃ a : Nat, x = (a : Int) := ⟨x.toNat, by omega⟩
  rw [rowE_mem]
  have hpos : y ∈ nbrs n l (a : Int) → 0 ≤ y := fun h => by
    rw [nbrs, trues_mem] at h
    rcases h with h | ⟨k, rfl, _⟩
    · cases h
    · omega
  have hm := @nbN_mem n l (valid_in hv) a y.toNat
  constructor
  · intro h
    have h0 := hpos h
    obtain ⟨_, p, hp, h2⟩ := hm.1 (List.mem_map_of_mem h)
    have h1 := hv p hp
    rw [validB, decide_eq_true_eq] at h1
    exact ⟨p, hp, by unfold isE; omega⟩
  · rintro ⟨p, hp, h⟩
    have h1 := hv p hp
    rw [validB, decide_eq_true_eq] at h1
    have : y.toNat ∈ nbN n l a := hm.2 ⟨by rcases h with h | h <;> omega, p, hp, by rcases h with h | h <;> omega⟩
    obtain ⟨z, hz, hzy⟩ := List.mem_map.1 this
    have := hpos
    have hz0 : 0 ≤ z := by
      rw [nbrs, trues_mem] at hz
      rcases hz with h | ⟨k, rfl, _⟩
      · cases h
      · omega
    have : z = y := by rcases h with h | h <;> omega
    rw [← this]; exact hz
theorem nbrs_perm {n : Nat} {l : List (Int × Int)} {ρ : Int → Nat} {M : Nat} (hv : ∀ p ∈ l, validB (n : Int) p = true) (h : Ori l ρ M) {x : Int} (hx : 0 ≤ x) : (nbrs n l x).Perm (rowE l x) :=
  (List.perm_ext_iff_of_nodup (nbrs_nodup n l x) (h.nodup x)).2 fun y => nbrs_row hv hx y
end Go.Proofs.Ytmhfkhlamnapdaa
end
section
open Go Go.HL
namespace Go.Proofs.Ytmhfkhlamnapdaa
def Pnt (nb : Nat → List Nat) (n r : Nat) (o : List Int) : Prop := ∀ y, y < n → 0 ≤ o.getD y 0 → y = r ∨ ∃ x, x < n ∧ y ∈ nb x ∧ 0 ≤ o.getD x 0 ∧ o.getD y 0 = o.getD x 0 + 1
theorem bIn_pnt (nb : Nat → List Nat) {n k r x : Nat} {c : Int} (hc : 0 ≤ c ∧ c + 1 ≤ k) (hx : x < n) : ∀ (l : List Nat) (s : List Int × List Nat), (∀ y ∈ l, y < n ∧ y ∈ nb x) → BInv n k s → s.1.getD x 0 = c → Pnt nb n r s.1 → Pnt nb n r (bIn c l s).1 ∧ (bIn c l s).1.getD x 0 = c
  | [], _, _, _, h2, h3 => ⟨h3, h2⟩
  | y :: l, s, hl, h, h2, h3 => by
    rw [bIn]
    obtain ⟨hy, hyx⟩ := hl y (by simp)
    have h' := h.step hc hy
    have hyl : y < s.1.length := by rw [h.len]; exact hy
    refine bIn_pnt nb hc hx l _ (fun z hz => hl z (by simp [hz])) h' ?_ ?_
    · split
      · rename_i hlt
        show (s.1.set y (c + 1)).getD x 0 = c
        rw [getD_set _ _ _ _ hyl, if_neg (fun e => by subst e; omega), h2]
      · exact h2
    · split
      · rename_i hlt
        intro z hz h0
        have hz0 : (s.1.set y (c + 1)).getD z 0 = if y = z then c + 1 else s.1.getD z 0 := getD_set _ _ _ _ hyl
        show z = r ∨ ∃ x, x < n ∧ z ∈ nb x ∧ 0 ≤ (s.1.set y (c + 1)).getD x 0 ∧ (s.1.set y (c + 1)).getD z 0 = (s.1.set y (c + 1)).getD x 0 + 1
        by_cases e : y = z
        · subst e
          right
          refine ⟨x, hx, hyx, ?_, ?_⟩
          · rw [getD_set _ _ _ _ hyl, if_neg (fun e => by subst e; omega), h2]; omega
          · rw [getD_set _ _ _ _ hyl, getD_set _ _ _ _ hyl, if_pos rfl, if_neg (fun e => by subst e; omega), h2]
        · rw [if_neg e] at hz0
          have h0' : 0 ≤ s.1.getD z 0 := by rw [← hz0]; exact h0
          rcases h3 z hz h0' with h4 | ⟨w, hw, h5, h6, h7⟩
          · exact .inl h4
          · right
            refine ⟨w, hw, h5, ?_, ?_⟩
            · rw [getD_set _ _ _ _ hyl, if_neg (fun e => by subst e; omega)]; exact h6
            · rw [hz0, getD_set _ _ _ _ hyl, if_neg (fun e => by subst e; omega)]; exact h7
      · exact h3
theorem bGo_pnt (nb : Nat → List Nat) {n r : Nat} (hnb : ∀ x, x < n → ∀ z ∈ nb x, z < n) : ∀ (d i : Nat) (s : List Int × List Nat), i + d = n → BInv n i s → Pnt nb n r s.1 → 0 ≤ s.1.getD r 0 → r < n → Pnt nb n r (bGo nb d i s).1 ∧ (bGo nb d i s).1.getD r 0 = s.1.getD r 0
  | 0, _, _, _, _, h, _, _ => ⟨h, rfl⟩
  | d + 1, i, s, hi, hinv, h, hr, hrn => by
    rw [bGo]
    cases hw : s.2[i]? with
    | none => exact ⟨h, rfl⟩
    | some w =>
      dsimp only
      have hwn : w < n := hinv.lt _ (List.mem_of_getElem? hw)
      have hc0 := (hinv.got w hwn).2 (List.mem_of_getElem? hw)
      have hci := hinv.le w hwn
      have hc : 0 ≤ s.1.getD w 0 ∧ s.1.getD w 0 + 1 ≤ ((i + 1 : Nat) : Int) := ⟨hc0, by omega⟩
      have hinv' := BInv.inn hc (nb w) s (hnb w hwn) (hinv.mono (by omega))
      obtain ⟨h1, h2⟩ := bIn_pnt nb (r := r) hc hwn (nb w) s (fun y hy => ⟨hnb w hwn y hy, hy⟩) (hinv.mono (by omega)) rfl h
      have hk : ∀ (l : List Nat) (t : List Int × List Nat), (∀ y ∈ l, y < n) → BInv n (i + 1) t → 0 ≤ t.1.getD r 0 → (bIn (s.1.getD w 0) l t).1.getD r 0 = t.1.getD r 0 := by
        intro l
        induction l with
        | nil => intro t _ _ _; rfl
        | cons y l ihl =>
          intro t hl ht h0
          rw [bIn]
          have hy := hl y (by simp)
          have hyl : y < t.1.length := by rw [ht.len]; exact hy
          have e : (if t.1.getD y 0 < 0 then (t.1.set y (s.1.getD w 0 + 1), t.2 ++ [y]) else t).1.getD r 0 = t.1.getD r 0 := by
            split
            · show (t.1.set y (s.1.getD w 0 + 1)).getD r 0 = _
              rw [getD_set _ _ _ _ hyl, if_neg (fun e => by subst e; omega)]
            · rfl
          rw [ihl _ (fun z hz => hl z (by simp [hz])) (ht.step hc hy) (by rw [e]; exact h0), e]
      have hr' := hk (nb w) s (hnb w hwn) (hinv.mono (by omega)) hr
      obtain ⟨h3, h4⟩ := bGo_pnt nb hnb d (i + 1) _ (by omega) hinv' h1 (by rw [hr']; exact hr) hrn
      exact ⟨h3, by rw [h4, hr']⟩
theorem bInit_get {n r y : Nat} (hr : r < n) (hy : y < n) : (bInit n r).1.getD y 0 = if r = y then 0 else -1 := by
  unfold bInit
  rw [getD_set _ _ _ _ (by simpa using hr)]
  split
  · rfl
  · simp [List.getD, List.getElem?_replicate, hy]
theorem bfs_pnt (nb : Nat → List Nat) {n r : Nat} (hr : r < n) (hnb : ∀ x, x < n → ∀ z ∈ nb x, z < n) : Pnt nb n r (bfs nb n r) ∧ (bfs nb n r).getD r 0 = 0 ∧ ∀ y, y < n → (bfs nb n r).getD y 0 ≤ (n : Int) := by
  have hi := bInit_inv hr
  obtain ⟨h1, h2⟩ := bGo_pnt nb (r := r) hnb n 0 (bInit n r) (by omega) hi (fun y hy h0 => by
    rw [bInit_get hr hy] at h0
    split at h0
    · rename_i e; exact .inl e.symm
    · omega) (by rw [bInit_get hr hr, if_pos rfl]; omega) hr
  rw [bInit_get hr hr, if_pos rfl] at h2
  obtain ⟨a1, a2, a3⟩ := bGo_closed nb n hnb n 0 (bInit n r) (by omega) hi (Nat.zero_le _) (fun k x hk => by omega)
  exact ⟨h1, h2, a1.le⟩
theorem perm_of_sub {α : Type} [DecidableEq α] : ∀ (P S : List α), P.Nodup → (∀ v ∈ P, v ∈ S) → S.length ≤ P.length → S.Perm P
  | [], S, _, _, h => by
    have : S = [] := List.length_eq_zero_iff.1 (by simpa using h)
    rw [this]
  | x :: P, S, hP, h, hl => by
    rw [List.nodup_cons] at hP
    have hx := h x (by simp)
    have := perm_of_sub P (S.erase x) hP.2 (fun v hv => by
      rw [List.mem_erase_of_ne (fun e => hP.1 (by rw [← e]; exact hv))]
      exact h v (by simp [hv])) (by rw [List.length_erase_of_mem hx]; simp at hl; omega)
    exact (List.perm_cons_erase hx).trans (this.cons x)
/-- Lengths from a root. -/
structure Rtd (l : List (Int × Int)) (n r : Nat) (ρ : Int → Nat) : Prop where
  root : ρ (r : Int) = 0
  up : ∀ y : Nat, y < n → y ≠ r → ∃ u, u ∈ rowE l (y : Int) ∧ ρ (y : Int) = ρ u + 1
  le : ∀ y : Nat, y < n → ρ (y : Int) ≤ n
theorem Rtd.ori {l : List (Int × Int)} {n r : Nat} {ρ : Int → Nat} (h : Rtd l n r ρ) (hr : r < n) (hv : ∀ p ∈ l, validB (n : Int) p = true) (hl : l.length + 1 = n) : Ori l ρ n ∧ ∀ p ∈ l, ρ p.1 = ρ p.2 + 1 ∨ ρ p.2 = ρ p.1 + 1 := by
  have hup : ∀ y : Nat, y < n → y ≠ r → ∃ p ∈ l, chd ρ p = (y : Int) ∧ (ρ p.1 = ρ p.2 + 1 ∨ ρ p.2 = ρ p.1 + 1) := by
    intro y hy hyr
    obtain ⟨u, hu, e⟩ := h.up y hy hyr
    obtain ⟨p, hp, hE⟩ := rowE_mem.1 hu
    refine ⟨p, hp, chd_of hE (by omega), ?_⟩
    rcases hE with ⟨a, b⟩ | ⟨a, b⟩
    · rw [a, b]; exact .inl e
    · rw [a, b]; exact .inr e
  have hPnd : (((List.range n).filter fun y => decide (y ≠ r)).map fun y : Nat => (y : Int)).Nodup := by
    have h1 : ((List.range n).filter fun y => decide (y ≠ r)).Nodup := List.Pairwise.filter _ List.nodup_range
    exact List.Pairwise.map _ (fun a b hab => by omega) h1
  have hPl : n ≤ (((List.range n).filter fun y => decide (y ≠ r)).map fun y : Nat => (y : Int)).length + 1 := by
    rw [List.length_map]
    have h1 : (List.range n).Perm (r :: (List.range n).filter fun y => decide (y ≠ r)) := by
      refine (perm_of_sub _ _ ?_ ?_ ?_).symm
      · exact List.nodup_range
      · intro v hv'
        by_cases e : v = r
        · rw [e]; simp
        · have : v ∈ (List.range n).filter fun y => decide (y ≠ r) := List.mem_filter.2 ⟨hv', by simpa using e⟩
          simp only [List.mem_cons]; exact .inr this
      · rw [List.length_cons]
        have hnd : ((List.range n).filter fun y => decide (y ≠ r)).Nodup := List.Pairwise.filter _ List.nodup_range
        have := nodup_lt_len (n := n) (l := r :: (List.range n).filter fun y => decide (y ≠ r)) (by
          rw [List.nodup_cons]
          exact ⟨by simp, hnd⟩) (fun y hy => by
          rcases List.mem_cons.1 hy with rfl | hy
          · exact hr
          · exact List.mem_range.1 (List.mem_filter.1 hy).1)
        simpa using this
    have := h1.length_eq
    simp at this ⊢
    omega
  have hperm := perm_of_sub (((List.range n).filter fun y => decide (y ≠ r)).map fun y : Nat => (y : Int)) (l.map (chd ρ)) hPnd (fun v hv' => by
    obtain ⟨y, hy, rfl⟩ := List.mem_map.1 hv'
    obtain ⟨h1, h2⟩ := List.mem_filter.1 hy
    obtain ⟨p, hp, e, _⟩ := hup y (List.mem_range.1 h1) (by simpa using h2)
    rw [← e]; exact List.mem_map_of_mem hp) (by rw [List.length_map]; omega)
  have hnd : (l.map (chd ρ)).Nodup := hperm.nodup_iff.2 hPnd
  have hone : ∀ p ∈ l, ρ p.1 = ρ p.2 + 1 ∨ ρ p.2 = ρ p.1 + 1 := by
    intro p hp
    have hm : chd ρ p ∈ l.map (chd ρ) := List.mem_map_of_mem hp
    rw [hperm.mem_iff] at hm
    obtain ⟨y, hy, e⟩ := List.mem_map.1 hm
    obtain ⟨h1, h2⟩ := List.mem_filter.1 hy
    obtain ⟨q, hq, e2, h3⟩ := hup y (List.mem_range.1 h1) (by simpa using h2)
    have : p = q := inj_of_nodup hnd p hp q hq (by rw [e2, ← e])
    rw [this]; exact h3
  refine ⟨⟨fun p hp => by have := hone p hp; omega, hnd, fun p hp => ?_⟩, hone⟩
  have h1 := hv p hp
  rw [validB, decide_eq_true_eq] at h1
  have e1 : p.1 = ((p.1.toNat : Nat) : Int) := by omega
  have e2 : p.2 = ((p.2.toNat : Nat) : Int) := by omega
  rw [e1, e2]
  exact ⟨h.le _ (by omega), h.le _ (by omega)⟩
theorem rtd_of_bfs {l : List (Int × Int)} {n r : Nat} (hr : r < n) {nb : Nat → List Nat} (hnb : ∀ x, x < n → ∀ z ∈ nb x, z < n) (hE : ∀ x y : Nat, x < n → y ∈ nb x → (y : Int) ∈ rowE l (x : Int)) (hall : ∀ y, y < n → 0 ≤ (bfs nb n r).getD y 0) : Rtd l n r fun v => ((bfs nb n r).getD v.toNat 0).toNat := by
  obtain ⟨h1, h2, h3⟩ := bfs_pnt nb hr hnb
  refine ⟨by simp only [Int.toNat_natCast, h2]; rfl, fun y hy hyr => ?_, fun y hy => ?_⟩
  · rcases h1 y hy (hall y hy) with e | ⟨x, hx, h4, h5, h6⟩
    · exact absurd e hyr
    · refine ⟨(x : Int), rowE_sym (hE x y hx h4), ?_⟩
      simp only [Int.toNat_natCast]
      omega
  · have := h3 y hy
    simp only [Int.toNat_natCast]
    omega
theorem getD_at {o : List Int} {y : Nat} (h : y < o.length) : o.getD y 0 = o[y] := by simp [List.getD, List.getElem?_eq_getElem h]
/-- What the program calls a tree is one. -/
theorem tree_rtd {n : Nat} {l : List (Int × Int)} (h : treeOk (n : Int) l = true) : ((1 ≤ n ∧ n ≤ 30) ∧ l.length + 1 = n) ∧ (∀ p ∈ l, validB (n : Int) p = true) ∧ ∀ r, r < n → Rtd l n r fun v => ((bfs (fun y => (adjOf n l).getD y []) n r).getD v.toNat 0).toNat := by
  rw [treeOk, Bool.and_eq_true, decide_eq_true_eq] at h
  obtain ⟨⟨⟨⟨a, b⟩, c⟩, d⟩, e⟩ := h
  have hv := List.all_eq_true.1 d
  refine ⟨⟨⟨by omega, by omega⟩, by omega⟩, hv, fun r hr => ?_⟩
  have hA := adjOf_inv hv
  have hnb : ∀ x, x < n → ∀ z ∈ (adjOf n l).getD x [], z < n := by
    intro x hx z hz
    have e : (adjOf n l).getD x [] = (adjOf n l)[x]'(by rw [hA.len]; exact hx) := by simp [List.getD, List.getElem?_eq_getElem (show x < (adjOf n l).length by rw [hA.len]; exact hx)]
    rw [e] at hz
    exact (hA.row _ (List.getElem_mem _)).2 z hz
  have hE : ∀ x y : Nat, x < n → (y ∈ (adjOf n l).getD x [] ↔ (y : Int) ∈ rowE l (x : Int)) := by
    intro x y hx
    obtain ⟨r, h1, h2⟩ := adjOf_row hv hx
    have e : (adjOf n l).getD x [] = r := by simp [List.getD, h1]
    rw [e, ← h2, rowI, List.mem_map]
    constructor
    · exact fun h => ⟨y, h, rfl⟩
    · rintro ⟨z, hz, e⟩
      have : z = y := by omega
      rw [← this]; exact hz
  refine rtd_of_bfs hr hnb (fun x y hx hy => (hE x y hx).1 hy) ?_
  rw [farOk, decide_eq_true_eq, Int.toNat_natCast, farF, hA.len] at e
  -- all are reached from 0
  have hlen0 : (bfs (fun y => (adjOf n l).getD y []) n 0).length = n := bfs_len _ n 0
  have h0 : ∀ y, y < n → 0 ≤ (bfs (fun y => (adjOf n l).getD y []) n 0).getD y 0 := by
    intro y hy
    obtain ⟨a1, a2, a3⟩ := bGo_closed (fun y => (adjOf n l).getD y []) n hnb n 0 (bInit n 0) (by omega) (bInit_inv (by omega)) (Nat.zero_le _) (fun k x hk => by omega)
    have hge := a1.ge y hy
    have hne : (bfs (fun y => (adjOf n l).getD y []) n 0).getD y 0 ≠ -1 := by
      intro h1
      apply e
      have hy2 : y < (bfs (fun y => (adjOf n l).getD y []) n 0).length := by omega
      have := getD_at hy2
      rw [← h1, this]; exact List.getElem_mem hy2
    unfold bfs at hne ⊢
    omega
  -- so from r
  obtain ⟨b1, b2, b3⟩ := bGo_closed (fun y => (adjOf n l).getD y []) n hnb n 0 (bInit n r) (by omega) (bInit_inv hr) (Nat.zero_le _) (fun k x hk => by omega)
  have hsym : ∀ x y, x < n → y < n → y ∈ (adjOf n l).getD x [] → x ∈ (adjOf n l).getD y [] := fun x y hx hy h => (hE y x hy).2 (rowE_sym ((hE x y hx).1 h))
  obtain ⟨p1, p2, p3⟩ := bfs_pnt (fun y => (adjOf n l).getD y []) (r := 0) (by omega) hnb
  -- going up from r to 0
  have hr2 : r ∈ (bGo (fun y => (adjOf n l).getD y []) n 0 (bInit n r)).2 := b2 r (by simp [bInit])
  have up : ∀ (k y : Nat), y < n → ((bfs (fun y => (adjOf n l).getD y []) n 0).getD y 0).toNat ≤ k → y ∈ (bGo (fun y => (adjOf n l).getD y []) n 0 (bInit n r)).2 → 0 ∈ (bGo (fun y => (adjOf n l).getD y []) n 0 (bInit n r)).2 := by
    intro k
    induction k with
    | zero =>
      intro y hy hk hm
      rcases p1 y hy (h0 y hy) with e | ⟨x, hx, h4, h5, h6⟩
      · subst e; exact hm
      · omega
    | succ k ih =>
      intro y hy hk hm
      rcases p1 y hy (h0 y hy) with e | ⟨x, hx, h4, h5, h6⟩
      · subst e; exact hm
      · exact ih x hx (by omega) (b3 y hm x (hsym x y hx hy h4))
  have h00 := up _ r hr (Nat.le_refl _) hr2
  have down : ∀ (k y : Nat), y < n → ((bfs (fun y => (adjOf n l).getD y []) n 0).getD y 0).toNat ≤ k → y ∈ (bGo (fun y => (adjOf n l).getD y []) n 0 (bInit n r)).2 := by
    intro k
    induction k with
    | zero =>
      intro y hy hk
      rcases p1 y hy (h0 y hy) with e | ⟨x, hx, h4, h5, h6⟩
      · rw [e]; exact h00
      · omega
    | succ k ih =>
      intro y hy hk
      rcases p1 y hy (h0 y hy) with e | ⟨x, hx, h4, h5, h6⟩
      · rw [e]; exact h00
      · exact b3 x (ih x hx (by omega)) y h4
  intro y hy
  exact (b1.got y hy).2 (down _ y hy (Nat.le_refl _))
end Go.Proofs.Ytmhfkhlamnapdaa
end
section
open Go Go.HL
namespace Go.Proofs.Ytmhfkhlamnapdaa
theorem tmF_permD {row row' : Int → List Int} {D : Int → Prop} (h : ∀ v, D v → (row v).Perm (row' v) ∧ ∀ u ∈ row v, D u) : ∀ (k : Nat) (v w : Int), D v → tmF row k v w = tmF row' k v w
  | 0, _, _, _ => rfl
  | k + 1, v, w, hD => by
    rw [tmF, tmF]
    congr 1
    refine dsort_eq ?_
    have e : ((keep w (row v)).map fun u => tmF row k u v) = (keep w (row v)).map fun u => tmF row' k u v := List.map_congr_left fun u hu => tmF_permD h k u v ((h v hD).2 u (keep_mem.1 hu).1)
    rw [e]
    exact ((h v hD).1.filter _).map _
theorem valid_all {n : Nat} {l : List (Int × Int)} (hv : ∀ p ∈ l, validB (n : Int) p = true) : (l.all fun p => decide ((0 ≤ p.1 ∧ p.1 < (n : Int)) ∧ (0 ≤ p.2 ∧ p.2 < (n : Int)))) = true := List.all_eq_true.2 fun p hp => by
  have := hv p hp
  rw [validB, decide_eq_true_eq] at this
  exact decide_eq_true ⟨this.1, this.2.1⟩
theorem rowE_len (l : List (Int × Int)) (x : Int) : (rowE l x).length ≤ l.length := List.length_filterMap_le _ _
/-- Both times, on any tree that has one way up. -/
theorem ori_time {n : Nat} {l : List (Int × Int)} {ρ : Int → Nat} {M : Nat} (hn : n ≤ 30) (hl : l.length ≤ 39) (hv : ∀ p ∈ l, validB (n : Int) p = true) (hO : Ori l ρ M) (hM : M ≤ 70) {x w : Int} (hG : Gd l n x w) (hx : ρ x ≤ M) :
    TimeOk (adjOf n l) (tm (rowE l)) n x w ∧ RT n l (tm (nbrs n l)) x w ∧ tm (nbrs n l) x w = tm (rowE l) x w := by
  have hmu := mu_le l ρ M x w hx
  have hA := adjOf_inv hv
  refine ⟨?_, ?_, ?_⟩
  · have := timeOk_all (adj := adjOf n l) (hO.msr hv) (fun v => by have := rowE_len l v; omega) (fun v w hG => by
      obtain ⟨⟨h1, h2⟩, _⟩ := hG
      obtain ⟨r, h3, h4⟩ := adjOf_row hv (x := v.toNat) (by omega)
      have e : ((v.toNat : Nat) : Int) = v := by omega
      rw [e] at h4
      exact ⟨v.toNat, r, e.symm, h3, h4⟩) 150 x w hG (by omega) (by omega)
    rw [hA.len] at this
    exact this
  · have hM2 : Msr (nbrs ((n : Int)).toNat l) (Gd l n) (mu l ρ M) := ⟨fun v w hG u hu => (hO.msr hv).step v w hG u (by
      rw [Int.toNat_natCast] at hu
      obtain ⟨h1, h2⟩ := keep_mem.1 hu
      exact keep_mem.2 ⟨(nbrs_row hv hG.1.1 u).1 h1, h2⟩)⟩
    have := rt_all (n := (n : Int)) (l := l) ⟨by omega, by omega⟩ (valid_all hv) hM2 (fun v => by have := nbrs_len n l v; rw [Int.toNat_natCast]; omega) 150 x w hG (by omega) (by omega)
    rw [Int.toNat_natCast] at this
    exact this
  · exact tmF_permD (D := fun v => 0 ≤ v) (fun v hv0 => ⟨nbrs_perm hv hO hv0, fun u hu => (valid_row hv ((nbrs_row hv hv0 u).1 hu)).1⟩) 200 x w hG.1.1
theorem tree_time {n : Nat} {l : List (Int × Int)} (h : treeOk (n : Int) l = true) {x : Int} (hx : 0 ≤ x ∧ x < (n : Int)) :
    TimeOk (adjOf n l) (tm (rowE l)) n x (-1) ∧ RT n l (tm (nbrs n l)) x (-1) ∧ tm (nbrs n l) x (-1) = tm (rowE l) x (-1) := by
  obtain ⟨⟨hn, hl⟩, hv, hr⟩ := tree_rtd h
  have hR := hr 0 (by omega)
  obtain ⟨hO, _⟩ := hR.ori (by omega) hv hl
  refine ori_time (by omega) (by omega) hv hO (by omega) ⟨hx, .inl rfl⟩ ?_
  obtain ⟨a, rfl⟩ : ∃ a : Nat, x = (a : Int) := ⟨x.toNat, by omega⟩
  exact hR.le a (by omega)
end Go.Proofs.Ytmhfkhlamnapdaa
end
section
open Go Go.HL
namespace Go.Proofs.Ytmhfkhlamnapdaa
set_option maxRecDepth 100000
noncomputable def B40 : Code := Try.f40.body.getD .skip
abbrev env40 (v0 v1 v2 v6 : HV) : Env := [(0, v0), (1, v1), (2, v2), (6, v6)]
theorem rq_a_0 (N : Nat) (n : Int) (lc : List HV) (x : Int) (H : Heap) (t : Int) (H0 : Heap) (g0 : ∀ kf, N ≤ kf → callN Try.prog polN (kf + 1) 57 [.int .i64 n, .imm .arg 2 lc, .int .i64 x, .int .i64 (-1)] H = some (.int .i64 t, H0)) : RunsTo Try.prog polN 40 (sub [] B40) [(0, .int .i64 n), (1, .imm .arg 2 lc), (2, .int .i64 x)] H (.ret) (polN.keys 40) (env40 (.int .i64 n) (.imm .arg 2 lc) (.int .i64 x) (.int .i64 t)) H0 :=
  RunsTo.hint (N + 1) 60 [⟨1, 3, .int .i64 t, H0⟩] fun kf hk => by
    obtain ⟨kf, rfl⟩ : ∃ n, kf = n + 1 := ⟨kf - 1, by omega⟩
    exact ⟨[callN Try.prog polN (kf + 1) 57 [.int .i64 n, .imm .arg 2 lc, .int .i64 x, .int .i64 (-1)] H = some (.int .i64 t, H0)], by kernel_rfl, Obls.cons (g0 kf (by omega)) Obls.nil⟩
end Go.Proofs.Ytmhfkhlamnapdaa
end
section
open Go Go.HL
namespace Go.Proofs.Ytmhfkhlamnapdaa
theorem res40 : Try.f40.results.toList = [.tmp 6] := by kernel_rfl
def time40 : List HV → Option HV
  | [.int .i64 n, .imm .arg 2 lc, .int .i64 x] => match mapO decP lc with | some l => if treeOk n l = true ∧ (0 ≤ x ∧ x < n) then some (.int .i64 (tm (rowE l) x (-1))) else none | none => none
  | _ => none
theorem time40_ok : PrimOk Try.prog 40 time40 := by
  refine primOk_pure (pol := polN) (fn := Try.f40) (cd := B40) follows_mixed soundN (by kernel_rfl) (by kernel_rfl) (fnok polN.prim _ _ (by kernel_rfl)) (by kernel_rfl) ?_
  intro args res h
  unfold time40 at h
  split at h
  · rename_i n lc x
    split at h
    · rename_i l hl
      split at h
      · rename_i hg
        cases h
        rw [mapO_inv decP_inv hl]
        obtain ⟨h1, h2⟩ := hg
        obtain ⟨m, rfl⟩ : ∃ m : Nat, n = (m : Int) := ⟨n.toNat, by omega⟩
        obtain ⟨_, hR, he⟩ := tree_time h1 h2
        obtain ⟨N, hN⟩ := hR []
        rw [he] at hN
        have t := rq_a_0 N (m : Int) (l.map encP) x [] _ [] (fun kf hk => hN (kf + 1) (by omega))
        exact ⟨_, _, _, .int .i64 (tm (rowE l) x (-1)), t, by simp, by simp only [resultsV, res40, mapO, resultV]; rfl, rfl⟩
      · cases h
    · cases h
  · cases h
/-- The policy of the document's centers. -/
def primQ (g : FuncId) : Option (List HV → Option HV) := if g == 40 then some time40 else none
def polQ : Pol := { pol with prim := primQ }
theorem primQ_ok (g : FuncId) (f : List HV → Option HV) (h : primQ g = some f) : PrimOk Try.prog g f := by
  unfold primQ at h
  split at h
  · rename_i hg; cases h; rw [eq_of_beq hg]; exact time40_ok
  · cases h
theorem soundQ (n : Nat) : CallSound Try.prog (callN Try.prog polQ n) := sound_prim primQ primQ_ok n
end Go.Proofs.Ytmhfkhlamnapdaa
end
section
open Go Go.HL
namespace Go.Proofs.Ytmhfkhlamnapdaa
set_option maxRecDepth 100000
noncomputable def B20 : Code := Try.f20.body.getD .skip
abbrev env20 (v0 v1 v4 v5 v6 v7 v8 v9 : HV) : Env := [(0, v0), (1, v1), (4, v4), (5, v5), (6, v6), (7, v7), (8, v8), (9, v9)]
theorem rce_a_0 (n : Int) (lc : List HV) (H : Heap)   : RunsTo Try.prog polQ 20 (sub [0] B20) [(0, .int .i64 n), (1, .imm .arg 2 lc)] H (.normal) (polQ.keys 20) (env20 (.int .i64 n) (.imm .arg 2 lc) (.imm .lit 1 []) (.int .i64 0) .undef .undef .undef .undef) H :=
  RunsTo.hint 1 60 [] fun kf hk => by
    obtain ⟨kf, rfl⟩ : ∃ n, kf = n + 1 := ⟨kf - 1, by omega⟩
    exact ⟨[], by kernel_rfl, Obls.nil⟩
theorem rce_b_0 (n : Int) (lc : List HV) (H : Heap) (tb : Nat) (H0 : Heap) (g0 : some (HV.sl H.length 0 0 none 0 1, H ++ [Blk.arr 1 [] true 0]) = some (.sl tb 0 0 none 0 1, H0)) : RunsTo Try.prog polQ 20 (sub [1, 0] B20) (env20 (.int .i64 n) (.imm .arg 2 lc) (.imm .lit 1 []) (.int .i64 0) .undef .undef .undef .undef) H (.normal) (polQ.keys 20) (env20 (.int .i64 n) (.imm .arg 2 lc) (.imm .lit 1 []) (.int .i64 0) (.sl tb 0 0 none 0 1) .undef .undef .undef) H0 :=
  RunsTo.hint 1 60 [⟨1, 0, .sl tb 0 0 none 0 1, H0⟩] fun kf hk => by
    obtain ⟨kf, rfl⟩ : ∃ n, kf = n + 1 := ⟨kf - 1, by omega⟩
    exact ⟨[some (HV.sl H.length 0 0 none 0 1, H ++ [Blk.arr 1 [] true 0]) = some (.sl tb 0 0 none 0 1, H0)], by kernel_rfl, Obls.cons (g0) Obls.nil⟩
theorem rce_c_0 (n : Int) (lc : List HV) (H : Heap) (tb : Nat)   : RunsTo Try.prog polQ 20 (sub [1, 1, 0] B20) (env20 (.int .i64 n) (.imm .arg 2 lc) (.imm .lit 1 []) (.int .i64 0) (.sl tb 0 0 none 0 1) .undef .undef .undef) H (.normal) (polQ.keys 20) (env20 (.int .i64 n) (.imm .arg 2 lc) (.imm .lit 1 []) (.int .i64 0) (.sl tb 0 0 none 0 1) (.int .i64 n) .undef .undef) H :=
  RunsTo.hint 1 60 [] fun kf hk => by
    obtain ⟨kf, rfl⟩ : ∃ n, kf = n + 1 := ⟨kf - 1, by omega⟩
    exact ⟨[], by kernel_rfl, Obls.nil⟩
theorem rce_d_0 (n : Int) (lc : List HV) (H : Heap) (tb : Nat)   : RunsTo Try.prog polQ 20 (sub [1, 1, 1, 0, 0] B20) (env20 (.int .i64 n) (.imm .arg 2 lc) (.imm .lit 1 []) (.int .i64 0) (.sl tb 0 0 none 0 1) (.int .i64 n) .undef .undef) H (.normal) (polQ.keys 20) (env20 (.int .i64 n) (.imm .arg 2 lc) (.imm .lit 1 []) (.int .i64 0) (.sl tb 0 0 none 0 1) (.int .i64 n) (.int .i64 0) .undef) H :=
  RunsTo.hint 1 60 [] fun kf hk => by
    obtain ⟨kf, rfl⟩ : ∃ n, kf = n + 1 := ⟨kf - 1, by omega⟩
    exact ⟨[], by kernel_rfl, Obls.nil⟩
theorem rce_e_0 (n : Int) (lc : List HV) (H : Heap) (tb k : Nat) (be : Int) (i : Nat)  (g0 : (i : Int) < n) : RunsTo Try.prog polQ 20 (sub [1, 1, 1, 0, 1, 0, 0, 0] B20) (env20 (.int .i64 n) (.imm .arg 2 lc) (.imm .lit 1 []) (.int .i64 0) (.sl tb 0 k none k 1) (.int .i64 be) (.int .i64 (i : Int)) .undef) H (.normal) (polQ.keys 20) (env20 (.int .i64 n) (.imm .arg 2 lc) (.imm .lit 1 []) (.int .i64 0) (.sl tb 0 k none k 1) (.int .i64 be) (.int .i64 (i : Int)) .undef) H :=
  RunsTo.hint 1 60 [⟨4, 2, .bool true, H⟩] fun kf hk => by
    obtain ⟨kf, rfl⟩ : ∃ n, kf = n + 1 := ⟨kf - 1, by omega⟩
    exact ⟨[some (HV.bool (decide ((i : Int) < n)), (H : Heap)) = some (.bool true, H)], by kernel_rfl, Obls.cons (hintB (decide_eq_true g0)) Obls.nil⟩
theorem rce_e_1 (n : Int) (lc : List HV) (H : Heap) (tb k : Nat) (be : Int) (i : Nat)  (g0 : ¬ ((i : Int) < n)) : RunsTo Try.prog polQ 20 (sub [1, 1, 1, 0, 1, 0, 0, 0] B20) (env20 (.int .i64 n) (.imm .arg 2 lc) (.imm .lit 1 []) (.int .i64 0) (.sl tb 0 k none k 1) (.int .i64 be) (.int .i64 (i : Int)) .undef) H (.exit 0) (polQ.keys 20) (env20 (.int .i64 n) (.imm .arg 2 lc) (.imm .lit 1 []) (.int .i64 0) (.sl tb 0 k none k 1) (.int .i64 be) (.int .i64 (i : Int)) .undef) H :=
  RunsTo.hint 1 60 [⟨4, 2, .bool false, H⟩] fun kf hk => by
    obtain ⟨kf, rfl⟩ : ∃ n, kf = n + 1 := ⟨kf - 1, by omega⟩
    exact ⟨[some (HV.bool (decide ((i : Int) < n)), (H : Heap)) = some (.bool false, H)], by kernel_rfl, Obls.cons (hintB (decide_eq_false g0)) Obls.nil⟩
theorem rce_f_0 (n : Int) (lc : List HV) (H : Heap) (tb k : Nat) (be : Int) (i : Nat) (t : Int) (H0 : Heap) (g0 : ∀ kf, callN Try.prog polQ (kf + 1) 40 [.int .i64 n, .imm .arg 2 lc, .int .i64 (i : Int)] H = some (.int .i64 t, H0)) : RunsTo Try.prog polQ 20 (sub [1, 1, 1, 0, 1, 0, 0, 1, 0, 0, 0] B20) (env20 (.int .i64 n) (.imm .arg 2 lc) (.imm .lit 1 []) (.int .i64 0) (.sl tb 0 k none k 1) (.int .i64 be) (.int .i64 (i : Int)) .undef) H (.normal) (polQ.keys 20) (env20 (.int .i64 n) (.imm .arg 2 lc) (.imm .lit 1 []) (.int .i64 0) (.sl tb 0 k none k 1) (.int .i64 be) (.int .i64 (i : Int)) (.int .i64 t)) H0 :=
  RunsTo.hint 1 60 [⟨6, 3, .int .i64 t, H0⟩] fun kf hk => by
    obtain ⟨kf, rfl⟩ : ∃ n, kf = n + 1 := ⟨kf - 1, by omega⟩
    exact ⟨[callN Try.prog polQ (kf + 1) 40 [.int .i64 n, .imm .arg 2 lc, .int .i64 (i : Int)] H = some (.int .i64 t, H0)], by kernel_rfl, Obls.cons (g0 kf) Obls.nil⟩
theorem rce_g_0 (n : Int) (lc : List HV) (H : Heap) (tb k : Nat) (be : Int) (i : Nat) (q : Int) (tb2 : Nat) (H0 : Heap) (g0 : q < be) (g1 : some (HV.sl H.length 0 0 none 0 1, H ++ [Blk.arr 1 [] true 0]) = some (.sl tb2 0 0 none 0 1, H0)) : RunsTo Try.prog polQ 20 (sub [1, 1, 1, 0, 1, 0, 0, 1, 0, 0, 1, 0] B20) (env20 (.int .i64 n) (.imm .arg 2 lc) (.imm .lit 1 []) (.int .i64 0) (.sl tb 0 k none k 1) (.int .i64 be) (.int .i64 (i : Int)) (.int .i64 q)) H (.normal) (polQ.keys 20) (env20 (.int .i64 n) (.imm .arg 2 lc) (.imm .lit 1 []) (.int .i64 0) (.sl tb2 0 0 none 0 1) (.int .i64 q) (.int .i64 (i : Int)) (.int .i64 q)) H0 :=
  RunsTo.hint 1 60 [⟨7, 2, .bool true, H⟩, ⟨9, 0, .sl tb2 0 0 none 0 1, H0⟩] fun kf hk => by
    obtain ⟨kf, rfl⟩ : ∃ n, kf = n + 1 := ⟨kf - 1, by omega⟩
    exact ⟨[some (HV.bool (decide (q < be)), (H : Heap)) = some (.bool true, H), some (HV.sl H.length 0 0 none 0 1, H ++ [Blk.arr 1 [] true 0]) = some (.sl tb2 0 0 none 0 1, H0)], by kernel_rfl, Obls.cons (hintB (decide_eq_true g0)) (Obls.cons (g1) Obls.nil)⟩
theorem rce_g_1 (n : Int) (lc : List HV) (H : Heap) (tb k : Nat) (be : Int) (i : Nat) (q : Int) (tb2 : Nat)  (g0 : ¬ (q < be)) : RunsTo Try.prog polQ 20 (sub [1, 1, 1, 0, 1, 0, 0, 1, 0, 0, 1, 0] B20) (env20 (.int .i64 n) (.imm .arg 2 lc) (.imm .lit 1 []) (.int .i64 0) (.sl tb 0 k none k 1) (.int .i64 be) (.int .i64 (i : Int)) (.int .i64 q)) H (.normal) (polQ.keys 20) (env20 (.int .i64 n) (.imm .arg 2 lc) (.imm .lit 1 []) (.int .i64 0) (.sl tb 0 k none k 1) (.int .i64 be) (.int .i64 (i : Int)) (.int .i64 q)) H :=
  RunsTo.hint 1 60 [⟨7, 2, .bool false, H⟩] fun kf hk => by
    obtain ⟨kf, rfl⟩ : ∃ n, kf = n + 1 := ⟨kf - 1, by omega⟩
    exact ⟨[some (HV.bool (decide (q < be)), (H : Heap)) = some (.bool false, H)], by kernel_rfl, Obls.cons (hintB (decide_eq_false g0)) Obls.nil⟩
theorem rce_h_0 (n : Int) (lc : List HV) (H : Heap) (tb k : Nat) (be : Int) (i : Nat) (q : Int) (H0 : Heap) (g0 : q = be) (g1 : appV H 1 8 (.sl tb 0 k none k 1) [.int .i64 (i : Int)] = some (.sl tb 0 (k + 1) none (k + 1) 1, H0)) : RunsTo Try.prog polQ 20 (sub [1, 1, 1, 0, 1, 0, 0, 1, 0, 0, 1, 1] B20) (env20 (.int .i64 n) (.imm .arg 2 lc) (.imm .lit 1 []) (.int .i64 0) (.sl tb 0 k none k 1) (.int .i64 be) (.int .i64 (i : Int)) (.int .i64 q)) H (.normal) (polQ.keys 20) (env20 (.int .i64 n) (.imm .arg 2 lc) (.imm .lit 1 []) (.int .i64 0) (.sl tb 0 (k + 1) none (k + 1) 1) (.int .i64 be) (.int .i64 (i : Int)) (.int .i64 q)) H0 :=
  RunsTo.hint 1 60 [⟨10, 2, .bool true, H⟩, ⟨11, 3, .sl tb 0 (k + 1) none (k + 1) 1, H0⟩] fun kf hk => by
    obtain ⟨kf, rfl⟩ : ∃ n, kf = n + 1 := ⟨kf - 1, by omega⟩
    exact ⟨[some (HV.bool (decide (q = be)), (H : Heap)) = some (.bool true, H), appV H 1 8 (.sl tb 0 k none k 1) [.int .i64 (i : Int)] = some (.sl tb 0 (k + 1) none (k + 1) 1, H0)], by kernel_rfl, Obls.cons (hintB (decide_eq_true g0)) (Obls.cons (g1) Obls.nil)⟩
theorem rce_h_1 (n : Int) (lc : List HV) (H : Heap) (tb k : Nat) (be : Int) (i : Nat) (q : Int)  (g0 : ¬ (q = be)) : RunsTo Try.prog polQ 20 (sub [1, 1, 1, 0, 1, 0, 0, 1, 0, 0, 1, 1] B20) (env20 (.int .i64 n) (.imm .arg 2 lc) (.imm .lit 1 []) (.int .i64 0) (.sl tb 0 k none k 1) (.int .i64 be) (.int .i64 (i : Int)) (.int .i64 q)) H (.normal) (polQ.keys 20) (env20 (.int .i64 n) (.imm .arg 2 lc) (.imm .lit 1 []) (.int .i64 0) (.sl tb 0 k none k 1) (.int .i64 be) (.int .i64 (i : Int)) (.int .i64 q)) H :=
  RunsTo.hint 1 60 [⟨10, 2, .bool false, H⟩] fun kf hk => by
    obtain ⟨kf, rfl⟩ : ∃ n, kf = n + 1 := ⟨kf - 1, by omega⟩
    exact ⟨[some (HV.bool (decide (q = be)), (H : Heap)) = some (.bool false, H)], by kernel_rfl, Obls.cons (hintB (decide_eq_false g0)) Obls.nil⟩
theorem rce_i_0 (n : Int) (lc : List HV) (H : Heap) (tb k : Nat) (be : Int) (i : Nat) (x9 : HV)   : RunsTo Try.prog polQ 20 (sub [1, 1, 1, 0, 1, 0, 0, 1, 1] B20) (env20 (.int .i64 n) (.imm .arg 2 lc) (.imm .lit 1 []) (.int .i64 0) (.sl tb 0 k none k 1) (.int .i64 be) (.int .i64 (i : Int)) x9) H (.normal) (polQ.keys 20) (env20 (.int .i64 n) (.imm .arg 2 lc) (.imm .lit 1 []) (.int .i64 0) (.sl tb 0 k none k 1) (.int .i64 be) (.int .i64 (IntKind.i64.wrap ((i : Int) + 1))) x9) H :=
  RunsTo.hint 1 60 [] fun kf hk => by
    obtain ⟨kf, rfl⟩ : ∃ n, kf = n + 1 := ⟨kf - 1, by omega⟩
    exact ⟨[], by kernel_rfl, Obls.nil⟩
theorem rce_z_0 (n : Int) (lc : List HV) (H : Heap) (tb k : Nat) (be : Int) (i : Nat)   : RunsTo Try.prog polQ 20 (sub [1, 1, 1, 1] B20) (env20 (.int .i64 n) (.imm .arg 2 lc) (.imm .lit 1 []) (.int .i64 0) (.sl tb 0 k none k 1) (.int .i64 be) (.int .i64 (i : Int)) .undef) H (.ret) (polQ.keys 20) (env20 (.int .i64 n) (.imm .arg 2 lc) (.sl tb 0 k none k 1) (.int .i64 be) (.sl tb 0 k none k 1) (.int .i64 be) (.int .i64 (i : Int)) .undef) H :=
  RunsTo.hint 1 60 [] fun kf hk => by
    obtain ⟨kf, rfl⟩ : ∃ n, kf = n + 1 := ⟨kf - 1, by omega⟩
    exact ⟨[], by kernel_rfl, Obls.nil⟩
end Go.Proofs.Ytmhfkhlamnapdaa
end
section
open Go Go.HL
namespace Go.Proofs.Ytmhfkhlamnapdaa
theorem res48 : Try.f48.results.toList = [.tmp 2] := by kernel_rfl
theorem res20 : Try.f20.results.toList = [.tmp 4, .tmp 5] := by kernel_rfl
theorem res17 : Try.f17.results.toList = [.tmp 4, .tmp 5, .tmp 6] := by kernel_rfl
def sel (le : Int) : Nat → List Int → List Int
  | _, [] => []
  | i, t :: l => if t = le then (i : Int) :: sel le (i + 1) l else sel le (i + 1) l
def cenGo : Nat → Int → List Int → List Int → Int × List Int
  | _, be, o, [] => (be, o)
  | i, be, o, t :: l => if t < be then cenGo (i + 1) t [(i : Int)] l else if t = be then cenGo (i + 1) be (o ++ [(i : Int)]) l else cenGo (i + 1) be o l
theorem foldl_min_le : ∀ (l : List Int) (m : Int), l.foldl min m ≤ m
  | [], m => Int.le_refl _
  | t :: l, m => by have := foldl_min_le l (min m t); simp only [List.foldl_cons]; omega
theorem cenGo_eq : ∀ (l : List Int) (i : Nat) (be : Int) (o : List Int), cenGo i be o l = (l.foldl min be, (if l.foldl min be = be then o else []) ++ sel (l.foldl min be) i l)
  | [], i, be, o => by simp [cenGo, sel]
  | t :: l, i, be, o => by
    rw [cenGo, sel]
    simp only [List.foldl_cons]
    by_cases h1 : t < be
    · have hm : min be t = t := by omega
      rw [if_pos h1, cenGo_eq l]
      simp only [hm]
      have := foldl_min_le l t
      rw [if_neg (show ¬ l.foldl min t = be by omega)]
      by_cases h2 : l.foldl min t = t
      · rw [if_pos h2, if_pos h2.symm]; simp
      · rw [if_neg h2, if_neg (fun h => h2 h.symm)]
    · have hm : min be t = be := by omega
      rw [if_neg h1]
      simp only [hm]
      have := foldl_min_le l be
      by_cases h2 : t = be
      · rw [if_pos h2, cenGo_eq l]
        by_cases h3 : l.foldl min be = be
        · rw [if_pos h3, if_pos (by omega)]; simp [h3, h2]
        · rw [if_neg h3, if_neg h3, if_neg (by omega)]
      · rw [if_neg h2, cenGo_eq l, if_neg (show ¬ t = l.foldl min be by omega)]
theorem sel_len (le : Int) : ∀ (l : List Int) (i : Nat), (sel le i l).length ≤ l.length
  | [], _ => Nat.le_refl _
  | t :: l, i => by
    rw [sel]
    have := sel_len le l (i + 1)
    split <;> simp <;> omega
/-- The least of a list. -/
def minL : List Int → Int
  | [] => 0
  | t :: l => l.foldl min t
theorem min_loop (l : List Int) (hl : l.length ≤ 1000) : ∀ d i m, i + d = l.length →
    RunsTo Try.prog polS 48 (sub [1, 1, 1, 0, 1, 0] B48) (env48 (.imm .arg 1 (l.map encI)) (.int .i64 0) (.int .i64 m) (.int .i64 (i : Int))) [] (.exit 0) (polS.keys 48) (env48 (.imm .arg 1 (l.map encI)) (.int .i64 0) (.int .i64 ((l.drop i).foldl min m)) (.int .i64 (l.length : Int))) [] := by
  intro d
  induction d with
  | zero =>
    intro i m hi
    have hi : i = l.length := by omega
    subst hi
    rw [List.drop_length]
    exact RunsTo.loop_out (mi_l_1 (l.map encI) m l.length (by simp)) (by simp) (by kernel_rfl) (by kernel_rfl)
  | succ d ih =>
    intro i m hi
    have hil : i < l.length := by omega
    have s := mi_l_0 (l.map encI) m i l[i] (by rw [List.length_map]; omega) (idx_imm u24b z3b (by omega) (by rw [Int.toNat_natCast, List.getElem?_map, List.getElem?_eq_getElem hil]; rfl))
    rw [wrap_succ (by omega)] at s
    rw [List.drop_eq_getElem_cons hil, List.foldl_cons]
    exact RunsTo.loop s (by kernel_rfl) (gc_eq _ rfl) (ih (i + 1) (min m l[i]) (by omega)) rfl (by kernel_rfl) (by kernel_rfl)
theorem min_call {H : Heap} {b k : Nat} {l : List Int} (hb : H[b]? = some (bI l)) (hl : l.length = k) (h0 : 0 < k) (hk : k ≤ 1000) : Cl 48 [.sl b 0 k none k 1] H (.int .i64 (minL l)) H := by
  cases l with
  | nil => simp at hl; omega
  | cons t l =>
    have a := mi_a_0 ((t :: l).map encI)
    have b1 := mi_b_1 ((t :: l).map encI) (by simp; omega)
    have c := mi_c_0 ((t :: l).map encI) t (idx_imm u24b z3b (by omega) rfl)
    have d := mi_d_0 ((t :: l).map encI) t
    have r := min_loop (t :: l) (by omega) l.length 1 t (by simp; omega)
    have z := mi_z_0 ((t :: l).map encI) (((t :: l).drop 1).foldl min t) (t :: l).length
    have sk : RunsTo Try.prog polS 48 (sub [1, 0, 1, 1] B48) (env48 (.imm .arg 1 ((t :: l).map encI)) (.int .i64 0) .undef .undef) [] .normal (polS.keys 48) (env48 (.imm .arg 1 ((t :: l).map encI)) (.int .i64 0) .undef .undef) [] := RunsTo.hint 1 60 [] fun kf hk => by
      obtain ⟨kf, rfl⟩ : ∃ n, kf = n + 1 := ⟨kf - 1, by omega⟩
      exact ⟨[], by kernel_rfl, Obls.nil⟩
    have t1 := RunsTo.seq b1 (RunsTo.cond (y := .tmp 7) (t := false) (c := sub [1, 0, 1] B48) (a := sub [1, 0, 1, 0] B48) (b := sub [1, 0, 1, 1] B48) (by kernel_rfl) rfl sk) (c := sub [1, 0] B48) (by kernel_rfl) (by kernel_rfl)
    have t2 := RunsTo.seq d (RunsTo.block_exit (c := sub [1, 1, 1, 0, 1] B48) r (by kernel_rfl)) (c := sub [1, 1, 1, 0] B48) (by kernel_rfl) (by kernel_rfl)
    have t3 := RunsTo.seq c (RunsTo.seq t2 z (c := sub [1, 1, 1] B48) (by kernel_rfl) (by kernel_rfl)) (c := sub [1, 1] B48) (by kernel_rfl) (by kernel_rfl)
    have t4 := RunsTo.seq a (RunsTo.seq t1 t3 (c := sub [1] B48) (by kernel_rfl) (by kernel_rfl)) (c := B48) (by kernel_rfl) (by kernel_rfl)
    refine CallsTo.pure (P := Try.prog) (pol := polS) (g := 48) (fn := Try.f48) (cd := B48) (rs := [.imm .arg 1 ((t :: l).map encI)]) (v := .int .i64 (minL (t :: l))) (r := .int .i64 (minL (t :: l))) (by kernel_rfl) (by kernel_rfl) (by kernel_rfl) (by kernel_rfl) (by kernel_rfl) ?_ t4 (by kernel_rfl) (by simp) (by simp only [resultsV, res48, mapO, resultV]; rfl) rfl
    have e : toArg H 6 (.sl b 0 k none k 1) = if k = 0 then some (.imm .arg 1 []) else match view H b 0 k k 1 with | some l => (match mapO (toArg H 5) l with | some l => some (.imm .arg 1 l) | none => none) | none => none := rfl
    have hv : view H b 0 k k 1 = some ((t :: l).map encI) := by
      simp only [view, hb, List.length_map, hl]
      rw [if_pos ⟨trivial, by omega, trivial⟩, List.drop_zero, List.take_of_length_le (by rw [List.length_map]; omega)]
    have hm : mapO (toArg H 5) ((t :: l).map encI) = some ((t :: l).map encI) := mapO_self (f := toArg H 5) (g := encI) (fun _ => rfl) _
    rw [if_neg (by omega), hv] at e
    simp only [hm] at e
    simp only [mapO, e]
abbrev reE (n : Int) (lc : List HV) (tb k : Nat) (be : Int) (i : Nat) : Env := env20 (.int .i64 n) (.imm .arg 2 lc) (.imm .lit 1 []) (.int .i64 0) (.sl tb 0 k none k 1) (.int .i64 be) (.int .i64 (i : Int)) .undef
theorem c40 {n : Nat} {l : List (Int × Int)} (h : treeOk (n : Int) l = true) {i : Nat} (hi : i < n) (H : Heap) : ∀ kf, callN Try.prog polQ (kf + 1) 40 [.int .i64 (n : Int), .imm .arg 2 (l.map encP), .int .i64 (i : Int)] H = some (.int .i64 (tm (rowE l) i (-1)), H) := fun kf => by
  have ha : toArg H 6 (.imm .arg 2 (l.map encP)) = some (.imm .arg 2 (l.map encP)) := by
    show argP (.imm .arg 2 (l.map encP)) = _
    simp only [argP, argP_pairs]
  rw [prim_call (pol := polQ) (g := 40) (F := time40) (by kernel_rfl) (rs := [.int .i64 (n : Int), .imm .arg 2 (l.map encP), .int .i64 (i : Int)]) (by simp only [mapO, ha]; rfl) (res := .int .i64 (tm (rowE l) i (-1))) (by
    simp only [time40, mapO_map decP_enc]
    rw [if_pos ⟨h, by omega, by omega⟩])]
  rfl
theorem rce_loop {n : Nat} {l : List (Int × Int)} (h : treeOk (n : Int) l = true) (hn : n ≤ 30) (ts : List Int) (hts : ts = (List.range n).map fun i : Nat => tm (rowE l) i (-1)) : ∀ d i be (o : List Int) tb (H : Heap), i + d = n → o.length ≤ i → H[tb]? = some (bI o) →
    ∃ tb' H', RunsTo Try.prog polQ 20 (sub [1, 1, 1, 0, 1, 0] B20) (reE n (l.map encP) tb o.length be i) H (.exit 0) (polQ.keys 20) (reE n (l.map encP) tb' (cenGo i be o (ts.drop i)).2.length (cenGo i be o (ts.drop i)).1 n) H' ∧ H'[tb']? = some (bI (cenGo i be o (ts.drop i)).2) := by
  have htl : ts.length = n := by rw [hts]; simp
  intro d
  induction d with
  | zero =>
    intro i be o tb H hi ho hb
    have hi : i = n := by omega
    subst hi
    rw [List.drop_of_length_le (by omega), cenGo]
    exact ⟨tb, H, RunsTo.loop_out (RunsTo.seq_out (rce_e_1 (i : Int) (l.map encP) H tb o.length be i (by omega)) (by simp) (c := sub [1, 1, 1, 0, 1, 0, 0] B20) (b := sub [1, 1, 1, 0, 1, 0, 0, 1] B20) (by kernel_rfl)) (by simp) (by kernel_rfl) (by kernel_rfl), hb⟩
  | succ d ih =>
    intro i be o tb H hi ho hb
    have hit : i < ts.length := by omega
    have hgt : ts[i] = tm (rowE l) i (-1) := by simp [hts]
    have e := rce_e_0 (n : Int) (l.map encP) H tb o.length be i (by omega)
    have f := rce_f_0 (n : Int) (l.map encP) H tb o.length be i _ H (c40 h (by omega) H)
    rw [List.drop_eq_getElem_cons hit, cenGo, hgt]
    generalize tm (rowE l) i (-1) = t at f
    have wrapUp : ∀ (tb2 k2 : Nat) (be2 : Int) (H2 : Heap) (hx : RunsTo Try.prog polQ 20 (sub [1, 1, 1, 0, 1, 0, 0, 1, 0, 0, 1] B20) (env20 (.int .i64 (n : Int)) (.imm .arg 2 (l.map encP)) (.imm .lit 1 []) (.int .i64 0) (.sl tb 0 o.length none o.length 1) (.int .i64 be) (.int .i64 (i : Int)) (.int .i64 t)) H .normal (polQ.keys 20) (env20 (.int .i64 (n : Int)) (.imm .arg 2 (l.map encP)) (.imm .lit 1 []) (.int .i64 0) (.sl tb2 0 k2 none k2 1) (.int .i64 be2) (.int .i64 (i : Int)) (.int .i64 t)) H2),
        RunsTo Try.prog polQ 20 (sub [1, 1, 1, 0, 1, 0, 0] B20) (reE n (l.map encP) tb o.length be i) H .normal (polQ.keys 20) (env20 (.int .i64 (n : Int)) (.imm .arg 2 (l.map encP)) (.imm .lit 1 []) (.int .i64 0) (.sl tb2 0 k2 none k2 1) (.int .i64 be2) (.int .i64 ((i + 1 : Nat) : Int)) (.int .i64 t)) H2 := by
      intro tb2 k2 be2 H2 hx
      have ii := rce_i_0 (n : Int) (l.map encP) H2 tb2 k2 be2 i (.int .i64 t)
      rw [wrap_succ (by omega)] at ii
      have t1 := RunsTo.block_normal (i := 1) (c := sub [1, 1, 1, 0, 1, 0, 0, 1, 0] B20) (RunsTo.seq f hx (c := sub [1, 1, 1, 0, 1, 0, 0, 1, 0, 0] B20) (by kernel_rfl) (by kernel_rfl)) (by kernel_rfl)
      exact RunsTo.seq e (RunsTo.seq t1 ii (c := sub [1, 1, 1, 0, 1, 0, 0, 1] B20) (by kernel_rfl) (by kernel_rfl)) (c := sub [1, 1, 1, 0, 1, 0, 0] B20) (by kernel_rfl) (by kernel_rfl)
    by_cases c1 : t < be
    · rw [if_pos c1]
      have g := rce_g_0 (n : Int) (l.map encP) H tb o.length be i t H.length _ c1 rfl
      have hset : (H ++ [bI []]).set H.length (bI [(i : Int)]) = H ++ [bI [(i : Int)]] := by rw [List.set_append_right _ _ (Nat.le_refl _)]; simp
      have ha := appV_ints (H := H ++ [bI []]) (b := H.length) (o := []) (xs := [(i : Int)]) (by rw [List.getElem?_append_right (Nat.le_refl _)]; simp) (by simp) (by simp)
      rw [List.nil_append, hset] at ha
      have hh := rce_h_0 (n : Int) (l.map encP) (H ++ [bI []]) H.length 0 t i t _ rfl ha
      obtain ⟨tb', H', r, h1⟩ := ih (i + 1) t [(i : Int)] H.length (H ++ [bI [(i : Int)]]) (by omega) (by simp) (by rw [List.getElem?_append_right (Nat.le_refl _)]; simp)
      have t2 := wrapUp _ _ _ _ (RunsTo.seq g hh (c := sub [1, 1, 1, 0, 1, 0, 0, 1, 0, 0, 1] B20) (by kernel_rfl) (by kernel_rfl))
      exact ⟨tb', H', RunsTo.loop t2 (by kernel_rfl) (gc_all (by simp only [bndE, bnd, bndL, List.length_append, List.length_singleton]; omega)) r rfl (by kernel_rfl) (by kernel_rfl), h1⟩
    · rw [if_neg c1]
      have g := rce_g_1 (n : Int) (l.map encP) H tb o.length be i t 0 c1
      by_cases c2 : t = be
      · rw [if_pos c2]
        have ha := appV_ints (H := H) (b := tb) (o := o) (xs := [(i : Int)]) hb (by simp; omega) (by simp)
        have hh := rce_h_0 (n : Int) (l.map encP) H tb o.length be i t _ c2 ha
        obtain ⟨tb', H', r, h1⟩ := ih (i + 1) be (o ++ [(i : Int)]) tb (H.set tb (bI (o ++ [(i : Int)]))) (by omega) (by simp; omega) (List.getElem?_set_self (lt_of_get hb))
        have t2 := wrapUp _ _ _ _ (RunsTo.seq g hh (c := sub [1, 1, 1, 0, 1, 0, 0, 1, 0, 0, 1] B20) (by kernel_rfl) (by kernel_rfl))
        rw [List.length_append, List.length_singleton] at r
        exact ⟨tb', H', RunsTo.loop t2 (by kernel_rfl) (gc_eq _ (by simp)) r rfl (by kernel_rfl) (by kernel_rfl), h1⟩
      · rw [if_neg c2]
        have hh := rce_h_1 (n : Int) (l.map encP) H tb o.length be i t c2
        obtain ⟨tb', H', r, h1⟩ := ih (i + 1) be o tb H (by omega) (by omega) hb
        have t2 := wrapUp _ _ _ _ (RunsTo.seq g hh (c := sub [1, 1, 1, 0, 1, 0, 0, 1, 0, 0, 1] B20) (by kernel_rfl) (by kernel_rfl))
        exact ⟨tb', H', RunsTo.loop t2 (by kernel_rfl) (gc_eq _ rfl) r rfl (by kernel_rfl) (by kernel_rfl), h1⟩
def timesL (n : Nat) (l : List (Int × Int)) : List Int := (List.range n).map fun i : Nat => tm (rowE l) i (-1)
def centers20 : List HV → Option HV
  | [.int .i64 n, .imm .arg 2 lc] => match mapO decP lc with | some l => if treeOk n l = true then some (.tuple [.own 1 ((cenGo 0 n [] (timesL n.toNat l)).2.map encI), .int .i64 (cenGo 0 n [] (timesL n.toNat l)).1]) else none | none => none
  | _ => none
theorem res_out {H : Heap} {b k : Nat} {o : List Int} (hb : H[b]? = some (bI o)) (hk : o.length = k) (vs : List Int) : toRes H false (.tuple (.sl b 0 k none k 1 :: vs.map encI)) = some (.tuple (.own 1 (o.map encI) :: vs.map encI)) := by
  have hi : ∀ vs : List Int, (vs.map encI).flatMap (fun v => (cellsOf v).flatMap (owned H false)) = [] := by
    intro vs
    rw [List.flatMap_eq_nil_iff]
    intro v hv
    obtain ⟨z, _, rfl⟩ := List.mem_map.1 hv
    rfl
  have ho : ownedAll H false (.tuple (.sl b 0 k none k 1 :: vs.map encI)) = [b] := by
    have e1 : (cellsOf (.sl b 0 k none k 1)).flatMap (owned H false) = [b] := by
      simp only [cellsOf, List.flatMap_cons, List.flatMap_nil, owned, hb]
      rfl
    simp only [ownedAll, List.flatMap_cons, hi, e1, List.append_nil]
  have hr := resCell_sl (H := H) (no := [b]) (b := b) (k := 1) (m := k) (cap := none) (els := o.map encI) hb (by simpa using hk) (mapO_self (fun r => frz_int 4 r) _)
  have hm : mapO (resVal H [b] false) (vs.map encI) = some (vs.map encI) := mapO_self (f := resVal H [b] false) (g := encI) (fun _ => rfl) vs
  have hr1 : resVal H [b] false (.sl b 0 k none k 1) = some (.own 1 (o.map encI)) := by simp only [resVal, hr]
  simp only [toRes, ho, List.nodup_cons, List.not_mem_nil, not_false_eq_true, List.nodup_nil, and_self, if_true, mapO, hr1, hm]
theorem centers20_ok : PrimOk Try.prog 20 centers20 := by
  refine primOk_pure (pol := polQ) (fn := Try.f20) (cd := B20) follows_mixed soundQ (by kernel_rfl) (by kernel_rfl) (fnok polQ.prim _ _ (by kernel_rfl)) (by kernel_rfl) ?_
  intro args res h
  unfold centers20 at h
  split at h
  · rename_i n lc
    split at h
    · rename_i l hl
      split at h
      · rename_i hg
        cases h
        rw [mapO_inv decP_inv hl]
        obtain ⟨m, rfl⟩ : ∃ m : Nat, n = (m : Int) := ⟨n.toNat, by
          rw [treeOk, Bool.and_eq_true, decide_eq_true_eq] at hg
          omega⟩
        obtain ⟨⟨hn, _⟩, _, _⟩ := tree_rtd hg
        rw [Int.toNat_natCast]
        have a := rce_a_0 (m : Int) (l.map encP) []
        have b := rce_b_0 (m : Int) (l.map encP) [] 0 [bI []] rfl
        have c := rce_c_0 (m : Int) (l.map encP) [bI []] 0
        have d := rce_d_0 (m : Int) (l.map encP) [bI []] 0
        obtain ⟨tb, H', r, h1⟩ := rce_loop hg (by omega) (timesL m l) rfl m 0 (m : Int) [] 0 [bI []] (by omega) (by simp) rfl
        rw [List.drop_zero] at r h1
        have z := rce_z_0 (m : Int) (l.map encP) H' tb (cenGo 0 (m : Int) [] (timesL m l)).2.length (cenGo 0 (m : Int) [] (timesL m l)).1 m
        have t1 := RunsTo.seq d (RunsTo.block_exit (c := sub [1, 1, 1, 0, 1] B20) r (by kernel_rfl)) (c := sub [1, 1, 1, 0] B20) (by kernel_rfl) (by kernel_rfl)
        have t2 := RunsTo.seq c (RunsTo.seq t1 z (c := sub [1, 1, 1] B20) (by kernel_rfl) (by kernel_rfl)) (c := sub [1, 1] B20) (by kernel_rfl) (by kernel_rfl)
        have t3 := RunsTo.seq a (RunsTo.seq b t2 (c := sub [1] B20) (by kernel_rfl) (by kernel_rfl)) (c := B20) (by kernel_rfl) (by kernel_rfl)
        exact ⟨_, _, _, _, t3, by simp, by simp only [resultsV, res20, mapO, resultV]; rfl, res_out h1 rfl [(cenGo 0 (m : Int) [] (timesL m l)).1]⟩
      · cases h
    · cases h
  · cases h
end Go.Proofs.Ytmhfkhlamnapdaa
end
section
open Go Go.HL
namespace Go.Proofs.Ytmhfkhlamnapdaa
theorem s46_ok {n : Nat} {l : List (Int × Int)} (hg : ((1 ≤ (n : Int) ∧ (n : Int) ≤ 30) ∧ (l.length : Int) = (n : Int) - 1) ∧ l.all (validB (n : Int)) = true) (b : Bool) (hb : farOk (adjOf n l) = b) : ∀ kf, callN Try.prog polS (kf + 1) 46 [.int .i64 (n : Int), .imm .arg 2 (l.map encP)] [] = some (.tuple [TV n, .bool b], [.arr 1 ((adjOf n l).map rowO) true 0, .map [] [] 0]) := fun kf => by
  have hl : (adjOf n l).length = n := (adjOf_inv (List.all_eq_true.1 hg.2)).len
  rw [prim_call (pol := polS) (g := 46) (F := newTree46) (by kernel_rfl) (rs := [.int .i64 (n : Int), .imm .arg 2 (l.map encP)]) (by simp only [mapO, arg_pairs']; rfl) (res := .tuple [treeV (adjOf n l), .bool b]) (by simp only [newTree46, mapO_map decP_enc]; rw [newTreeF, if_pos hg, Int.toNat_natCast, hb])]
  have hno := rowO_any (adjOf n l)
  simp only [recv, recvVals, recvVal, treeV, recvCells, recvCell, hno, List.length_map, hl]
  rfl
theorem s46_bad {n : Int} {l : List (Int × Int)} (hg : ¬ (((1 ≤ n ∧ n ≤ 30) ∧ (l.length : Int) = n - 1) ∧ l.all (validB n) = true)) : ∀ kf, callN Try.prog polS (kf + 1) 46 [.int .i64 n, .imm .arg 2 (l.map encP)] [] = some (.tuple [.agg [.sl 0 0 0 none 0 0, .nilmap], .bool false], [.arr 0 [] true 0]) := fun kf => by
  rw [prim_call (pol := polS) (g := 46) (F := newTree46) (by kernel_rfl) (rs := [.int .i64 n, .imm .arg 2 (l.map encP)]) (by simp only [mapO, arg_pairs']; rfl) (res := .tuple [.agg [.own 0 [], .nilmap], .bool false]) (by simp only [newTree46, mapO_map decP_enc]; rw [newTreeF, if_neg hg])]
  rfl
theorem same_rows (adj : List (List Nat)) : sameH [.arr 1 (adj.map rowO) true 0] [.arr 1 (adj.map rowO) true 0] = true := same_arr fun v hv => by
  obtain ⟨r, _, rfl⟩ := List.mem_map.1 hv
  have : sameL (r.map encN) (r.map encN) = true := sameL_all fun v hv => by
    obtain ⟨k, _, rfl⟩ := List.mem_map.1 hv
    simp [encN, encI, same]
  simp [rowO, same, this]
theorem mem_start (adj : List (List Nat)) (T : Int → Int → Int) : Mem adj T [.arr 1 (adj.map rowO) true 0, .map [] [] 0] := by
  refine ⟨rfl, ⟨[], rfl⟩, ?_, by simp [mxs, Blk.mx]⟩
  have := same_rows adj
  simp only [sameH, Bool.and_eq_true] at this ⊢
  simp [this.1.1.1.2, sameL]
section
variable {adj : List (List Nat)} {T : Int → Int → Int} {n : Nat}
theorem Gr.cut_set {H H0 : Heap} (h : Gr adj T H H0) (h2 : 2 ≤ H.length) {k : Nat} (hk : 2 ≤ k ∧ k < H.length) (l : List Int) {r : Nat} (hr : r ≤ H.length) :
    Mem adj T (gc H.length r (H0.set k (bI l))) ∧ (gc H.length r (H0.set k (bI l))).length = H.length ∧ (gc H.length r (H0.set k (bI l)))[k]? = some (bI l) ∧ ∀ j, j ≠ 1 → j ≠ k → (gc H.length r (H0.set k (bI l)))[j]? = H[j]? := by
  have hG : Gr adj T (H.set k (bI l)) (H0.set k (bI l)) := by
    refine ⟨h.mem.set hk.1 (same_bI l) (Nat.zero_le _), by simp [h.len], fun j h1 hj => ?_, ?_⟩
    · rw [List.length_set] at hj
      rw [List.getElem?_set, List.getElem?_set]
      have := h.len
      by_cases e : k = j
      · rw [if_pos e, if_pos e, if_pos (by omega), if_pos (by omega)]
      · rw [if_neg e, if_neg e]; exact h.same j h1 hj
    · rw [List.length_set, mxs_le]
      intro B hB
      rcases List.mem_or_eq_of_mem_set hB with hB | rfl
      · exact mxs_le.1 h.mx B hB
      · exact Nat.zero_le _
  have hc := hG.cut (r := r) (by rw [List.length_set]; exact h2) (by rw [List.length_set]; exact hr)
  rw [List.length_set] at hc
  obtain ⟨c1, c2, c3⟩ := hc
  refine ⟨c1, c2, ?_, fun j h1 hj => ?_⟩
  · rw [c3 k (by omega)]; exact List.getElem?_set_self hk.2
  · rw [c3 j h1, List.getElem?_set_ne (fun e => hj e.symm)]
end
section
variable {adj : List (List Nat)} {T : Int → Int → Int} {n : Nat}
/-- The memory in 'Centers'. -/
structure CM (adj : List (List Nat)) (T : Int → Int → Int) (n : Nat) (ts o : List Int) (H : Heap) : Prop where
  mem : Mem adj T H
  len : H.length = 5
  t : H[2]? = some (boxT n)
  ts : H[3]? = some (bI ts)
  o : H[4]? = some (bI o)
end
section
variable {adj : List (List Nat)} {T : Int → Int → Int} {n : Nat}
abbrev ceE (n : Int) (lc : List HV) (k i : Nat) : Env := env17 (.int .i64 n) (.imm .arg 2 lc) (.imm .lit 1 []) (.int .i64 0) (.int .i64 0) (.ptr 2 0 0 1) .undef (.sl 3 0 k none k 1) (.sl 4 0 0 none 0 1) .undef .undef .undef .undef (.int .i64 n) (.int .i64 (i : Int)) .undef .undef .undef
end
section
variable {adj : List (List Nat)} {T : Int → Int → Int} {n : Nat}
theorem take_map_range (f : Nat → Int) {n i : Nat} (h : i < n) : ((List.range n).map f).take (i + 1) = ((List.range n).map f).take i ++ [f i] := by
  rw [List.take_add_one]
  simp [h]
end
section
variable {adj : List (List Nat)} {T : Int → Int → Int} {n : Nat}
theorem ce_loop1 {lc : List HV} (hn : n ≤ 30) (hT : ∀ i : Nat, i < n → TimeOk adj T n i (-1)) : ∀ d i H, i + d = n → CM adj T n (((List.range n).map fun i : Nat => T i (-1)).take i) [] H →
    ∃ H', RunsTo Try.prog polS 17 (sub [1, 1, 1, 1, 0, 1, 0] B17) (ceE n lc i i) H (.exit 0) (polS.keys 17) (ceE n lc n n) H' ∧ CM adj T n ((List.range n).map fun i : Nat => T i (-1)) [] H' := by
  intro d
  induction d with
  | zero =>
    intro i H hi hC
    have hi : i = n := by omega
    subst hi
    rw [List.take_of_length_le (by simp)] at hC
    exact ⟨H, RunsTo.loop_out (ce_l_1 0 (i : Int) lc i H i i (by omega)) (by simp) (by kernel_rfl) (by kernel_rfl), hC⟩
  | succ d ih =>
    intro i H hi hC
    obtain ⟨H0, hcl, hG⟩ := hT i (by omega) H hC.mem
    obtain ⟨N, hN⟩ := hcl.from
    have h3 : H0[3]? = some (bI (((List.range n).map fun i : Nat => T i (-1)).take i)) := by rw [hG.same 3 (by omega) (by rw [hC.len]; omega)]; exact hC.ts
    have hlen : (((List.range n).map fun i : Nat => T i (-1)).take i).length = i := by simp; omega
    have ha := appV_ints (xs := [T i (-1)]) h3 (by rw [hlen]; simp; omega) (by simp)
    rw [← take_map_range (fun i : Nat => T i (-1)) (by omega), hlen] at ha
    have s := ce_l_0 N (n : Int) lc n H i i (T i (-1)) H0 _ (by omega) (ld_T hC.t) hN ha
    rw [wrap_succ (by omega)] at s
    have hlt := hC.len
    obtain ⟨c1, c2, c3, c4⟩ := hG.cut_set (by omega) (k := 3) (by omega) (((List.range n).map fun i : Nat => T i (-1)).take (i + 1)) (r := bndE (ceE n lc (i + 1) (i + 1))) (by simp only [bndE, bnd]; omega)
    obtain ⟨H', r, hC'⟩ := ih (i + 1) _ (by omega) ⟨c1, by rw [c2]; exact hC.len, by rw [c4 2 (by omega) (by omega)]; exact hC.t, c3, by rw [c4 4 (by omega) (by omega)]; exact hC.o⟩
    exact ⟨H', RunsTo.loop s (by kernel_rfl) rfl r rfl (by kernel_rfl) (by kernel_rfl), hC'⟩
end
section
variable {adj : List (List Nat)} {T : Int → Int → Int} {n : Nat}
abbrev cmE (n : Int) (lc : List HV) (le : Int) (k i j : Nat) : Env := env17 (.int .i64 n) (.imm .arg 2 lc) (.imm .lit 1 []) (.int .i64 0) (.int .i64 0) .undef .undef .undef (.sl 4 0 j none j 1) .undef (.int .i64 le) .undef .undef .undef .undef (.sl 3 0 k none k 1) (.int .i64 (k : Int)) (.int .i64 (i : Int))
end
section
variable {adj : List (List Nat)} {T : Int → Int → Int} {n : Nat}
theorem ce_loop2 {lc : List HV} {m : Int} {le : Int} {ts : List Int} (hts : ts.length = n) (hn : n ≤ 30) : ∀ d i (o : List Int) H, i + d = n → o.length ≤ i → H[3]? = some (bI ts) → H[4]? = some (bI o) →
    ∃ H', RunsTo Try.prog polS 17 (sub [1, 1, 1, 1, 1, 1, 0, 1, 0] B17) (cmE m lc le n i o.length) H (.exit 2) (polS.keys 17) (cmE m lc le n n (o ++ sel le i (ts.drop i)).length) H' ∧ H'[4]? = some (bI (o ++ sel le i (ts.drop i))) := by
  intro d
  induction d with
  | zero =>
    intro i o H hi ho h3 h4
    have hi : i = n := by omega
    subst hi
    rw [List.drop_of_length_le (by omega), sel, List.append_nil]
    exact ⟨H, RunsTo.loop_out (ce_m_2 0 m lc 0 H i i o.length le (by omega)) (by simp) (by kernel_rfl) (by kernel_rfl), h4⟩
  | succ d ih =>
    intro i o H hi ho h3 h4
    have hit : i < ts.length := by omega
    rw [List.drop_eq_getElem_cons hit, sel, ← getD_at hit]
    by_cases c : ts.getD i 0 = le
    · rw [if_pos c]
      have ha := appV_ints (xs := [(i : Int)]) h4 (by simp; omega) (by simp)
      have s := ce_m_0 0 m lc 0 H n i o.length le _ _ (by omega) (gi2 (by omega)) (gl2 h3 hts (by omega)) c ha
      rw [wrap_succ (by omega)] at s
      obtain ⟨H', r, h5⟩ := ih (i + 1) (o ++ [(i : Int)]) (H.set 4 (bI (o ++ [(i : Int)]))) (by omega) (by simp; omega) (by rw [List.getElem?_set_ne (by omega)]; exact h3) (List.getElem?_set_self (lt_of_get h4))
      rw [List.append_assoc, List.singleton_append] at r h5
      rw [List.length_append, List.length_singleton] at r
      exact ⟨H', RunsTo.loop s (by kernel_rfl) (gc_eq _ (by simp)) r rfl (by kernel_rfl) (by kernel_rfl), h5⟩
    · rw [if_neg c]
      have s := ce_m_1 0 m lc 0 H n i o.length le _ (by omega) (gi2 (by omega)) (gl2 h3 hts (by omega)) c
      rw [wrap_succ (by omega)] at s
      obtain ⟨H', r, h5⟩ := ih (i + 1) o H (by omega) (by omega) h3 h4
      exact ⟨H', RunsTo.loop s (by kernel_rfl) (gc_eq _ rfl) r rfl (by kernel_rfl) (by kernel_rfl), h5⟩
end
/-- What 'Centers' answers. -/
def centersF (n : Int) (l : List (Int × Int)) : HV := if treeOk n l = true then .tuple [.own 1 ((sel (minL (timesL n.toNat l)) 0 (timesL n.toNat l)).map encI), .int .i64 (minL (timesL n.toNat l)), .int .i64 0] else .tuple [.own 1 [], .int .i64 0, .int .i64 2]
def centers17 : List HV → Option HV
  | [.int .i64 n, .imm .arg 2 lc] => match mapO decP lc with | some l => some (centersF n l) | none => none
  | _ => none
theorem centers17_ok : PrimOk Try.prog 17 centers17 := by
  refine primOk_pure (pol := polS) (fn := Try.f17) (cd := B17) follows_mixed soundS (by kernel_rfl) (by kernel_rfl) (fnok polS.prim _ _ (by kernel_rfl)) (by kernel_rfl) ?_
  intro args res h
  unfold centers17 at h
  split at h
  · rename_i n lc
    split at h
    · rename_i l hl
      cases h
      rw [mapO_inv decP_inv hl]
      have a := ce_a_0 0 n (l.map encP)
      by_cases hg : ((1 ≤ n ∧ n ≤ 30) ∧ (l.length : Int) = n - 1) ∧ l.all (validB n) = true
      · obtain ⟨m, rfl⟩ : ∃ m : Nat, n = (m : Int) := ⟨n.toNat, by omega⟩
        cases hb : farOk (adjOf m l) with
        | true =>
          have hok : treeOk (m : Int) l = true := by rw [treeOk, Bool.and_eq_true, decide_eq_true_eq]; exact ⟨hg, by rw [Int.toNat_natCast]; exact hb⟩
          have hF : centersF (m : Int) l = .tuple [.own 1 ((sel (minL (timesL m l)) 0 (timesL m l)).map encI), .int .i64 (minL (timesL m l)), .int .i64 0] := by rw [centersF, if_pos hok, Int.toNat_natCast]
          rw [hF]
          have b := ce_b_0 0 (m : Int) (l.map encP) m _ (s46_ok hg true hb)
          have c := ce_c_0 0 (m : Int) (l.map encP) m ((adjOf m l).map rowO)
          have d := ce_d_0 0 (m : Int) (l.map encP) m ((adjOf m l).map rowO)
          have hC : CM (adjOf m l) (tm (rowE l)) m [] [] [.arr 1 ((adjOf m l).map rowO) true 0, .map [] [] 0, boxT m, bI [], bI []] := by
            have h1 := ((mem_start (adjOf m l) (tm (rowE l))).app (same_T m) (by show 2 ≤ _; simp)).app (same_bI []) (Nat.zero_le _)
            have h2 := h1.app (same_bI []) (Nat.zero_le _)
            exact ⟨h2, rfl, rfl, rfl, rfl⟩
          have e := ce_e_0 0 (m : Int) (l.map encP) m [.arr 1 ((adjOf m l).map rowO) true 0, .map [] [] 0, boxT m, bI [], bI []]
          obtain ⟨H1, r1, hC1⟩ := ce_loop1 (lc := l.map encP) (n := m) (by omega) (fun i hi => (tree_time hok (x := (i : Int)) (by omega)).1) m 0 _ (by omega) (by rw [List.take_zero]; exact hC)
          have r1' := RunsTo.loop_in (e0 := env17 (.int .i64 (m : Int)) (.imm .arg 2 (l.map encP)) (.imm .lit 1 []) (.int .i64 0) (.int .i64 0) (.ptr 2 0 0 1) (.bool true) (.sl 3 0 0 none 0 1) (.sl 4 0 0 none 0 1) .undef .undef .undef .undef (.int .i64 (m : Int)) (.int .i64 0) .undef .undef .undef) r1 (b := sub [1, 1, 1, 1, 0, 1, 0, 0] B17) (by kernel_rfl) (by kernel_rfl) (by kernel_rfl)
          have htl : (timesL m l).length = m := by simp [timesL]
          obtain ⟨N, hN⟩ := (min_call (l := timesL m l) hC1.ts htl (by omega) (by omega)).from
          have f := ce_f_0 N (m : Int) (l.map encP) m H1 m m _ H1 hN
          have g := ce_g_0 0 (m : Int) (l.map encP) m H1 m m (minL (timesL m l))
          obtain ⟨H2, r2, h4⟩ := ce_loop2 (lc := l.map encP) (m := (m : Int)) (le := minL (timesL m l)) htl (by omega) m 0 [] H1 (by omega) (by simp) hC1.ts hC1.o
          rw [List.drop_zero, List.nil_append] at r2 h4
          have r2' := RunsTo.loop_in (e0 := env17 (.int .i64 (m : Int)) (.imm .arg 2 (l.map encP)) (.imm .lit 1 []) (.int .i64 0) (.int .i64 0) (.ptr 2 0 0 1) .undef (.sl 3 0 m none m 1) (.sl 4 0 0 none 0 1) .undef (.int .i64 (minL (timesL m l))) .undef .undef (.int .i64 (m : Int)) (.int .i64 (m : Int)) (.sl 3 0 m none m 1) (.int .i64 (m : Int)) (.int .i64 0)) r2 (b := sub [1, 1, 1, 1, 1, 1, 0, 1, 0, 0] B17) (by kernel_rfl) (by kernel_rfl) (by kernel_rfl)
          have z := ce_z_0 0 (m : Int) (l.map encP) m H2 m m (sel (minL (timesL m l)) 0 (timesL m l)).length (minL (timesL m l))
          have t1 := RunsTo.seq g (RunsTo.block_exit (c := sub [1, 1, 1, 1, 1, 1, 0, 1] B17) r2' (by kernel_rfl)) (c := sub [1, 1, 1, 1, 1, 1, 0] B17) (by kernel_rfl) (by kernel_rfl)
          have t2 := RunsTo.seq f (RunsTo.seq t1 z (c := sub [1, 1, 1, 1, 1, 1] B17) (by kernel_rfl) (by kernel_rfl)) (c := sub [1, 1, 1, 1, 1] B17) (by kernel_rfl) (by kernel_rfl)
          have t3 := RunsTo.seq e (RunsTo.block_exit (c := sub [1, 1, 1, 1, 0, 1] B17) r1' (by kernel_rfl)) (c := sub [1, 1, 1, 1, 0] B17) (by kernel_rfl) (by kernel_rfl)
          have t4 := RunsTo.seq d (RunsTo.seq t3 t2 (c := sub [1, 1, 1, 1] B17) (by kernel_rfl) (by kernel_rfl)) (c := sub [1, 1, 1] B17) (by kernel_rfl) (by kernel_rfl)
          have t5 := RunsTo.seq b (RunsTo.seq c t4 (c := sub [1, 1] B17) (by kernel_rfl) (by kernel_rfl)) (c := sub [1] B17) (by kernel_rfl) (by kernel_rfl)
          exact ⟨_, _, _, _, RunsTo.seq a t5 (c := B17) (by kernel_rfl) (by kernel_rfl), by simp, by simp only [resultsV, res17, mapO, resultV]; rfl, res_out h4 rfl [minL (timesL m l), 0]⟩
        | false =>
          have hok : ¬ treeOk (m : Int) l = true := by rw [treeOk, Bool.and_eq_true, Int.toNat_natCast, hb]; simp
          rw [centersF, if_neg hok]
          have b := ce_b_1 0 (m : Int) (l.map encP) m _ (s46_ok hg false hb)
          have c := ce_cf_0 0 (m : Int) (l.map encP) m ((adjOf m l).map rowO)
          have t1 := RunsTo.seq b (RunsTo.seq_out c (by simp) (c := sub [1, 1] B17) (b := sub [1, 1, 1] B17) (by kernel_rfl)) (c := sub [1] B17) (by kernel_rfl) (by kernel_rfl)
          exact ⟨_, _, _, _, RunsTo.seq a t1 (c := B17) (by kernel_rfl) (by kernel_rfl), by simp, by simp only [resultsV, res17, mapO, resultV]; rfl, rfl⟩
      · have hok : ¬ treeOk n l = true := by rw [treeOk, Bool.and_eq_true, decide_eq_true_eq]; exact fun h => hg h.1
        rw [centersF, if_neg hok]
        have b := ce_b_2 0 n (l.map encP) (s46_bad hg)
        have c := ce_cb_0 0 n (l.map encP)
        have t1 := RunsTo.seq b (RunsTo.seq_out c (by simp) (c := sub [1, 1] B17) (b := sub [1, 1, 1] B17) (by kernel_rfl)) (c := sub [1] B17) (by kernel_rfl) (by kernel_rfl)
        exact ⟨_, _, _, _, RunsTo.seq a t1 (c := B17) (by kernel_rfl) (by kernel_rfl), by simp, by simp only [resultsV, res17, mapO, resultV]; rfl, rfl⟩
    · cases h
  · cases h
end Go.Proofs.Ytmhfkhlamnapdaa
end
section
open Go Go.HL
namespace Go.Proofs.Ytmhfkhlamnapdaa
def ds (row : Int → List Int) : Nat → Int → Int → List Int
  | 0, v, _ => [v]
  | k + 1, v, w => v :: (keep w (row v)).flatMap fun u => ds row k u v
inductive Anc (l : List (Int × Int)) (ρ : Int → Nat) (z : Int) : Int → Prop
  | refl : Anc l ρ z z
  | step {u v : Int} : Anc l ρ z u → v ∈ rowE l u → ρ v < ρ u → Anc l ρ z v
def Dn (l : List (Int × Int)) (ρ : Int → Nat) (v w : Int) : Prop := ∀ u, u ∈ keep w (rowE l v) → ρ v < ρ u
section
variable {l : List (Int × Int)} {ρ : Int → Nat} {M : Nat}
theorem Anc.le {z v : Int} (h : Anc l ρ z v) : ρ v ≤ ρ z := by
  induction h with
  | refl => exact Nat.le_refl _
  | step _ _ h2 ih => omega
end
section
variable {l : List (Int × Int)} {ρ : Int → Nat} {M : Nat}
theorem Anc.first {z b : Int} (h : Anc l ρ z b) : z = b ∨ ∃ p, p ∈ rowE l z ∧ ρ p < ρ z ∧ Anc l ρ p b := by
  induction h with
  | refl => exact .inl rfl
  | step h1 h2 h3 ih =>
    rcases ih with rfl | ⟨p, h4, h5, h6⟩
    · exact .inr ⟨_, h2, h3, .refl⟩
    · exact .inr ⟨p, h4, h5, .step h6 h2 h3⟩
end
section
variable {l : List (Int × Int)} {ρ : Int → Nat} {M : Nat}
theorem Anc.chain (hO : Ori l ρ M) {z a b : Int} (h : Anc l ρ z a) (h' : Anc l ρ z b) : Anc l ρ a b ∨ Anc l ρ b a := by
  induction h with
  | refl => exact .inl h'
  | step h1 h2 h3 ih =>
    rcases ih with h4 | h4
    · rcases h4.first with rfl | ⟨p, h5, h6, h7⟩
      · exact .inr (.step .refl h2 h3)
      · rw [hO.low h5 h2 h6 h3] at h7
        exact .inl h7
    · exact .inr (.step h4 h2 h3)
end
section
variable {l : List (Int × Int)} {ρ : Int → Nat} {M : Nat}
theorem Anc.child (hO : Ori l ρ M) {z v a b : Int} (ha : Anc l ρ z a) (hb : Anc l ρ z b) (h1 : v ∈ rowE l a) (h2 : ρ v < ρ a) (h3 : v ∈ rowE l b) (h4 : ρ v < ρ b) : a = b := by
  have key : ∀ a b : Int, Anc l ρ a b → v ∈ rowE l a → ρ v < ρ a → ρ v < ρ b → a = b := by
    intro a b h h1 h2 h4
    rcases h.first with e | ⟨p, h5, h6, h7⟩
    · exact e
    · rw [hO.low h5 h1 h6 h2] at h7
      have := h7.le
      omega
  rcases ha.chain hO hb with h | h
  · exact key a b h h1 h2 h4
  · exact (key b a h h3 h4 h2).symm
end
section
variable {l : List (Int × Int)} {ρ : Int → Nat} {M : Nat}
theorem Dn.next (hO : Ori l ρ M) {v w u : Int} (h : Dn l ρ v w) (hu : u ∈ keep w (rowE l v)) : Dn l ρ u v := by
  intro z hz
  obtain ⟨h1, h2⟩ := keep_mem.1 hz
  have h3 := h u hu
  have hne := hO.neq h1
  rcases Nat.lt_or_ge (ρ u) (ρ z) with h4 | h4
  · exact h4
  · exact absurd (hO.low h1 (rowE_sym (keep_mem.1 hu).1) (by omega) h3) h2
end
section
variable {l : List (Int × Int)} {ρ : Int → Nat} {M : Nat}
theorem ds_anc (hO : Ori l ρ M) : ∀ (k : Nat) (v w z : Int), Dn l ρ v w → z ∈ ds (rowE l) k v w → Anc l ρ z v
  | 0, v, w, z, _, hz => by
    rw [ds, List.mem_singleton] at hz
    rw [hz]; exact .refl
  | k + 1, v, w, z, h, hz => by
    rw [ds] at hz
    rcases List.mem_cons.1 hz with rfl | hz
    · exact .refl
    · obtain ⟨u, hu, hz⟩ := List.mem_flatMap.1 hz
      exact .step (ds_anc hO k u v z (h.next hO hu) hz) (rowE_sym (keep_mem.1 hu).1) (h u hu)
end
section
variable {l : List (Int × Int)} {ρ : Int → Nat} {M : Nat}
theorem ds_nodup (hO : Ori l ρ M) : ∀ (k : Nat) (v w : Int), Dn l ρ v w → (ds (rowE l) k v w).Nodup
  | 0, v, w, _ => by simp [ds]
  | k + 1, v, w, h => by
    rw [ds, List.nodup_cons]
    refine ⟨fun hm => ?_, ?_⟩
    · obtain ⟨u, hu, hz⟩ := List.mem_flatMap.1 hm
      have h1 := (ds_anc hO k u v v (h.next hO hu) hz).le
      have h2 := h u hu
      omega
    · have hnd : (keep w (rowE l v)).Nodup := List.Pairwise.filter _ (hO.nodup v)
      have hsub : ∀ u, u ∈ keep w (rowE l v) → u ∈ keep w (rowE l v) := fun u hu => hu
      generalize hK : keep w (rowE l v) = K at hnd
      have hK2 : ∀ u, u ∈ K → u ∈ keep w (rowE l v) := fun u hu => by rw [hK]; exact hu
      clear hK hsub
      induction K with
      | nil => simp
      | cons a K ih =>
        rw [List.flatMap_cons]
        rw [List.nodup_cons] at hnd
        have ha := hK2 a (by simp)
        refine List.nodup_append.2 ⟨ds_nodup hO k a v (h.next hO ha), ih hnd.2 (fun u hu => hK2 u (by simp [hu])), fun x hx y hy e => ?_⟩
        subst e
        obtain ⟨b, hb, hy⟩ := List.mem_flatMap.1 hy
        have hb' := hK2 b (by simp [hb])
        have : a = b := Anc.child hO (ds_anc hO k a v x (h.next hO ha) hx) (ds_anc hO k b v x (h.next hO hb') hy) (rowE_sym (keep_mem.1 ha).1) (h a ha) (rowE_sym (keep_mem.1 hb').1) (h b hb')
        exact hnd.1 (this ▸ hb)
end
section
variable {l : List (Int × Int)} {ρ : Int → Nat} {M : Nat}
theorem ds_range {n : Nat} (hv : ∀ p ∈ l, validB (n : Int) p = true) : ∀ (k : Nat) (v w z : Int), (0 ≤ v ∧ v < (n : Int)) → z ∈ ds (rowE l) k v w → 0 ≤ z ∧ z < (n : Int)
  | 0, v, w, z, h, hz => by
    rw [ds, List.mem_singleton] at hz
    rw [hz]; exact h
  | k + 1, v, w, z, h, hz => by
    rw [ds] at hz
    rcases List.mem_cons.1 hz with rfl | hz
    · exact h
    · obtain ⟨u, hu, hz⟩ := List.mem_flatMap.1 hz
      exact ds_range hv k u v z (valid_row hv (keep_mem.1 hu).1) hz
end
theorem ints_len {n : Nat} {L : List Int} (hd : L.Nodup) (hr : ∀ z, z ∈ L → 0 ≤ z ∧ z < (n : Int)) : L.length ≤ n := by
  have := nodup_lt_len (n := n) (l := L.map Int.toNat) ?_ ?_
  · simpa using this
  · unfold List.Nodup
    rw [List.pairwise_map]
    refine List.Pairwise.imp_of_mem (fun {a b} ha hb hab => ?_) hd
    have := hr a ha; have := hr b hb
    omega
  · intro y hy
    obtain ⟨z, hz, rfl⟩ := List.mem_map.1 hy
    have := hr z hz
    omega
def sm : List Int → Int
  | [] => 0
  | t :: l => 1 + t + sm l
theorem sm_ins (t : Int) : ∀ l : List Int, sm (dsIns t l) = 1 + t + sm l
  | [] => rfl
  | a :: l => by
    rw [dsIns]
    split
    · rw [sm, sm_ins t l, sm]; omega
    · rfl
theorem sm_acc : ∀ (l acc : List Int), sm (dsAcc acc l) = sm acc + sm l
  | [], acc => by simp [dsAcc, sm]
  | t :: l, acc => by rw [dsAcc, sm_acc l, sm_ins, sm]; omega
theorem sm_nonneg : ∀ (l : List Int), (∀ t, t ∈ l → 0 ≤ t) → 0 ≤ sm l
  | [], _ => Int.le_refl _
  | t :: l, h => by
    have := h t (by simp)
    have := sm_nonneg l (fun t ht => h t (by simp [ht]))
    rw [sm]; omega
theorem bestGo_sm : ∀ (l : List Int) (i : Nat) (mo : Int), (∀ t, t ∈ l → 0 ≤ t) → bestGo i mo l ≤ max mo ((i : Int) + sm l)
  | [], i, mo, _ => by rw [bestGo, sm]; omega
  | t :: l, i, mo, h => by
    have ht := h t (by simp)
    have h1 := sm_nonneg l (fun t ht => h t (by simp [ht]))
    have := bestGo_sm l (i + 1) (max mo ((i : Int) + 1 + t)) (fun t ht => h t (by simp [ht]))
    rw [bestGo, sm]
    omega
theorem tmF_nonneg (row : Int → List Int) : ∀ (k : Nat) (v w : Int), 0 ≤ tmF row k v w
  | 0, _, _ => Int.le_refl _
  | k + 1, v, w => by
    rw [tmF]
    have : ∀ (l : List Int) (i : Nat) (mo : Int), mo ≤ bestGo i mo l := by
      intro l
      induction l with
      | nil => intro i mo; exact Int.le_refl _
      | cons t l ih => intro i mo; rw [bestGo]; have := ih (i + 1) (max mo ((i : Int) + 1 + t)); omega
    exact this _ 0 0
theorem tmF_ds (row : Int → List Int) : ∀ (k : Nat) (v w : Int), tmF row k v w + 1 ≤ ((ds row k v w).length : Int)
  | 0, v, w => by simp [tmF, ds]
  | k + 1, v, w => by
    rw [tmF, ds]
    have h1 := bestGo_sm (dsort ((keep w (row v)).map fun u => tmF row k u v)) 0 0 (fun t ht => by
      rw [(dsort_perm _).mem_iff, List.mem_map] at ht
      obtain ⟨u, _, rfl⟩ := ht
      exact tmF_nonneg row k u v)
    have h2 : sm (dsort ((keep w (row v)).map fun u => tmF row k u v)) = sm ((keep w (row v)).map fun u => tmF row k u v) := by
      rw [dsort, sm_acc]; simp [sm]
    have h3 : ∀ K : List Int, sm (K.map fun u => tmF row k u v) ≤ ((K.flatMap fun u => ds row k u v).length : Int) := by
      intro K
      induction K with
      | nil => simp [sm]
      | cons a K ih =>
        have := tmF_ds row k a v
        rw [List.map_cons, sm, List.flatMap_cons, List.length_append]
        omega
    have h4 := h3 (keep w (row v))
    rw [List.length_cons]
    omega
theorem tree_small {n : Nat} {l : List (Int × Int)} (h : treeOk (n : Int) l = true) {x : Nat} (hx : x < n) : tm (rowE l) x (-1) + 1 ≤ n := by
  obtain ⟨⟨hn, hl⟩, hv, hr⟩ := tree_rtd h
  have hR := hr x hx
  obtain ⟨hO, _⟩ := hR.ori hx hv hl
  have hD : Dn l (fun v => ((bfs (fun y => (adjOf n l).getD y []) n x).getD v.toNat 0).toNat) (x : Int) (-1) := by
    intro u hu
    have hne := hO.neq (keep_mem.1 hu).1
    have h0 := hR.root
    dsimp only at hne h0 ⊢
    omega
  have h1 := tmF_ds (rowE l) 200 x (-1)
  have h2 := ints_len (ds_nodup hO 200 x (-1) hD) (fun z hz => ds_range hv 200 x (-1) z ⟨by omega, by omega⟩ hz)
  unfold tm
  omega
end Go.Proofs.Ytmhfkhlamnapdaa
end
section
open Go Go.HL
namespace Go.Proofs.Ytmhfkhlamnapdaa
/-- The policy of the law on centers. -/
def primH (g : FuncId) : Option (List HV → Option HV) :=
  if g == 19 then some awakeF else if g == 16 then some few16 else if g == 17 then some centers17 else if g == 18 then some tree18 else if g == 20 then some centers20 else if g == 21 then some ints21 else none
def polH : Pol := { pol with prim := primH }
theorem primH_ok (g : FuncId) (f : List HV → Option HV) (h : primH g = some f) : PrimOk Try.prog g f := by
  unfold primH at h
  split at h
  · rename_i hg; cases h; rw [eq_of_beq hg]; exact awake_prim
  split at h
  · rename_i hg; cases h; rw [eq_of_beq hg]; exact few_ok
  split at h
  · rename_i hg; cases h; rw [eq_of_beq hg]; exact centers17_ok
  split at h
  · rename_i hg; cases h; rw [eq_of_beq hg]; exact tree_ok
  split at h
  · rename_i hg; cases h; rw [eq_of_beq hg]; exact centers20_ok
  split at h
  · rename_i hg; cases h; rw [eq_of_beq hg]; exact ints_ok
  · cases h
theorem soundH (n : Nat) : CallSound Try.prog (callN Try.prog polH n) := sound_prim primH primH_ok n
end Go.Proofs.Ytmhfkhlamnapdaa
end
section
open Go Go.HL
namespace Go.Proofs.Ytmhfkhlamnapdaa
set_option maxRecDepth 100000
noncomputable def B3 : Code := Try.f3.body.getD .skip
abbrev env3 (v0 v1 v4 v5 v6 v7 v8 v9 v10 : HV) : Env := [(0, v0), (1, v1), (4, v4), (5, v5), (6, v6), (7, v7), (8, v8), (9, v9), (10, v10)]
theorem lz_a_0 (n : Int) (lc : List HV)   : RunsTo Try.prog polH 3 (sub [0] B3) [(0, .int .i64 n), (1, .imm .arg 2 lc)] [] (.normal) (polH.keys 3) (env3 (.int .i64 n) (.imm .arg 2 lc) (.bool false) .undef .undef .undef .undef .undef .undef) [] :=
  RunsTo.hint 1 60 [] fun kf hk => by
    obtain ⟨kf, rfl⟩ : ∃ n, kf = n + 1 := ⟨kf - 1, by omega⟩
    exact ⟨[], by kernel_rfl, Obls.nil⟩
theorem lz_b_0 (n : Int) (lc : List HV) (m : Nat) (els : List HV) (g0 : ∀ kf, callN Try.prog polH (kf + 1) 16 [.imm .arg 2 lc] [] = some (.sl 0 0 m none m 2, [.arr 2 els true 0])) : RunsTo Try.prog polH 3 (sub [1, 0] B3) (env3 (.int .i64 n) (.imm .arg 2 lc) (.bool false) .undef .undef .undef .undef .undef .undef) [] (.normal) (polH.keys 3) (env3 (.int .i64 n) (.imm .arg 2 lc) (.bool false) (.sl 0 0 m none m 2) .undef .undef .undef .undef .undef) [.arr 2 els true 0] :=
  RunsTo.hint 1 60 [⟨1, 1, .sl 0 0 m none m 2, [.arr 2 els true 0]⟩] fun kf hk => by
    obtain ⟨kf, rfl⟩ : ∃ n, kf = n + 1 := ⟨kf - 1, by omega⟩
    exact ⟨[callN Try.prog polH (kf + 1) 16 [.imm .arg 2 lc] [] = some (.sl 0 0 m none m 2, [.arr 2 els true 0])], by kernel_rfl, Obls.cons (g0 kf) Obls.nil⟩
theorem lz_c_0 (n : Int) (lc : List HV) (m : Nat) (els : List HV) (p : Nat) (c : Int) (e : Int) (os : List HV) (g0 : ∀ kf, callN Try.prog polH (kf + 1) 17 [.int .i64 n, .sl 0 0 m none m 2] [.arr 2 els true 0] = some (.tuple [.sl 1 0 p none p 1, .int .i64 c, .int .i64 e], [.arr 2 els true 0, .arr 1 os true 0])) : RunsTo Try.prog polH 3 (sub [1, 1, 0] B3) (env3 (.int .i64 n) (.imm .arg 2 lc) (.bool false) (.sl 0 0 m none m 2) .undef .undef .undef .undef .undef) [.arr 2 els true 0] (.normal) (polH.keys 3) (env3 (.int .i64 n) (.imm .arg 2 lc) (.bool false) (.sl 0 0 m none m 2) (.sl 1 0 p none p 1) (.int .i64 c) (.int .i64 e) .undef .undef) [.arr 2 els true 0, .arr 1 os true 0] :=
  RunsTo.hint 1 60 [⟨2, 2, .tuple [.sl 1 0 p none p 1, .int .i64 c, .int .i64 e], [.arr 2 els true 0, .arr 1 os true 0]⟩] fun kf hk => by
    obtain ⟨kf, rfl⟩ : ∃ n, kf = n + 1 := ⟨kf - 1, by omega⟩
    exact ⟨[callN Try.prog polH (kf + 1) 17 [.int .i64 n, .sl 0 0 m none m 2] [.arr 2 els true 0] = some (.tuple [.sl 1 0 p none p 1, .int .i64 c, .int .i64 e], [.arr 2 els true 0, .arr 1 os true 0])], by kernel_rfl, Obls.cons (g0 kf) Obls.nil⟩
theorem lz_d_0 (n : Int) (lc : List HV) (m : Nat) (els : List HV) (p : Nat) (c e : Int) (os : List HV)  (g0 : ∀ kf, callN Try.prog polH (kf + 1) 18 [.int .i64 n, .sl 0 0 m none m 2] [.arr 2 els true 0, .arr 1 os true 0] = some (.bool true, [.arr 2 els true 0, .arr 1 os true 0])) : RunsTo Try.prog polH 3 (sub [1, 1, 1, 0] B3) (env3 (.int .i64 n) (.imm .arg 2 lc) (.bool false) (.sl 0 0 m none m 2) (.sl 1 0 p none p 1) (.int .i64 c) (.int .i64 e) .undef .undef) [.arr 2 els true 0, .arr 1 os true 0] (.normal) (polH.keys 3) (env3 (.int .i64 n) (.imm .arg 2 lc) (.bool false) (.sl 0 0 m none m 2) (.sl 1 0 p none p 1) (.int .i64 c) (.int .i64 e) .undef .undef) [.arr 2 els true 0, .arr 1 os true 0] :=
  RunsTo.hint 1 60 [⟨3, 2, .bool true, [.arr 2 els true 0, .arr 1 os true 0]⟩] fun kf hk => by
    obtain ⟨kf, rfl⟩ : ∃ n, kf = n + 1 := ⟨kf - 1, by omega⟩
    exact ⟨[callN Try.prog polH (kf + 1) 18 [.int .i64 n, .sl 0 0 m none m 2] [.arr 2 els true 0, .arr 1 os true 0] = some (.bool true, [.arr 2 els true 0, .arr 1 os true 0])], by kernel_rfl, Obls.cons (g0 kf) Obls.nil⟩
theorem lz_x_1 (n : Int) (lc : List HV) (m : Nat) (els : List HV) (p : Nat) (c e : Int) (os : List HV)  (g0 : ∀ kf, callN Try.prog polH (kf + 1) 18 [.int .i64 n, .sl 0 0 m none m 2] [.arr 2 els true 0, .arr 1 os true 0] = some (.bool false, [.arr 2 els true 0, .arr 1 os true 0])) (g1 : (p : Int) = 0) (g2 : c = 0) (g3 : e = 2) : RunsTo Try.prog polH 3 (sub [1, 1, 1, 0] B3) (env3 (.int .i64 n) (.imm .arg 2 lc) (.bool false) (.sl 0 0 m none m 2) (.sl 1 0 p none p 1) (.int .i64 c) (.int .i64 e) .undef .undef) [.arr 2 els true 0, .arr 1 os true 0] (.ret) (polH.keys 3) (env3 (.int .i64 n) (.imm .arg 2 lc) (.bool true) (.sl 0 0 m none m 2) (.sl 1 0 p none p 1) (.int .i64 c) (.int .i64 e) .undef .undef) [.arr 2 els true 0, .arr 1 os true 0] :=
  RunsTo.hint 1 60 [⟨3, 2, .bool false, [.arr 2 els true 0, .arr 1 os true 0]⟩, ⟨4, 2, .bool true, [.arr 2 els true 0, .arr 1 os true 0]⟩, ⟨4, 5, .bool true, [.arr 2 els true 0, .arr 1 os true 0]⟩, ⟨4, 9, .bool true, [.arr 2 els true 0, .arr 1 os true 0]⟩] fun kf hk => by
    obtain ⟨kf, rfl⟩ : ∃ n, kf = n + 1 := ⟨kf - 1, by omega⟩
    exact ⟨[callN Try.prog polH (kf + 1) 18 [.int .i64 n, .sl 0 0 m none m 2] [.arr 2 els true 0, .arr 1 os true 0] = some (.bool false, [.arr 2 els true 0, .arr 1 os true 0]), some (HV.bool (decide ((p : Int) = 0)), ([.arr 2 els true 0, .arr 1 os true 0] : Heap)) = some (.bool true, [.arr 2 els true 0, .arr 1 os true 0]), some (HV.bool (decide (c = 0)), ([.arr 2 els true 0, .arr 1 os true 0] : Heap)) = some (.bool true, [.arr 2 els true 0, .arr 1 os true 0]), some (HV.bool (decide (e = 2)), ([.arr 2 els true 0, .arr 1 os true 0] : Heap)) = some (.bool true, [.arr 2 els true 0, .arr 1 os true 0])], by kernel_rfl, Obls.cons (g0 kf) (Obls.cons (hintB (decide_eq_true g1)) (Obls.cons (hintB (decide_eq_true g2)) (Obls.cons (hintB (decide_eq_true g3)) Obls.nil)))⟩
theorem lz_z_0 (n : Int) (lc : List HV) (m : Nat) (els : List HV) (p : Nat) (c e : Int) (os : List HV) (q : Nat) (d : Int) (us : List HV) (g0 : ∀ kf, callN Try.prog polH (kf + 1) 20 [.int .i64 n, .sl 0 0 m none m 2] [.arr 2 els true 0, .arr 1 os true 0] = some (.tuple [.sl 2 0 q none q 1, .int .i64 d], [.arr 2 els true 0, .arr 1 os true 0, .arr 1 us true 0])) (g1 : ∀ kf, callN Try.prog polH (kf + 1) 21 [.sl 1 0 p none p 1, .sl 2 0 q none q 1] [.arr 2 els true 0, .arr 1 os true 0, .arr 1 us true 0] = some (.bool true, [.arr 2 els true 0, .arr 1 os true 0, .arr 1 us true 0])) (g2 : c = d) (g3 : e = 0) : RunsTo Try.prog polH 3 (sub [1, 1, 1, 1] B3) (env3 (.int .i64 n) (.imm .arg 2 lc) (.bool false) (.sl 0 0 m none m 2) (.sl 1 0 p none p 1) (.int .i64 c) (.int .i64 e) .undef .undef) [.arr 2 els true 0, .arr 1 os true 0] (.ret) (polH.keys 3) (env3 (.int .i64 n) (.imm .arg 2 lc) (.bool true) (.sl 0 0 m none m 2) (.sl 1 0 p none p 1) (.int .i64 c) (.int .i64 e) (.sl 2 0 q none q 1) (.int .i64 d)) [.arr 2 els true 0, .arr 1 os true 0, .arr 1 us true 0] :=
  RunsTo.hint 1 60 [⟨5, 2, .tuple [.sl 2 0 q none q 1, .int .i64 d], [.arr 2 els true 0, .arr 1 os true 0, .arr 1 us true 0]⟩, ⟨6, 2, .bool true, [.arr 2 els true 0, .arr 1 os true 0, .arr 1 us true 0]⟩, ⟨6, 6, .bool true, [.arr 2 els true 0, .arr 1 os true 0, .arr 1 us true 0]⟩, ⟨6, 10, .bool true, [.arr 2 els true 0, .arr 1 os true 0, .arr 1 us true 0]⟩] fun kf hk => by
    obtain ⟨kf, rfl⟩ : ∃ n, kf = n + 1 := ⟨kf - 1, by omega⟩
    exact ⟨[callN Try.prog polH (kf + 1) 20 [.int .i64 n, .sl 0 0 m none m 2] [.arr 2 els true 0, .arr 1 os true 0] = some (.tuple [.sl 2 0 q none q 1, .int .i64 d], [.arr 2 els true 0, .arr 1 os true 0, .arr 1 us true 0]), callN Try.prog polH (kf + 1) 21 [.sl 1 0 p none p 1, .sl 2 0 q none q 1] [.arr 2 els true 0, .arr 1 os true 0, .arr 1 us true 0] = some (.bool true, [.arr 2 els true 0, .arr 1 os true 0, .arr 1 us true 0]), some (HV.bool (decide (c = d)), ([.arr 2 els true 0, .arr 1 os true 0, .arr 1 us true 0] : Heap)) = some (.bool true, [.arr 2 els true 0, .arr 1 os true 0, .arr 1 us true 0]), some (HV.bool (decide (e = 0)), ([.arr 2 els true 0, .arr 1 os true 0, .arr 1 us true 0] : Heap)) = some (.bool true, [.arr 2 els true 0, .arr 1 os true 0, .arr 1 us true 0])], by kernel_rfl, Obls.cons (g0 kf) (Obls.cons (g1 kf) (Obls.cons (hintB (decide_eq_true g2)) (Obls.cons (hintB (decide_eq_true g3)) Obls.nil)))⟩
end Go.Proofs.Ytmhfkhlamnapdaa
end
section
open Go Go.HL
namespace Go.Proofs.Ytmhfkhlamnapdaa
theorem res3 : Try.f3.results.toList = [.tmp 4] := by kernel_rfl
theorem arg_pl3 {H : Heap} {l : List (Int × Int)} {b m mx : Nat} (hm : l.length = m) (hb : H[b]? = some (.arr 2 (l.map encP) true mx)) : toArg H 6 (.sl b 0 m none m 2) = some (.imm .arg 2 (l.map encP)) := by
  subst hm
  have e : toArg H 6 (.sl b 0 l.length none l.length 2) = if l.length = 0 then some (.imm .arg 2 []) else match view H b 0 l.length l.length 2 with | some l => (match mapO (toArg H 5) l with | some l => some (.imm .arg 2 l) | none => none) | none => none := rfl
  rw [e]
  split
  · rename_i h0
    rw [List.length_eq_zero_iff.1 h0]; rfl
  · have hv : view H b 0 l.length l.length 2 = some (l.map encP) := by
      simp only [view, hb, List.length_map]
      rw [if_pos ⟨trivial, by omega, trivial⟩]
      simp [List.take_of_length_le]
    have hm : mapO (toArg H 5) (l.map encP) = some (l.map encP) := mapO_self (f := toArg H 5) (g := encP) (fun _ => rfl) l
    rw [hv]
    simp only [hm]
theorem arg_il {H : Heap} {l : List Int} {b m : Nat} (hm : l.length = m) (hb : H[b]? = some (bI l)) : toArg H 6 (.sl b 0 m none m 1) = some (.imm .arg 1 (l.map encI)) := by
  subst hm
  have e : toArg H 6 (.sl b 0 l.length none l.length 1) = if l.length = 0 then some (.imm .arg 1 []) else match view H b 0 l.length l.length 1 with | some l => (match mapO (toArg H 5) l with | some l => some (.imm .arg 1 l) | none => none) | none => none := rfl
  rw [e]
  split
  · rename_i h0
    rw [List.length_eq_zero_iff.1 h0]; rfl
  · have hv : view H b 0 l.length l.length 1 = some (l.map encI) := by
      simp only [view, hb, List.length_map]
      rw [if_pos ⟨trivial, by omega, trivial⟩]
      simp [List.take_of_length_le]
    have hm : mapO (toArg H 5) (l.map encI) = some (l.map encI) := mapO_self (f := toArg H 5) (g := encI) (fun _ => rfl) l
    rw [hv]
    simp only [hm]
theorem encP_any3 (l : List (Int × Int)) : (l.map encP).any isOwn = false := by
  rw [List.any_eq_false]
  intro v hv
  obtain ⟨k, _, rfl⟩ := List.mem_map.1 hv
  simp [encP, isOwn]
theorem encI_any3 (l : List Int) : (l.map encI).any isOwn = false := by
  rw [List.any_eq_false]
  intro v hv
  obtain ⟨k, _, rfl⟩ := List.mem_map.1 hv
  simp [encI, isOwn]
theorem h16 (l : List (Int × Int)) : ∀ k, callN Try.prog polH (k + 1) 16 [.imm .arg 2 (l.map encP)] [] = some (.sl 0 0 (l.take 201).length none (l.take 201).length 2, [.arr 2 ((l.take 201).map encP) true 0]) := fun k => by
  rw [prim_call (pol := polH) (g := 16) (F := few16) (by kernel_rfl) (rs := [.imm .arg 2 (l.map encP)]) (by simp only [mapO, arg_pairs']) (res := .own 2 ((l.take 201).map encP)) (by simp only [few16, mapO_map decP_enc])]
  simp only [recv, recvVal, recvCell, encP_any3, List.length_map]
  rfl
/-- Both lists of centers are the same. -/
theorem centers_same {n : Nat} {l : List (Int × Int)} (h : treeOk (n : Int) l = true) : cenGo 0 (n : Int) [] (timesL n l) = (minL (timesL n l), sel (minL (timesL n l)) 0 (timesL n l)) := by
  obtain ⟨⟨hn, _⟩, _, _⟩ := tree_rtd h
  have hs := tree_small h (x := 0) (by omega)
  obtain ⟨m, rfl⟩ : ∃ m, n = m + 1 := ⟨n - 1, by omega⟩
  have e : timesL (m + 1) l = tm (rowE l) ((0 : Nat) : Int) (-1) :: ((List.range m).map Nat.succ).map fun i : Nat => tm (rowE l) i (-1) := by
    rw [timesL, List.range_succ_eq_map, List.map_cons]
  rw [cenGo_eq, e]
  simp only [List.foldl_cons, minL]
  have hm : min ((m + 1 : Nat) : Int) (tm (rowE l) ((0 : Nat) : Int) (-1)) = tm (rowE l) ((0 : Nat) : Int) (-1) := by omega
  simp only [hm]
  split <;> simp
theorem relayCenters_law (n : Int) (l0 : List (Int × Int)) : ∃ E H, RunsTo Try.prog polH 3 B3 (args0 [.int .i64 n, .imm .arg 2 (l0.map encP)]) [] .ret (polH.keys 3) E H ∧ E.get 4 = .bool true := by
  have a1 := lz_a_0 n (l0.map encP)
  have b1 := lz_b_0 n (l0.map encP) _ _ (h16 l0)
  generalize l0.take 201 = l at b1
  have al := arg_pl3 (H := [.arr 2 (l.map encP) true 0]) (b := 0) (l := l) (m := l.length) rfl rfl
  have k17 : ∀ (o : List Int) (t e : Int), centersF n l = .tuple [.own 1 (o.map encI), .int .i64 t, .int .i64 e] → ∀ k, callN Try.prog polH (k + 1) 17 [.int .i64 n, .sl 0 0 l.length none l.length 2] [.arr 2 (l.map encP) true 0] = some (.tuple [.sl 1 0 o.length none o.length 1, .int .i64 t, .int .i64 e], [.arr 2 (l.map encP) true 0, bI o]) := fun o t e he k => by
    rw [prim_call (pol := polH) (g := 17) (F := centers17) (by kernel_rfl) (rs := [.int .i64 n, .imm .arg 2 (l.map encP)]) (by simp only [mapO, al]; rfl) (res := .tuple [.own 1 (o.map encI), .int .i64 t, .int .i64 e]) (by simp only [centers17, mapO_map decP_enc, he])]
    simp only [recv, recvVals, recvVal, recvCell, encI_any3, List.length_map]
    rfl
  have k18 : ∀ o : List Int, ∀ k, callN Try.prog polH (k + 1) 18 [.int .i64 n, .sl 0 0 l.length none l.length 2] [.arr 2 (l.map encP) true 0, bI o] = some (.bool (rTree n l), [.arr 2 (l.map encP) true 0, bI o]) := fun o k => by
    have al2 := arg_pl3 (H := [.arr 2 (l.map encP) true 0, bI o]) (b := 0) (l := l) (m := l.length) rfl rfl
    rw [prim_call (pol := polH) (g := 18) (F := tree18) (by kernel_rfl) (rs := [.int .i64 n, .imm .arg 2 (l.map encP)]) (by simp only [mapO, al2]; rfl) (res := .bool (rTree n l)) (by simp only [tree18, mapO_map decP_enc])]; rfl
  have up : ∀ (o : List Int) (t e : Int) (E : Env) (H : Heap), centersF n l = .tuple [.own 1 (o.map encI), .int .i64 t, .int .i64 e] → RunsTo Try.prog polH 3 (sub [1, 1, 1] B3) (env3 (.int .i64 n) (.imm .arg 2 (l0.map encP)) (.bool false) (.sl 0 0 l.length none l.length 2) (.sl 1 0 o.length none o.length 1) (.int .i64 t) (.int .i64 e) .undef .undef) [.arr 2 (l.map encP) true 0, bI o] .ret (polH.keys 3) E H →
      RunsTo Try.prog polH 3 B3 (args0 [.int .i64 n, .imm .arg 2 (l0.map encP)]) [] .ret (polH.keys 3) E H := fun o t e E H he tt => by
    have c1 := lz_c_0 n (l0.map encP) l.length (l.map encP) _ _ _ _ (k17 o t e he)
    have t1 := RunsTo.seq c1 tt (c := sub [1, 1] B3) (by kernel_rfl) (by kernel_rfl)
    have t2 := RunsTo.seq b1 t1 (c := sub [1] B3) (by kernel_rfl) (by kernel_rfl)
    exact RunsTo.seq a1 t2 (c := B3) (by kernel_rfl) (by kernel_rfl)
  have hts := tree_same n l
  by_cases hT : rTree n l = true
  · rw [hT] at hts k18
    obtain ⟨m, rfl⟩ : ∃ m : Nat, n = (m : Int) := ⟨n.toNat, by
      have := hts
      rw [treeOk, Bool.and_eq_true, decide_eq_true_eq] at this
      omega⟩
    have hF : centersF (m : Int) l = .tuple [.own 1 ((sel (minL (timesL m l)) 0 (timesL m l)).map encI), .int .i64 (minL (timesL m l)), .int .i64 0] := by rw [centersF, if_pos hts, Int.toNat_natCast]
    have hlen : (sel (minL (timesL m l)) 0 (timesL m l)).length ≤ 1000 := by
      have h1 := sel_len (minL (timesL m l)) (timesL m l) 0
      obtain ⟨⟨hn, _⟩, _, _⟩ := tree_rtd hts
      have : (timesL m l).length = m := by simp [timesL]
      omega
    have hsame := centers_same hts
    generalize hL : minL (timesL m l) = le at hF hsame hlen
    generalize hO : sel le 0 (timesL m l) = o at hF hsame hlen
    have d1 := lz_d_0 (m : Int) (l0.map encP) l.length (l.map encP) o.length le 0 (o.map encI) (k18 o)
    have al2 := arg_pl3 (H := [.arr 2 (l.map encP) true 0, bI o]) (b := 0) (l := l) (m := l.length) rfl rfl
    have k20 : ∀ k, callN Try.prog polH (k + 1) 20 [.int .i64 (m : Int), .sl 0 0 l.length none l.length 2] [.arr 2 (l.map encP) true 0, bI o] = some (.tuple [.sl 2 0 o.length none o.length 1, .int .i64 le], [.arr 2 (l.map encP) true 0, bI o, bI o]) := fun k => by
      rw [prim_call (pol := polH) (g := 20) (F := centers20) (by kernel_rfl) (rs := [.int .i64 (m : Int), .imm .arg 2 (l.map encP)]) (by simp only [mapO, al2]; rfl) (res := .tuple [.own 1 (o.map encI), .int .i64 le]) (by
        simp only [centers20, mapO_map decP_enc]
        rw [if_pos hts, Int.toNat_natCast, hsame])]
      simp only [recv, recvVals, recvVal, recvCell, encI_any3, List.length_map]
      rfl
    have k21 : ∀ k, callN Try.prog polH (k + 1) 21 [.sl 1 0 o.length none o.length 1, .sl 2 0 o.length none o.length 1] [.arr 2 (l.map encP) true 0, bI o, bI o] = some (.bool true, [.arr 2 (l.map encP) true 0, bI o, bI o]) := fun k => by
      have e1 := arg_il (H := [.arr 2 (l.map encP) true 0, bI o, bI o]) (b := 1) (l := o) (m := o.length) rfl rfl
      have e2 := arg_il (H := [.arr 2 (l.map encP) true 0, bI o, bI o]) (b := 2) (l := o) (m := o.length) rfl rfl
      rw [prim_call (pol := polH) (g := 21) (F := ints21) (by kernel_rfl) (rs := [.imm .arg 1 (o.map encI), .imm .arg 1 (o.map encI)]) (by simp only [mapO, e1, e2]) (res := .bool true) (by
        simp only [ints21, mapO_map decI_enc]
        rw [if_pos hlen]; simp)]
      rfl
    have z1 := lz_z_0 (m : Int) (l0.map encP) l.length (l.map encP) o.length le 0 (o.map encI) _ _ _ k20 k21 rfl rfl
    exact ⟨_, _, up o le 0 _ _ hF (RunsTo.seq d1 z1 (c := sub [1, 1, 1] B3) (by kernel_rfl) (by kernel_rfl)), rfl⟩
  · have hT' : rTree n l = false := nb_false hT
    rw [hT'] at k18 hts
    have hF : centersF n l = .tuple [.own 1 (([] : List Int).map encI), .int .i64 0, .int .i64 2] := by rw [centersF, hts, if_neg (by simp)]; rfl
    have x1 := lz_x_1 n (l0.map encP) l.length (l.map encP) 0 0 2 [] (k18 []) rfl rfl rfl
    exact ⟨_, _, up [] 0 2 _ _ hF (RunsTo.seq_out x1 (by simp) (c := sub [1, 1, 1] B3) (b := sub [1, 1, 1, 1] B3) (by kernel_rfl)), rfl⟩
end Go.Proofs.Ytmhfkhlamnapdaa
end
section
namespace Go.HL
open Go.ChangeShapes Go.WideShapes Go.ChangeAt Go.RowKit Go.Deep
theorem okNil (w : World) (r : Nat) : okOf Ctx.nil w.heap.size false r := by
  refine ⟨fun hM => ?_, by simp⟩
  obtain ⟨b, y, h1, _, _⟩ := M_iff.1 hM
  simp [Ctx.nil] at h1
theorem cell_lt {w : World} {a : Addr} {v : Value} (h : w.cell? a = some v) : a.block < w.heap.size := by
  rcases Nat.lt_or_ge a.block w.heap.size with hl | hl
  · exact hl
  · have : w.heap[a.block]? = none := by simp [hl]
    simp [World.cell?, this] at h
theorem arg_pairs_ok {H : Type} {enc : TypeId × Value → H} {P : Program} {W : World} {base : Nat} {t e q : TypeId} {v : Value} {d : DataW H} {ps : List MemPlace} (ht : P.underlying t = some (.slice e)) (he : P.underlying e = some (.array 2 q)) (hq : P.underlying q = some (.int .i64)) (ce : P.cellsOf e = 2) (cq : P.cellsOf q = 1)
    (hval : Value.okWide P W .any base t v) (hd : DataW.Trod enc P W 0 (fun _ => true) true t v d ps) : ∃ l : List (Int × Int), V W (okOf Ctx.nil W.heap.size) Ctx.nil (.imm .arg 2 (l.map encP)) v := by
  obtain ⟨a, len, cap, rfl⟩ := okWide_slice ht hval
  obtain ⟨fuel, hf⟩ := hd
  rcases open_slice ht hf with ⟨h0, _⟩ | ⟨a', len', cap', m, n, D, Pl, h0, hb, hl, hm, hmm, hx, hel⟩
  · simp [Value.cells] at h0
    obtain ⟨rfl, rfl, rfl⟩ := h0
    exact ⟨[], .imm .arg 2 [] none 0 (fun _ => .bool false) (by simp) (by simp) (by simp) (by simp) (by simp) (by simp)⟩
  · simp [Value.cells] at h0
    obtain ⟨rfl, rfl, rfl⟩ := h0
    have hlm : len ≤ m := by rw [hmm]; split <;> omega
    have each : ∀ i, i < len → ∃ p : Int × Int, W.cell? (a'.add (i * 2)) = some (.int .i64 p.1) ∧ W.cell? (a'.add (i * 2 + 1)) = some (.int .i64 p.2) := by
      intro i hi
      obtain ⟨cs', h1, h2⟩ := hel i (by omega)
      rw [ce] at h1
      obtain ⟨_, hlen, hcell⟩ := World.cells?_some h1
      obtain ⟨xs, k, _, _, _, hxl, hxs⟩ := DataW.trod_array he h2
      match cs', hlen with
      | [v0, v1], _ =>
        have g0 := hxs 0 (by omega)
        have g1 := hxs 1 (by omega)
        have hx0 : xs[0]? = some xs[0] := List.getElem?_eq_getElem (by omega)
        have hx1 : xs[1]? = some xs[1] := List.getElem?_eq_getElem (by omega)
        rw [cq, hx0] at g0
        rw [cq, hx1] at g1
        simp at g0 g1
        obtain ⟨z0, e0, _, _⟩ := DataW.trod_int hq g0
        obtain ⟨z1, e1, _, _⟩ := DataW.trod_int hq g1
        simp at e0 e1
        subst e0; subst e1
        have c0 := hcell 0 (by omega)
        have c1 := hcell 1 (by omega)
        rw [add_add] at c0 c1
        exact ⟨(z0, z1), by simpa using c0, by simpa using c1⟩
    obtain ⟨f, hf⟩ := choose_lt each
    refine ⟨(List.range len).map f, ?_⟩
    have hlen : (((List.range len).map f).map encP).length = len := by simp
    have key := V.imm (w := W) (ok := okOf Ctx.nil W.heap.size) (c := Ctx.nil) .arg 2 (((List.range len).map f).map encP) (some a') cap (fun j => if j % 2 = 0 then .int .i64 (f (j / 2)).1 else .int .i64 (f (j / 2)).2)
      (by rw [hlen]; exact hl) (by simp) ?_ ?_ ?_ ?_
    · rw [hlen] at key; exact key
    · intro hne
      have h0 : 0 < len := by
        rcases Nat.eq_zero_or_pos len with h | h
        · subst h; simp at hne
        · exact h
      obtain ⟨b, off, spot⟩ := a'
      have hspot : spot = none := by simpa [Addr.add] using World.cell?_spot (hf 0 h0).1
      subst hspot
      refine ⟨b, off, rfl, by simpa [Addr.add] using cell_lt (hf 0 h0).1, okNil W b, fun j hj => ?_⟩
      rw [hlen] at hj
      have hj2 : j / 2 < len := by omega
      obtain ⟨c0, c1⟩ := hf (j / 2) hj2
      by_cases hp : j % 2 = 0
      · rw [if_pos hp]
        have : j / 2 * 2 = j := by omega
        rw [this, add_plain] at c0
        exact c0
      · rw [if_neg hp]
        have : j / 2 * 2 + 1 = j := by omega
        rw [this, add_plain] at c1
        exact c1
    · intro v hv
      obtain ⟨p, _, rfl⟩ := List.mem_map.1 hv
      rfl
    · intro v hv
      obtain ⟨p, _, rfl⟩ := List.mem_map.1 hv
      rfl
    · intro i v j x hi hj
      have hil : i < len := by have := lt_of_get hi; rw [hlen] at this; exact this
      have : v = encP (f i) := by
        rw [List.getElem?_map, List.getElem?_map, List.getElem?_range hil] at hi
        simpa using hi.symm
      subst this
      have hjx : j < 2 := lt_of_get hj
      match j, hjx, hj with
      | 0, _, hj =>
        simp [encP, cellsOf] at hj
        subst hj
        have e1 : (i * 2 + 0) % 2 = 0 := by omega
        have e2 : (i * 2 + 0) / 2 = i := by omega
        rw [if_pos e1, e2]
        exact V.int _ _
      | 1, _, hj =>
        simp [encP, cellsOf] at hj
        subst hj
        have e1 : ¬ (i * 2 + 1) % 2 = 0 := by omega
        have e2 : (i * 2 + 1) / 2 = i := by omega
        rw [if_neg e1, e2]
        exact V.int _ _
end Go.HL
end
