/- A part of the proof. -/
import Derived.Test.YtmhfkhlamnapdaaP12B
set_option linter.unusedVariables false
set_option linter.unusedSimpArgs false
section
open Go Go.HL
namespace Go.Proofs.Ytmhfkhlamnapdaa
theorem res69 : Try.f69.results.toList = [] := by kernel_rfl
theorem res66 : Try.f66.results.toList = [] := by kernel_rfl
def stab1 (f : Int → Int) (n : Nat) (l : List Int) : List Int := if 20 ≤ n then insertion f 20 n (insertion f 0 20 l) else insertion f 0 n l
def stable (f : Int → Int) (n : Nat) (l : List Int) : List Int := if 20 < n then symM f n 0 20 n (stab1 f n l) else stab1 f n l
theorem insertion_len (f : Int → Int) (a b : Nat) (l : List Int) : (insertion f a b l).length = l.length := insGo_len _ _ _ _ _
theorem stab1_len (f : Int → Int) (n : Nat) (l : List Int) : (stab1 f n l).length = l.length := by unfold stab1; split <;> simp [insertion_len]
theorem stable_len (f : Int → Int) (n : Nat) (l : List Int) : (stable f n l).length = l.length := by unfold stable; split <;> simp [symM_len, stab1_len]
section
variable {db : Nat} {cp : HV} {f : Int → Int} {dom : Int → Prop} {K : Heap → Prop}
theorem insertion_call' (hc : Cmp db cp f dom K) {n a b : Nat} (hn : n ≤ 1000) (hab : a ≤ b) (hb : b ≤ n) {l : List Int} {H : Heap} (hl : l.length = n) (hL : Ls db K dom l H) :
    ∃ H', Cl 71 [.sl db 0 n none n 1, .int .i64 (a : Int), .int .i64 (b : Int), .func 67 [] [cp]] H (.tuple []) H' ∧ Ls db K dom (insertion f a b l) H' ∧ Fd db H H' := by
  rcases Nat.lt_or_ge a b with h | h
  · exact insertion_call hc hn h hb hl hL
  · have e : a = b := by omega
    subst e
    have a1 := is_a_0 0 db n (a : Int) (a : Int) cp H
    rw [wrap_succ (by omega)] at a1
    have s1 := is_h_1 0 db n (a : Int) (a : Int) cp H ((a + 1 : Nat) : Int) (by omega)
    have r := RunsTo.loop_out (c := sub [1, 0] B71) (RunsTo.seq_out s1 (by simp) (c := sub [1, 0, 0] B71) (b := sub [1, 0, 0, 1] B71) (by kernel_rfl)) (by simp) (by kernel_rfl) (by kernel_rfl)
    have t1 := RunsTo.seq a1 (RunsTo.block_exit (c := sub [1] B71) r (by kernel_rfl)) (c := B71) (by kernel_rfl) (by kernel_rfl)
    have hcl := CallsTo.shared (P := Try.prog) (pol := polS) (g := 71) (fn := Try.f71) (cd := B71) (args := [.sl db 0 n none n 1, .int .i64 (a : Int), .int .i64 (a : Int), .func 67 [] [cp]]) (v := .tuple []) (by kernel_rfl) (by kernel_rfl) (by kernel_rfl) (by kernel_rfl) t1 (by kernel_rfl) (by simp) (by simp only [resultsV, res71, mapO])
    rw [gc_eq _ rfl] at hcl
    have : insertion f a a l = l := by unfold insertion; rw [show a - (a + 1) = 0 by omega]; rfl
    rw [this]
    exact ⟨H, hcl, hL, Fd.refl _ _⟩
end
section
variable {db : Nat} {cp : HV} {f : Int → Int} {dom : Int → Prop} {K : Heap → Prop}
abbrev stE (db n : Nat) (cp : HV) (w : Int) (v7 v8 v9 : HV) : Env := env69 (.sl db 0 n none n 1) (.int .i64 (n : Int)) (.func 67 [] [cp]) (.int .i64 w) v7 v8 v9
end
section
variable {db : Nat} {cp : HV} {f : Int → Int} {dom : Int → Prop} {K : Heap → Prop}
theorem stable_call (hc : Cmp db cp f dom K) {n : Nat} (hn : n ≤ 39) {l : List Int} {H : Heap} (hl : l.length = n) (hL : Ls db K dom l H) :
    ∃ H', Cl 69 [.sl db 0 n none n 1, .int .i64 (n : Int), .func 67 [] [cp]] H (.tuple []) H' ∧ Ls db K dom (stable f n l) H' ∧ Fd db H H' := by
  have a1 := st_a_0 0 db n (n : Int) cp H
  have b1 := st_b_0 0 db n (n : Int) cp H 20
  have done : ∀ E H', RunsTo Try.prog polS 69 (sub [1, 1] B69) (stE db n cp 20 (.int .i64 0) (.int .i64 20) .undef) H .normal (polS.keys 69) E H' → Fd db H H' → Cl 69 [.sl db 0 n none n 1, .int .i64 (n : Int), .func 67 [] [cp]] H (.tuple []) H' := by
    intro E H' t hF
    have t2 := RunsTo.seq a1 (RunsTo.seq b1 t (c := sub [1] B69) (by kernel_rfl) (by kernel_rfl)) (c := B69) (by kernel_rfl) (by kernel_rfl)
    have hcl := CallsTo.shared (P := Try.prog) (pol := polS) (g := 69) (fn := Try.f69) (cd := B69) (args := [.sl db 0 n none n 1, .int .i64 (n : Int), .func 67 [] [cp]]) (v := .tuple []) (by kernel_rfl) (by kernel_rfl) (by kernel_rfl) (by kernel_rfl) t2 (by kernel_rfl) (by simp) (by simp only [resultsV, res69, mapO])
    rw [gc_eq _ hF.len] at hcl
    exact hcl
  have w40 : IntKind.i64.wrap (20 + 20) = 40 := by decide
  have w2 : IntKind.i64.wrap (2 * 20) = 40 := by decide
  have w3 : IntKind.i64.wrap (20 * 2) = 40 := by decide
  have w4 : IntKind.i64.wrap (0 + 20) = 20 := by decide
  by_cases c1 : 20 ≤ n
  · obtain ⟨H1, hcl1, hL1, hF1⟩ := insertion_call' hc (n := n) (a := 0) (b := 20) (by omega) (by omega) c1 hl hL
    obtain ⟨N1, hN1⟩ := hcl1.from
    have s1 := st_c_0 N1 db n (n : Int) cp H 20 0 20 H1 (by omega) hN1
    rw [w40] at s1
    have s2 := st_c_1 0 db n (n : Int) cp H1 20 20 40 (by omega)
    have r1 := RunsTo.loop (c := sub [1, 1, 0, 0] B69) s1 (by kernel_rfl) (gc_eq _ hF1.len) (RunsTo.loop_out (c := sub [1, 1, 0, 0] B69) s2 (by simp) (by kernel_rfl) (by kernel_rfl)) rfl (by kernel_rfl) (by kernel_rfl)
    obtain ⟨H2, hcl2, hL2, hF2⟩ := insertion_call' hc (n := n) (a := 20) (b := n) (by omega) c1 (by omega) (by rw [insertion_len]; exact hl) hL1
    obtain ⟨N2, hN2⟩ := hcl2.from
    have d1 := st_d_0 N2 db n (n : Int) cp H1 20 20 40 H2 hN2
    have hst : stab1 f n l = insertion f 20 n (insertion f 0 20 l) := if_pos c1
    rw [← hst] at hL2
    by_cases c2 : 20 < n
    · obtain ⟨H3, hcl3, hL3, hF3⟩ := symM_call hc n (by omega) n 0 20 n (stab1 f n l) H2 (by omega) (by omega) c2 (by omega) (by rw [stab1_len]; exact hl) hL2
      obtain ⟨N3, hN3⟩ := hcl3.from
      have e1 := st_e_0 0 db n (n : Int) cp H2 20 .undef .undef (by omega)
      have f1 := st_f_0 0 db n (n : Int) cp H2 20 .undef .undef
      rw [w2] at f1
      have g1 := st_g_1 0 db n (n : Int) cp H2 20 0 40 (by omega)
      have h1 := st_h_0 N3 db n (n : Int) cp H2 20 0 40 H3 (by rw [w4]; omega) (by rw [w4]; exact hN3)
      rw [w3, w4] at h1
      have e2 := st_e_1 0 db n (n : Int) cp H3 40 .undef .undef (by omega)
      have u1 := RunsTo.loop_out (c := sub [1, 1, 1, 1, 0, 0, 1, 0, 1, 0, 0] B69) g1 (by simp) (by kernel_rfl) (by kernel_rfl)
      have u2 := RunsTo.seq (RunsTo.block_exit (c := sub [1, 1, 1, 1, 0, 0, 1, 0, 1, 0] B69) u1 (by kernel_rfl)) h1 (c := sub [1, 1, 1, 1, 0, 0, 1, 0, 1] B69) (by kernel_rfl) (by kernel_rfl)
      have u3 := RunsTo.seq f1 u2 (c := sub [1, 1, 1, 1, 0, 0, 1, 0] B69) (by kernel_rfl) (by kernel_rfl)
      have u4 := RunsTo.seq e1 (RunsTo.block_normal (i := 3) (c := sub [1, 1, 1, 1, 0, 0, 1] B69) u3 (by kernel_rfl)) (c := sub [1, 1, 1, 1, 0, 0] B69) (by kernel_rfl) (by kernel_rfl)
      have u5 := RunsTo.loop_out (c := sub [1, 1, 1, 1, 0] B69) (RunsTo.seq_out e2 (by simp) (c := sub [1, 1, 1, 1, 0, 0] B69) (b := sub [1, 1, 1, 1, 0, 0, 1] B69) (by kernel_rfl)) (by simp) (by kernel_rfl) (by kernel_rfl)
      have u6 := RunsTo.loop (c := sub [1, 1, 1, 1, 0] B69) u4 (by kernel_rfl) (gc_eq _ hF3.len) u5 rfl (by kernel_rfl) (by kernel_rfl)
      have u7 := RunsTo.loop_in (e0 := stE db n cp 20 (.int .i64 20) (.int .i64 40) .undef) u6 (b := sub [1, 1, 1, 1, 0, 0] B69) (by kernel_rfl) (by kernel_rfl) (by kernel_rfl)
      have t1 := RunsTo.seq d1 (RunsTo.block_exit (c := sub [1, 1, 1, 1] B69) u7 (by kernel_rfl)) (c := sub [1, 1, 1] B69) (by kernel_rfl) (by kernel_rfl)
      have t2 := RunsTo.seq (RunsTo.block_exit (c := sub [1, 1, 0] B69) r1 (by kernel_rfl)) t1 (c := sub [1, 1] B69) (by kernel_rfl) (by kernel_rfl)
      have hF := hF1.trans (hF2.trans hF3)
      exact ⟨H3, done _ _ t2 hF, by rw [stable, if_pos c2]; exact hL3, hF⟩
    · have e2 := st_e_1 0 db n (n : Int) cp H2 20 .undef .undef (by omega)
      have u5 := RunsTo.loop_out (c := sub [1, 1, 1, 1, 0] B69) (RunsTo.seq_out e2 (by simp) (c := sub [1, 1, 1, 1, 0, 0] B69) (b := sub [1, 1, 1, 1, 0, 0, 1] B69) (by kernel_rfl)) (by simp) (by kernel_rfl) (by kernel_rfl)
      have u7 := RunsTo.loop_in (e0 := stE db n cp 20 (.int .i64 20) (.int .i64 40) .undef) u5 (b := sub [1, 1, 1, 1, 0, 0] B69) (by kernel_rfl) (by kernel_rfl) (by kernel_rfl)
      have t1 := RunsTo.seq d1 (RunsTo.block_exit (c := sub [1, 1, 1, 1] B69) u7 (by kernel_rfl)) (c := sub [1, 1, 1] B69) (by kernel_rfl) (by kernel_rfl)
      have t2 := RunsTo.seq (RunsTo.block_exit (c := sub [1, 1, 0] B69) r1 (by kernel_rfl)) t1 (c := sub [1, 1] B69) (by kernel_rfl) (by kernel_rfl)
      have hF := hF1.trans hF2
      exact ⟨H2, done _ _ t2 hF, by rw [stable, if_neg c2]; exact hL2, hF⟩
  · have s2 := st_c_1 0 db n (n : Int) cp H 20 0 20 (by omega)
    have r1 := RunsTo.loop_out (c := sub [1, 1, 0, 0] B69) s2 (by simp) (by kernel_rfl) (by kernel_rfl)
    obtain ⟨H2, hcl2, hL2, hF2⟩ := insertion_call' hc (n := n) (a := 0) (b := n) (by omega) (by omega) (by omega) hl hL
    obtain ⟨N2, hN2⟩ := hcl2.from
    have d1 := st_d_0 N2 db n (n : Int) cp H 20 0 20 H2 hN2
    have hst : stab1 f n l = insertion f 0 n l := if_neg c1
    rw [← hst] at hL2
    have e2 := st_e_1 0 db n (n : Int) cp H2 20 .undef .undef (by omega)
    have u5 := RunsTo.loop_out (c := sub [1, 1, 1, 1, 0] B69) (RunsTo.seq_out e2 (by simp) (c := sub [1, 1, 1, 1, 0, 0] B69) (b := sub [1, 1, 1, 1, 0, 0, 1] B69) (by kernel_rfl)) (by simp) (by kernel_rfl) (by kernel_rfl)
    have u7 := RunsTo.loop_in (e0 := stE db n cp 20 (.int .i64 0) (.int .i64 20) .undef) u5 (b := sub [1, 1, 1, 1, 0, 0] B69) (by kernel_rfl) (by kernel_rfl) (by kernel_rfl)
    have t1 := RunsTo.seq d1 (RunsTo.block_exit (c := sub [1, 1, 1, 1] B69) u7 (by kernel_rfl)) (c := sub [1, 1, 1] B69) (by kernel_rfl) (by kernel_rfl)
    have t2 := RunsTo.seq (RunsTo.block_exit (c := sub [1, 1, 0] B69) r1 (by kernel_rfl)) t1 (c := sub [1, 1] B69) (by kernel_rfl) (by kernel_rfl)
    exact ⟨H2, done _ _ t2 hF2, by rw [stable, if_neg (by omega)]; exact hL2, hF2⟩
end
section
variable {db : Nat} {cp : HV} {f : Int → Int} {dom : Int → Prop} {K : Heap → Prop}
theorem sort_call (hc : Cmp db cp f dom K) {n : Nat} (hn : n ≤ 39) {l : List Int} {H : Heap} (hl : l.length = n) (hL : Ls db K dom l H) :
    ∃ H', Cl 66 [.sl db 0 n none n 1, .func 67 [] [cp]] H (.tuple []) H' ∧ Ls db K dom (stable f n l) H' ∧ Fd db H H' := by
  obtain ⟨H', hcl, hL', hF⟩ := stable_call hc hn hl hL
  obtain ⟨N, hN⟩ := hcl.from
  have t := so_a_0 N db n cp H H' hN
  have hcl := CallsTo.shared (P := Try.prog) (pol := polS) (g := 66) (fn := Try.f66) (cd := B66) (args := [.sl db 0 n none n 1, .func 67 [] [cp]]) (v := .tuple []) (by kernel_rfl) (by kernel_rfl) (by kernel_rfl) (by kernel_rfl) t (by kernel_rfl) (by simp) (by simp only [resultsV, res66, mapO])
  rw [gc_eq _ hF.len] at hcl
  exact ⟨H', hcl, hL', hF⟩
end
end Go.Proofs.Ytmhfkhlamnapdaa
end
section
open Go Go.HL
namespace Go.Proofs.Ytmhfkhlamnapdaa
def lkG (P : Program) (T : TypeId) (H : Heap) (b : Nat) (k : HV) (ok : Bool) : Option (HV × Heap) :=
  match H[b]? with
  | some (.map ks vs _) => (lookV P T ks vs k ok).map fun v => (v, H)
  | _ => none
theorem u70 : Try.prog.underlying 70 = some (.map 33 3) := by kernel_rfl
theorem z3q : tyZero Try.prog 3 = some (.int .i64 0) := by kernel_rfl
theorem key33 (p : Int × Int) : keyTy Try.prog 33 (encP p) = true := by kernel_rfl
abbrev valT (T : Int → Int → Int) (k : Int × Int) : HV := .int .i64 (T k.1 k.2)
theorem keyEq_pair (p q : Int × Int) : keyEq (encP p) (encP q) = some (decide (p = q)) := by
  obtain ⟨a, b⟩ := p
  obtain ⟨c, d⟩ := q
  simp only [encP, keyEq, aggEq, scEq, if_true, Bool.and_true, Prod.mk.injEq]
  by_cases h1 : a = c <;> by_cases h2 : b = d <;> simp [h1, h2]
theorem findK_pairs (x : Int × Int) : ∀ (ks : List (Int × Int)) (i : Nat), ∃ r, findK (encP x) (ks.map encP) i = some r ∧ ((x ∈ ks ∧ ∃ j, r = some (i + j) ∧ ks[j]? = some x) ∨ (x ∉ ks ∧ r = none))
  | [], i => ⟨none, rfl, .inr ⟨by simp, rfl⟩⟩
  | k :: ks, i => by
    by_cases e : x = k
    · subst e
      refine ⟨some i, ?_, .inl ⟨by simp, 0, rfl, by simp⟩⟩
      simp only [List.map_cons, findK, keyEq_pair, decide_true]
    · obtain ⟨r, h1, h2⟩ := findK_pairs x ks (i + 1)
      refine ⟨r, ?_, ?_⟩
      · simp only [List.map_cons, findK, keyEq_pair, decide_eq_false e]
        exact h1
      · rcases h2 with ⟨h3, j, h4, h5⟩ | ⟨h3, h4⟩
        · exact .inl ⟨by simp [h3], j + 1, by rw [h4]; congr 1; omega, by simpa using h5⟩
        · exact .inr ⟨by simp [h3, e], h4⟩
theorem mxs_le {m : Nat} : ∀ {H : Heap}, mxs H ≤ m ↔ ∀ B ∈ H, B.mx ≤ m
  | [] => by simp [mxs]
  | B :: H => by
    have := mxs_le (m := m) (H := H)
    simp only [mxs, List.mem_cons, forall_eq_or_imp, ← this]
    omega
structure Mem (adj : List (List Nat)) (T : Int → Int → Int) (H : Heap) : Prop where
  near : H[0]? = some (.arr 1 (adj.map rowO) true 0)
  memo : ∃ ks : List (Int × Int), H[1]? = some (.map (ks.map encP) (ks.map (valT T)) 0)
  rf : sameH H H = true
  mx : mxs H ≤ H.length
section
variable {adj : List (List Nat)} {T : Int → Int → Int} {H : Heap}
theorem Mem.two (h : Mem adj T H) : 2 ≤ H.length := by
  obtain ⟨ks, hk⟩ := h.memo
  have := lt_of_get hk
  omega
end
section
variable {adj : List (List Nat)} {T : Int → Int → Int} {H : Heap}
theorem Mem.lk (h : Mem adj T H) (k : Int × Int) : ∃ b : Bool, lkG Try.prog 70 H 1 (encP k) true = some (.tuple [.int .i64 (if b then T k.1 k.2 else 0), .bool b], H) ∧ (b = true → lkG Try.prog 70 H 1 (encP k) false = some (valT T k, H)) := by
  obtain ⟨ks, hm⟩ := h.memo
  obtain ⟨r, h1, h2⟩ := findK_pairs k ks 0
  have hk := key33 k
  have hz := z3q
  rcases h2 with ⟨h3, j, rfl, h5⟩ | ⟨h3, rfl⟩
  · have hj : (ks.map (valT T))[0 + j]? = some (valT T k) := by rw [Nat.zero_add, List.getElem?_map, h5]; rfl
    refine ⟨true, ?_, fun _ => ?_⟩
    · simp only [lkG, hm, lookV, u70, hk, if_true, h1, hj, Option.map]
    · simp only [lkG, hm, lookV, u70, hk, if_true, h1, hj, Option.map, Bool.false_eq_true, if_false]
  · refine ⟨false, ?_, fun h => absurd h (by simp)⟩
    simp only [lkG, hm, lookV, u70, hk, if_true, h1, hz]
    rfl
end
section
variable {adj : List (List Nat)} {T : Int → Int → Int} {H : Heap}
theorem same_val (T : Int → Int → Int) (k : Int × Int) : same (valT T k) (valT T k) = true := by simp [same]
end
section
variable {adj : List (List Nat)} {T : Int → Int → Int} {H : Heap}
theorem same_encP (k : Int × Int) : same (encP k) (encP k) = true := by simp [encP, same, sameL]
end
section
variable {adj : List (List Nat)} {T : Int → Int → Int} {H : Heap}
theorem same_map (T : Int → Int → Int) (ks : List (Int × Int)) : sameH [.map (ks.map encP) (ks.map (valT T)) 0] [.map (ks.map encP) (ks.map (valT T)) 0] = true := by
  have e1 : sameL (ks.map encP) (ks.map encP) = true := sameL_all fun v hv => by
    obtain ⟨k, _, rfl⟩ := List.mem_map.1 hv
    exact same_encP k
  have e2 : sameL (ks.map (valT T)) (ks.map (valT T)) = true := sameL_all fun v hv => by
    obtain ⟨k, _, rfl⟩ := List.mem_map.1 hv
    exact same_val T k
  simp only [sameH, e1, e2, beq_self_eq_true, Bool.and_self]
end
section
variable {adj : List (List Nat)} {T : Int → Int → Int} {H : Heap}
theorem Mem.set (h : Mem adj T H) {k : Nat} {B : Blk} (h1 : 2 ≤ k) (hB : sameH [B] [B] = true) (hm : B.mx ≤ H.length) : Mem adj T (H.set k B) := by
  obtain ⟨ks, hk⟩ := h.memo
  refine ⟨by rw [List.getElem?_set_ne (by omega)]; exact h.near, ⟨ks, by rw [List.getElem?_set_ne (by omega)]; exact hk⟩, sameH_set h.rf hB, ?_⟩
  rw [List.length_set, mxs_le]
  intro C hC
  rcases List.mem_or_eq_of_mem_set hC with hC | rfl
  · exact mxs_le.1 h.mx C hC
  · exact hm
end
section
variable {adj : List (List Nat)} {T : Int → Int → Int} {H : Heap}
theorem Mem.app (h : Mem adj T H) {B : Blk} (hB : sameH [B] [B] = true) (hm : B.mx ≤ H.length + 1) : Mem adj T (H ++ [B]) := by
  obtain ⟨ks, hk⟩ := h.memo
  have h2 := h.two
  refine ⟨by rw [List.getElem?_append_left (by omega)]; exact h.near, ⟨ks, by rw [List.getElem?_append_left (by omega)]; exact hk⟩, sameH_app h.rf hB, ?_⟩
  rw [List.length_append, mxs_le]
  intro C hC
  rcases List.mem_append.1 hC with hC | hC
  · have := mxs_le.1 h.mx C hC; simp; omega
  · rw [List.mem_singleton.1 hC]; simpa using hm
end
section
variable {adj : List (List Nat)} {T : Int → Int → Int} {H : Heap}
theorem Mem.upd (h : Mem adj T H) (k : Int × Int) : ∃ H', updV Try.prog false 70 (.map 1) (encP k) (valT T k) H = some H' ∧ Mem adj T H' ∧ Fr H H' ∧ lkG Try.prog 70 H' 1 (encP k) false = some (valT T k, H') ∧ ∀ j, j ≠ 1 → H'[j]? = H[j]? := by
  obtain ⟨ks, hm⟩ := h.memo
  obtain ⟨r, h1, h2⟩ := findK_pairs k ks 0
  have hk := key33 k
  have h1l := lt_of_get hm
  have key : ∀ ks' : List (Int × Int), k ∈ ks' → updV Try.prog false 70 (.map 1) (encP k) (valT T k) H = some (H.set 1 (.map (ks'.map encP) (ks'.map (valT T)) 0)) → ∃ H', updV Try.prog false 70 (.map 1) (encP k) (valT T k) H = some H' ∧ Mem adj T H' ∧ Fr H H' ∧ lkG Try.prog 70 H' 1 (encP k) false = some (valT T k, H') ∧ ∀ j, j ≠ 1 → H'[j]? = H[j]? := by
    intro ks' hin hu
    have hM : Mem adj T (H.set 1 (.map (ks'.map encP) (ks'.map (valT T)) 0)) := by
      refine ⟨by rw [List.getElem?_set_ne (by omega)]; exact h.near, ⟨ks', List.getElem?_set_self h1l⟩, sameH_set h.rf (same_map T ks'), ?_⟩
      rw [List.length_set, mxs_le]
      intro C hC
      rcases List.mem_or_eq_of_mem_set hC with hC | rfl
      · exact mxs_le.1 h.mx C hC
      · exact Nat.zero_le _
    have hs : ∀ j, j ≠ 1 → (H.set 1 (.map (ks'.map encP) (ks'.map (valT T)) 0))[j]? = H[j]? := fun j hj => List.getElem?_set_ne (by omega)
    refine ⟨_, hu, hM, ⟨by simp, hs⟩, ?_, hs⟩
    obtain ⟨r, h1, h2⟩ := findK_pairs k ks' 0
    rcases h2 with ⟨h3, j, rfl, h5⟩ | ⟨h3, rfl⟩
    · have hj : (ks'.map (valT T))[0 + j]? = some (valT T k) := by rw [Nat.zero_add, List.getElem?_map, h5]; rfl
      simp only [lkG, List.getElem?_set_self h1l, lookV, u70, hk, if_true, h1, hj, Option.map, Bool.false_eq_true, if_false]
    · exact absurd hin h3
  rcases h2 with ⟨h3, j, rfl, h5⟩ | ⟨h3, rfl⟩
  · refine key ks h3 ?_
    simp only [updV, u70, hk, if_true, hm, h1, Bool.false_eq_true, if_false]
    have hs : (ks.map (valT T)).set (0 + j) (valT T k) = ks.map (valT T) := by
      apply List.ext_getElem?
      intro i
      rw [List.getElem?_set, List.length_map]
      have hjl := lt_of_get h5
      by_cases e : 0 + j = i
      · subst e
        rw [if_pos rfl, if_pos (by omega), Nat.zero_add, List.getElem?_map, h5]; rfl
      · rw [if_neg e]
    simp only [hs, bnd, Nat.max_zero]
  · refine key (ks ++ [k]) (by simp) ?_
    have ha : (aggEq (cellsOf (encP k)) (cellsOf (encP k))).isSome = true := by simp [encP, cellsOf, aggEq, scEq]
    simp only [updV, u70, hk, if_true, hm, h1, ha, Bool.false_eq_true, if_false, bnd, Nat.max_zero, List.map_append, List.map_cons, List.map_nil]
end
section
variable {adj : List (List Nat)} {T : Int → Int → Int} {H : Heap}
structure Gr (adj : List (List Nat)) (T : Int → Int → Int) (H H' : Heap) : Prop where
  mem : Mem adj T H'
  len : H.length ≤ H'.length
  same : ∀ k, k ≠ 1 → k < H.length → H'[k]? = H[k]?
  mx : mxs H' ≤ H.length
end
section
variable {adj : List (List Nat)} {T : Int → Int → Int} {H : Heap}
theorem Mem.take (h : Mem adj T H) {m : Nat} (h2 : 2 ≤ m) (hm : m ≤ H.length) (hx : mxs H ≤ m) : Mem adj T (H.take m) := by
  obtain ⟨ks, hk⟩ := h.memo
  refine ⟨by rw [List.getElem?_take, if_pos (by omega)]; exact h.near, ⟨ks, by rw [List.getElem?_take, if_pos (by omega)]; exact hk⟩, sameH_take h.rf, ?_⟩
  rw [List.length_take, mxs_le]
  intro C hC
  have := mxs_le.1 hx C (List.mem_of_mem_take hC)
  omega
end
section
variable {adj : List (List Nat)} {T : Int → Int → Int} {H : Heap}
theorem Gr.cut {H' : Heap} (h : Gr adj T H H') (h2 : 2 ≤ H.length) {r : Nat} (hr : r ≤ H.length) : Mem adj T (gc H.length r H') ∧ (gc H.length r H').length = H.length ∧ ∀ k, k ≠ 1 → (gc H.length r H')[k]? = H[k]? := by
  have e : gc H.length r H' = H'.take H.length := by
    have := h.mx
    unfold gc
    congr 1
    omega
  rw [e]
  refine ⟨h.mem.take h2 h.len h.mx, by rw [List.length_take]; have := h.len; omega, fun k hk => ?_⟩
  rw [List.getElem?_take]
  by_cases c : k < H.length
  · rw [if_pos c]; exact h.same k hk c
  · rw [if_neg c, List.getElem?_eq_none (by omega)]
end
section
variable {adj : List (List Nat)} {T : Int → Int → Int} {H : Heap}
theorem Gr.fr {H' : Heap} (h : Gr adj T H H') (h2 : 2 ≤ H.length) {r : Nat} (hr : r ≤ H.length) : Mem adj T (gc H.length r H') ∧ Fr H (gc H.length r H') := by
  obtain ⟨a, b, c⟩ := h.cut h2 hr
  exact ⟨a, b, c⟩
end
end Go.Proofs.Ytmhfkhlamnapdaa
end
section
open Go Go.HL
namespace Go.Proofs.Ytmhfkhlamnapdaa
set_option maxRecDepth 100000
noncomputable def B24 : Code := Try.f24.body.getD .skip
abbrev env24 (v0 v1 v2 v6 v7 v8 v9 : HV) : Env := [(0, v0), (1, v1), (2, v2), (6, v6), (7, v7), (8, v8), (9, v9)]
theorem tg_a_0 (N : Nat) (n : Int) (lc : List HV) (x : Int) : RunsTo Try.prog polS 24 (sub [0] B24) [(0, .i n), (1, .imm .arg 2 lc), (2, .i x)] [] .normal (polS.keys 24) (env24 (.i n) (.imm .arg 2 lc) (.i x) (.i 0) (.i 0) .undef .undef) [] :=
  RunsTo.hin N 60 [] fun kf hk => ⟨_, by kernel_rfl, .nil⟩
theorem tg_b_0 (N : Nat) (n : Int) (lc : List HV) (x : Int) (m : Nat) (rows : List HV) (g0 : ∀ kf, callN Try.prog polS (kf + 1) 46 [.i n, .imm .arg 2 lc] [] = some (.tuple [.agg [.sl 0 0 m none m 1, .map 1], .bool true], [.arr 1 rows true 0, .map [] [] 0])) : RunsTo Try.prog polS 24 (sub [1, 0] B24) (env24 (.i n) (.imm .arg 2 lc) (.i x) (.i 0) (.i 0) .undef .undef) [] .normal (polS.keys 24) (env24 (.i n) (.imm .arg 2 lc) (.i x) (.i 0) (.i 0) (.ptr 2 0 0 1) (.bool true)) [.arr 1 rows true 0, .map [] [] 0, .arr 2 [.agg [.sl 0 0 m none m 1, .map 1]] true 2] :=
  RunsTo.hin N 60 [⟨1, 2, .tuple [.agg [.sl 0 0 m none m 1, .map 1], .bool true], [.arr 1 rows true 0, .map [] [] 0]⟩] fun kf hk => ⟨_, by kernel_rfl, (oC (g0 kf) .nil)⟩
theorem tg_b_1 (N : Nat) (n : Int) (lc : List HV) (x : Int) (m : Nat) (rows : List HV) (g0 : ∀ kf, callN Try.prog polS (kf + 1) 46 [.i n, .imm .arg 2 lc] [] = some (.tuple [.agg [.sl 0 0 m none m 1, .map 1], .bool false], [.arr 1 rows true 0, .map [] [] 0])) : RunsTo Try.prog polS 24 (sub [1, 0] B24) (env24 (.i n) (.imm .arg 2 lc) (.i x) (.i 0) (.i 0) .undef .undef) [] .normal (polS.keys 24) (env24 (.i n) (.imm .arg 2 lc) (.i x) (.i 0) (.i 0) (.ptr 2 0 0 1) (.bool false)) [.arr 1 rows true 0, .map [] [] 0, .arr 2 [.agg [.sl 0 0 m none m 1, .map 1]] true 2] :=
  RunsTo.hin N 60 [⟨1, 2, .tuple [.agg [.sl 0 0 m none m 1, .map 1], .bool false], [.arr 1 rows true 0, .map [] [] 0]⟩] fun kf hk => ⟨_, by kernel_rfl, (oC (g0 kf) .nil)⟩
theorem tg_b_2 (N : Nat) (n : Int) (lc : List HV) (x : Int)(g0 : ∀ kf, callN Try.prog polS (kf + 1) 46 [.i n, .imm .arg 2 lc] [] = some (.tuple [.agg [.sl 0 0 0 none 0 0, .nilmap], .bool false], [.arr 0 [] true 0])) : RunsTo Try.prog polS 24 (sub [1, 0] B24) (env24 (.i n) (.imm .arg 2 lc) (.i x) (.i 0) (.i 0) .undef .undef) [] .normal (polS.keys 24) (env24 (.i n) (.imm .arg 2 lc) (.i x) (.i 0) (.i 0) (.ptr 1 0 0 1) (.bool false)) [.arr 0 [] true 0, .arr 2 [.agg [.sl 0 0 0 none 0 0, .nilmap]] true 1] :=
  RunsTo.hin N 60 [⟨1, 2, .tuple [.agg [.sl 0 0 0 none 0 0, .nilmap], .bool false], [.arr 0 [] true 0]⟩] fun kf hk => ⟨_, by kernel_rfl, (oC (g0 kf) .nil)⟩
theorem tg_c_0 (N : Nat) (n : Int) (lc : List HV) (x : Int) (m : Nat) (rows : List HV)(g0 : ∀ kf, callN Try.prog polS (kf + 1) 49 [.i x, .i 0, .i (IntKind.i64.wrap (n - 1))] [.arr 1 rows true 0, .map [] [] 0, .arr 2 [.agg [.sl 0 0 m none m 1, .map 1]] true 2] = some (.bool true, [.arr 1 rows true 0, .map [] [] 0, .arr 2 [.agg [.sl 0 0 m none m 1, .map 1]] true 2])) : RunsTo Try.prog polS 24 (sub [1, 1, 0] B24) (env24 (.i n) (.imm .arg 2 lc) (.i x) (.i 0) (.i 0) (.ptr 2 0 0 1) (.bool true)) [.arr 1 rows true 0, .map [] [] 0, .arr 2 [.agg [.sl 0 0 m none m 1, .map 1]] true 2] .normal (polS.keys 24) (env24 (.i n) (.imm .arg 2 lc) (.i x) (.i 0) (.i 0) (.ptr 2 0 0 1) (.bool true)) [.arr 1 rows true 0, .map [] [] 0, .arr 2 [.agg [.sl 0 0 m none m 1, .map 1]] true 2] :=
  RunsTo.hin N 60 [⟨2, 6, .bool true, [.arr 1 rows true 0, .map [] [] 0, .arr 2 [.agg [.sl 0 0 m none m 1, .map 1]] true 2]⟩] fun kf hk => ⟨_, by kernel_rfl, (oC (g0 kf) .nil)⟩
theorem tg_c_1 (N : Nat) (n : Int) (lc : List HV) (x : Int) (m : Nat) (rows : List HV)(g0 : ∀ kf, callN Try.prog polS (kf + 1) 49 [.i x, .i 0, .i (IntKind.i64.wrap (n - 1))] [.arr 1 rows true 0, .map [] [] 0, .arr 2 [.agg [.sl 0 0 m none m 1, .map 1]] true 2] = some (.bool false, [.arr 1 rows true 0, .map [] [] 0, .arr 2 [.agg [.sl 0 0 m none m 1, .map 1]] true 2])) : RunsTo Try.prog polS 24 (sub [1, 1, 0] B24) (env24 (.i n) (.imm .arg 2 lc) (.i x) (.i 0) (.i 0) (.ptr 2 0 0 1) (.bool true)) [.arr 1 rows true 0, .map [] [] 0, .arr 2 [.agg [.sl 0 0 m none m 1, .map 1]] true 2] .ret (polS.keys 24) (env24 (.i n) (.imm .arg 2 lc) (.i x) (.i 0) (.i 2) (.ptr 2 0 0 1) (.bool true)) [.arr 1 rows true 0, .map [] [] 0, .arr 2 [.agg [.sl 0 0 m none m 1, .map 1]] true 2] :=
  RunsTo.hin N 60 [⟨2, 6, .bool false, [.arr 1 rows true 0, .map [] [] 0, .arr 2 [.agg [.sl 0 0 m none m 1, .map 1]] true 2]⟩] fun kf hk => ⟨_, by kernel_rfl, (oC (g0 kf) .nil)⟩
theorem tg_cf_0 (N : Nat) (n : Int) (lc : List HV) (x : Int) (m : Nat) (rows : List HV) : RunsTo Try.prog polS 24 (sub [1, 1, 0] B24) (env24 (.i n) (.imm .arg 2 lc) (.i x) (.i 0) (.i 0) (.ptr 2 0 0 1) (.bool false)) [.arr 1 rows true 0, .map [] [] 0, .arr 2 [.agg [.sl 0 0 m none m 1, .map 1]] true 2] .ret (polS.keys 24) (env24 (.i n) (.imm .arg 2 lc) (.i x) (.i 0) (.i 2) (.ptr 2 0 0 1) (.bool false)) [.arr 1 rows true 0, .map [] [] 0, .arr 2 [.agg [.sl 0 0 m none m 1, .map 1]] true 2] :=
  RunsTo.hin N 60 [] fun kf hk => ⟨_, by kernel_rfl, .nil⟩
theorem tg_cb_0 (N : Nat) (n : Int) (lc : List HV) (x : Int) : RunsTo Try.prog polS 24 (sub [1, 1, 0] B24) (env24 (.i n) (.imm .arg 2 lc) (.i x) (.i 0) (.i 0) (.ptr 1 0 0 1) (.bool false)) [.arr 0 [] true 0, .arr 2 [.agg [.sl 0 0 0 none 0 0, .nilmap]] true 1] .ret (polS.keys 24) (env24 (.i n) (.imm .arg 2 lc) (.i x) (.i 0) (.i 2) (.ptr 1 0 0 1) (.bool false)) [.arr 0 [] true 0, .arr 2 [.agg [.sl 0 0 0 none 0 0, .nilmap]] true 1] :=
  RunsTo.hin N 60 [] fun kf hk => ⟨_, by kernel_rfl, .nil⟩
theorem tg_z_0 (N : Nat) (n : Int) (lc : List HV) (x : Int) (m : Nat) (rows : List HV) (t : Int) (H0 : Heap) (g0 : ∀ kf, N ≤ kf → callN Try.prog polS (kf + 1) 47 [.agg [.sl 0 0 m none m 1, .map 1], .i x, .i (-1)] [.arr 1 rows true 0, .map [] [] 0, .arr 2 [.agg [.sl 0 0 m none m 1, .map 1]] true 2] = some (.i t, H0)) : RunsTo Try.prog polS 24 (sub [1, 1, 1] B24) (env24 (.i n) (.imm .arg 2 lc) (.i x) (.i 0) (.i 0) (.ptr 2 0 0 1) (.bool true)) [.arr 1 rows true 0, .map [] [] 0, .arr 2 [.agg [.sl 0 0 m none m 1, .map 1]] true 2] .ret (polS.keys 24) (env24 (.i n) (.imm .arg 2 lc) (.i x) (.i t) (.i 0) (.ptr 2 0 0 1) (.bool true)) H0 :=
  RunsTo.hin N 60 [⟨4, 2, .i t, H0⟩] fun kf hk => ⟨_, by kernel_rfl, (oC (g0 kf (by omega)) .nil)⟩
end Go.Proofs.Ytmhfkhlamnapdaa
end
section
open Go Go.HL
namespace Go.Proofs.Ytmhfkhlamnapdaa
set_option maxRecDepth 100000
noncomputable def B25 : Code := Try.f25.body.getD .skip
abbrev env25 (v0 v1 v2 v6 v7 v8 v9 : HV) : Env := [(0, v0), (1, v1), (2, v2), (6, v6), (7, v7), (8, v8), (9, v9)]
theorem fr_a_0 (N : Nat) (n : Int) (lc : List HV) (x : Int) : RunsTo Try.prog polS 25 (sub [0] B25) [(0, .i n), (1, .imm .arg 2 lc), (2, .i x)] [] .normal (polS.keys 25) (env25 (.i n) (.imm .arg 2 lc) (.i x) (.imm .lit 1 []) (.i 0) .undef .undef) [] :=
  RunsTo.hin N 60 [] fun kf hk => ⟨_, by kernel_rfl, .nil⟩
theorem fr_b_0 (N : Nat) (n : Int) (lc : List HV) (x : Int) (m : Nat) (rows : List HV) (g0 : ∀ kf, callN Try.prog polS (kf + 1) 46 [.i n, .imm .arg 2 lc] [] = some (.tuple [.agg [.sl 0 0 m none m 1, .map 1], .bool true], [.arr 1 rows true 0, .map [] [] 0])) : RunsTo Try.prog polS 25 (sub [1, 0] B25) (env25 (.i n) (.imm .arg 2 lc) (.i x) (.imm .lit 1 []) (.i 0) .undef .undef) [] .normal (polS.keys 25) (env25 (.i n) (.imm .arg 2 lc) (.i x) (.imm .lit 1 []) (.i 0) (.ptr 2 0 0 1) (.bool true)) [.arr 1 rows true 0, .map [] [] 0, .arr 2 [.agg [.sl 0 0 m none m 1, .map 1]] true 2] :=
  RunsTo.hin N 60 [⟨1, 2, .tuple [.agg [.sl 0 0 m none m 1, .map 1], .bool true], [.arr 1 rows true 0, .map [] [] 0]⟩] fun kf hk => ⟨_, by kernel_rfl, (oC (g0 kf) .nil)⟩
theorem fr_b_1 (N : Nat) (n : Int) (lc : List HV) (x : Int) (m : Nat) (rows : List HV) (g0 : ∀ kf, callN Try.prog polS (kf + 1) 46 [.i n, .imm .arg 2 lc] [] = some (.tuple [.agg [.sl 0 0 m none m 1, .map 1], .bool false], [.arr 1 rows true 0, .map [] [] 0])) : RunsTo Try.prog polS 25 (sub [1, 0] B25) (env25 (.i n) (.imm .arg 2 lc) (.i x) (.imm .lit 1 []) (.i 0) .undef .undef) [] .normal (polS.keys 25) (env25 (.i n) (.imm .arg 2 lc) (.i x) (.imm .lit 1 []) (.i 0) (.ptr 2 0 0 1) (.bool false)) [.arr 1 rows true 0, .map [] [] 0, .arr 2 [.agg [.sl 0 0 m none m 1, .map 1]] true 2] :=
  RunsTo.hin N 60 [⟨1, 2, .tuple [.agg [.sl 0 0 m none m 1, .map 1], .bool false], [.arr 1 rows true 0, .map [] [] 0]⟩] fun kf hk => ⟨_, by kernel_rfl, (oC (g0 kf) .nil)⟩
theorem fr_b_2 (N : Nat) (n : Int) (lc : List HV) (x : Int)(g0 : ∀ kf, callN Try.prog polS (kf + 1) 46 [.i n, .imm .arg 2 lc] [] = some (.tuple [.agg [.sl 0 0 0 none 0 0, .nilmap], .bool false], [.arr 0 [] true 0])) : RunsTo Try.prog polS 25 (sub [1, 0] B25) (env25 (.i n) (.imm .arg 2 lc) (.i x) (.imm .lit 1 []) (.i 0) .undef .undef) [] .normal (polS.keys 25) (env25 (.i n) (.imm .arg 2 lc) (.i x) (.imm .lit 1 []) (.i 0) (.ptr 1 0 0 1) (.bool false)) [.arr 0 [] true 0, .arr 2 [.agg [.sl 0 0 0 none 0 0, .nilmap]] true 1] :=
  RunsTo.hin N 60 [⟨1, 2, .tuple [.agg [.sl 0 0 0 none 0 0, .nilmap], .bool false], [.arr 0 [] true 0]⟩] fun kf hk => ⟨_, by kernel_rfl, (oC (g0 kf) .nil)⟩
theorem fr_c_0 (N : Nat) (n : Int) (lc : List HV) (x : Int) (m : Nat) (rows : List HV)(g0 : ∀ kf, callN Try.prog polS (kf + 1) 49 [.i x, .i 0, .i (IntKind.i64.wrap (n - 1))] [.arr 1 rows true 0, .map [] [] 0, .arr 2 [.agg [.sl 0 0 m none m 1, .map 1]] true 2] = some (.bool true, [.arr 1 rows true 0, .map [] [] 0, .arr 2 [.agg [.sl 0 0 m none m 1, .map 1]] true 2])) : RunsTo Try.prog polS 25 (sub [1, 1, 0] B25) (env25 (.i n) (.imm .arg 2 lc) (.i x) (.imm .lit 1 []) (.i 0) (.ptr 2 0 0 1) (.bool true)) [.arr 1 rows true 0, .map [] [] 0, .arr 2 [.agg [.sl 0 0 m none m 1, .map 1]] true 2] .normal (polS.keys 25) (env25 (.i n) (.imm .arg 2 lc) (.i x) (.imm .lit 1 []) (.i 0) (.ptr 2 0 0 1) (.bool true)) [.arr 1 rows true 0, .map [] [] 0, .arr 2 [.agg [.sl 0 0 m none m 1, .map 1]] true 2] :=
  RunsTo.hin N 60 [⟨2, 6, .bool true, [.arr 1 rows true 0, .map [] [] 0, .arr 2 [.agg [.sl 0 0 m none m 1, .map 1]] true 2]⟩] fun kf hk => ⟨_, by kernel_rfl, (oC (g0 kf) .nil)⟩
theorem fr_c_1 (N : Nat) (n : Int) (lc : List HV) (x : Int) (m : Nat) (rows : List HV)(g0 : ∀ kf, callN Try.prog polS (kf + 1) 49 [.i x, .i 0, .i (IntKind.i64.wrap (n - 1))] [.arr 1 rows true 0, .map [] [] 0, .arr 2 [.agg [.sl 0 0 m none m 1, .map 1]] true 2] = some (.bool false, [.arr 1 rows true 0, .map [] [] 0, .arr 2 [.agg [.sl 0 0 m none m 1, .map 1]] true 2])) : RunsTo Try.prog polS 25 (sub [1, 1, 0] B25) (env25 (.i n) (.imm .arg 2 lc) (.i x) (.imm .lit 1 []) (.i 0) (.ptr 2 0 0 1) (.bool true)) [.arr 1 rows true 0, .map [] [] 0, .arr 2 [.agg [.sl 0 0 m none m 1, .map 1]] true 2] .ret (polS.keys 25) (env25 (.i n) (.imm .arg 2 lc) (.i x) (.imm .lit 1 []) (.i 2) (.ptr 2 0 0 1) (.bool true)) [.arr 1 rows true 0, .map [] [] 0, .arr 2 [.agg [.sl 0 0 m none m 1, .map 1]] true 2] :=
  RunsTo.hin N 60 [⟨2, 6, .bool false, [.arr 1 rows true 0, .map [] [] 0, .arr 2 [.agg [.sl 0 0 m none m 1, .map 1]] true 2]⟩] fun kf hk => ⟨_, by kernel_rfl, (oC (g0 kf) .nil)⟩
theorem fr_cf_0 (N : Nat) (n : Int) (lc : List HV) (x : Int) (m : Nat) (rows : List HV) : RunsTo Try.prog polS 25 (sub [1, 1, 0] B25) (env25 (.i n) (.imm .arg 2 lc) (.i x) (.imm .lit 1 []) (.i 0) (.ptr 2 0 0 1) (.bool false)) [.arr 1 rows true 0, .map [] [] 0, .arr 2 [.agg [.sl 0 0 m none m 1, .map 1]] true 2] .ret (polS.keys 25) (env25 (.i n) (.imm .arg 2 lc) (.i x) (.imm .lit 1 []) (.i 2) (.ptr 2 0 0 1) (.bool false)) [.arr 1 rows true 0, .map [] [] 0, .arr 2 [.agg [.sl 0 0 m none m 1, .map 1]] true 2] :=
  RunsTo.hin N 60 [] fun kf hk => ⟨_, by kernel_rfl, .nil⟩
theorem fr_cb_0 (N : Nat) (n : Int) (lc : List HV) (x : Int) : RunsTo Try.prog polS 25 (sub [1, 1, 0] B25) (env25 (.i n) (.imm .arg 2 lc) (.i x) (.imm .lit 1 []) (.i 0) (.ptr 1 0 0 1) (.bool false)) [.arr 0 [] true 0, .arr 2 [.agg [.sl 0 0 0 none 0 0, .nilmap]] true 1] .ret (polS.keys 25) (env25 (.i n) (.imm .arg 2 lc) (.i x) (.imm .lit 1 []) (.i 2) (.ptr 1 0 0 1) (.bool false)) [.arr 0 [] true 0, .arr 2 [.agg [.sl 0 0 0 none 0 0, .nilmap]] true 1] :=
  RunsTo.hin N 60 [] fun kf hk => ⟨_, by kernel_rfl, .nil⟩
theorem fr_z_0 (N : Nat) (n : Int) (lc : List HV) (x : Int) (m : Nat) (rows : List HV) (q : Nat) (os : List HV) (g0 : ∀ kf, callN Try.prog polS (kf + 1) 50 [.agg [.sl 0 0 m none m 1, .map 1], .i x] [.arr 1 rows true 0, .map [] [] 0, .arr 2 [.agg [.sl 0 0 m none m 1, .map 1]] true 2] = some (.sl 3 0 q none q 1, [.arr 1 rows true 0, .map [] [] 0, .arr 2 [.agg [.sl 0 0 m none m 1, .map 1]] true 2, .arr 1 os true 0])) : RunsTo Try.prog polS 25 (sub [1, 1, 1] B25) (env25 (.i n) (.imm .arg 2 lc) (.i x) (.imm .lit 1 []) (.i 0) (.ptr 2 0 0 1) (.bool true)) [.arr 1 rows true 0, .map [] [] 0, .arr 2 [.agg [.sl 0 0 m none m 1, .map 1]] true 2] .ret (polS.keys 25) (env25 (.i n) (.imm .arg 2 lc) (.i x) (.sl 3 0 q none q 1) (.i 0) (.ptr 2 0 0 1) (.bool true)) [.arr 1 rows true 0, .map [] [] 0, .arr 2 [.agg [.sl 0 0 m none m 1, .map 1]] true 2, .arr 1 os true 0] :=
  RunsTo.hin N 60 [⟨4, 2, .sl 3 0 q none q 1, [.arr 1 rows true 0, .map [] [] 0, .arr 2 [.agg [.sl 0 0 m none m 1, .map 1]] true 2, .arr 1 os true 0]⟩] fun kf hk => ⟨_, by kernel_rfl, (oC (g0 kf) .nil)⟩
end Go.Proofs.Ytmhfkhlamnapdaa
end
section
open Go Go.HL
namespace Go.Proofs.Ytmhfkhlamnapdaa
set_option maxRecDepth 100000
noncomputable def B57 : Code := Try.f57.body.getD .skip
abbrev env57 (v0 v1 v2 v3 v8 v9 v10 v11 v12 v13 v14 v15 v16 : HV) : Env := [(0, v0), (1, v1), (2, v2), (3, v3), (8, v8), (9, v9), (10, v10), (11, v11), (12, v12), (13, v13), (14, v14), (15, v15), (16, v16)]
theorem rt_a_0 (N : Nat) (n : Int) (lc : List HV) (x w : Int) (H : Heap) : RunsTo Try.prog polN 57 (sub [0] B57) [(0, .i n), (1, .imm .arg 2 lc), (2, .i x), (3, .i w)] H .normal (polN.keys 57) (env57 (.i n) (.imm .arg 2 lc) (.i x) (.i w) (.i 0) .undef .undef .undef .undef .undef .undef .undef .undef) H :=
  RunsTo.hin N 60 [] fun kf hk => ⟨_, by kernel_rfl, .nil⟩
theorem rt_b_0 (N : Nat) (n : Int) (lc : List HV) (x w : Int) (H : Heap) (tb : Nat) (H0 : Heap) (g0 : some (HV.sl H.length 0 0 none 0 1, H ++ [Blk.arr 1 [] true 0]) = some (.sl tb 0 0 none 0 1, H0)) : RunsTo Try.prog polN 57 (sub [1, 0] B57) (env57 (.i n) (.imm .arg 2 lc) (.i x) (.i w) (.i 0) .undef .undef .undef .undef .undef .undef .undef .undef) H .normal (polN.keys 57) (env57 (.i n) (.imm .arg 2 lc) (.i x) (.i w) (.i 0) (.sl tb 0 0 none 0 1) .undef .undef .undef .undef .undef .undef .undef) H0 :=
  RunsTo.hin N 60 [⟨1, 0, .sl tb 0 0 none 0 1, H0⟩] fun kf hk => ⟨_, by kernel_rfl, (oC (g0) .nil)⟩
theorem rt_c_0 (N : Nat) (n : Int) (lc : List HV) (x w : Int) (H : Heap) (tb : Nat) (nbk : Nat) (m : Nat) (H0 : Heap) (g0 : ∀ kf, callN Try.prog polN (kf + 1) 51 [.i n, .imm .arg 2 lc, .i x] H = some (.sl nbk 0 m none m 1, H0)) : RunsTo Try.prog polN 57 (sub [1, 1, 0] B57) (env57 (.i n) (.imm .arg 2 lc) (.i x) (.i w) (.i 0) (.sl tb 0 0 none 0 1) .undef .undef .undef .undef .undef .undef .undef) H .normal (polN.keys 57) (env57 (.i n) (.imm .arg 2 lc) (.i x) (.i w) (.i 0) (.sl tb 0 0 none 0 1) (.sl nbk 0 m none m 1) .undef .undef .undef .undef .undef .undef) H0 :=
  RunsTo.hin N 60 [⟨2, 3, .sl nbk 0 m none m 1, H0⟩] fun kf hk => ⟨_, by kernel_rfl, (oC (g0 kf) .nil)⟩
theorem rt_d_0 (N : Nat) (n : Int) (lc : List HV) (x w : Int) (H : Heap) (tb k nbk m : Nat) : RunsTo Try.prog polN 57 (sub [1, 1, 1, 0, 0] B57) (env57 (.i n) (.imm .arg 2 lc) (.i x) (.i w) (.i 0) (.sl tb 0 k none k 1) (.sl nbk 0 m none m 1) .undef .undef .undef .undef .undef .undef) H .normal (polN.keys 57) (env57 (.i n) (.imm .arg 2 lc) (.i x) (.i w) (.i 0) (.sl tb 0 k none k 1) (.sl nbk 0 m none m 1) (.i 0) .undef .undef .undef .undef .undef) H :=
  RunsTo.hin N 60 [] fun kf hk => ⟨_, by kernel_rfl, .nil⟩
theorem rt_e_0 (N : Nat) (n : Int) (lc : List HV) (x w : Int) (H : Heap) (tb k nbk m : Nat) (i : Nat)(g0 : (i : Int) < (m : Int)) : RunsTo Try.prog polN 57 (sub [1, 1, 1, 0, 1, 0, 0, 0] B57) (env57 (.i n) (.imm .arg 2 lc) (.i x) (.i w) (.i 0) (.sl tb 0 k none k 1) (.sl nbk 0 m none m 1) (.i (i : Int)) .undef .undef .undef .undef .undef) H .normal (polN.keys 57) (env57 (.i n) (.imm .arg 2 lc) (.i x) (.i w) (.i 0) (.sl tb 0 k none k 1) (.sl nbk 0 m none m 1) (.i (i : Int)) .undef .undef .undef .undef .undef) H :=
  RunsTo.hin N 60 [⟨4, 3, .bool true, H⟩] fun kf hk => ⟨_, by kernel_rfl, (oB H (decide_eq_true g0) .nil)⟩
theorem rt_e_1 (N : Nat) (n : Int) (lc : List HV) (x w : Int) (H : Heap) (tb k nbk m : Nat) (i : Nat)(g0 : ¬ ((i : Int) < (m : Int))) : RunsTo Try.prog polN 57 (sub [1, 1, 1, 0, 1, 0, 0, 0] B57) (env57 (.i n) (.imm .arg 2 lc) (.i x) (.i w) (.i 0) (.sl tb 0 k none k 1) (.sl nbk 0 m none m 1) (.i (i : Int)) .undef .undef .undef .undef .undef) H (.exit 0) (polN.keys 57) (env57 (.i n) (.imm .arg 2 lc) (.i x) (.i w) (.i 0) (.sl tb 0 k none k 1) (.sl nbk 0 m none m 1) (.i (i : Int)) .undef .undef .undef .undef .undef) H :=
  RunsTo.hin N 60 [⟨4, 3, .bool false, H⟩] fun kf hk => ⟨_, by kernel_rfl, (oB H (decide_eq_false g0) .nil)⟩
theorem rt_f_0 (N : Nat) (n : Int) (lc : List HV) (x w : Int) (H : Heap) (tb k nbk m : Nat) (i : Nat) (x0 : Int) (g0 : idxV Try.prog 24 (.sl nbk 0 m none m 1) (.i (i : Int)) = some (.ptr nbk i 0 m)) (g1 : loadV Try.prog H 3 (.ptr nbk i 0 m) = some (.i x0)) (g2 : x0 = w) : RunsTo Try.prog polN 57 (sub [1, 1, 1, 0, 1, 0, 0, 1, 0, 0, 0] B57) (env57 (.i n) (.imm .arg 2 lc) (.i x) (.i w) (.i 0) (.sl tb 0 k none k 1) (.sl nbk 0 m none m 1) (.i (i : Int)) .undef .undef .undef .undef .undef) H (.exit 1) (polN.keys 57) (env57 (.i n) (.imm .arg 2 lc) (.i x) (.i w) (.i 0) (.sl tb 0 k none k 1) (.sl nbk 0 m none m 1) (.i (i : Int)) .undef .undef .undef .undef .undef) H :=
  RunsTo.hin N 60 [⟨6, 2, .ptr nbk i 0 m, H⟩, ⟨6, 3, .i x0, H⟩, ⟨6, 5, .bool true, H⟩] fun kf hk => ⟨_, by kernel_rfl, (oP H g0 (oP H g1 (oB H (decide_eq_true g2) .nil)))⟩
theorem rt_f_1 (N : Nat) (n : Int) (lc : List HV) (x w : Int) (H : Heap) (tb k nbk m : Nat) (i : Nat) (x0 : Int) (g0 : idxV Try.prog 24 (.sl nbk 0 m none m 1) (.i (i : Int)) = some (.ptr nbk i 0 m)) (g1 : loadV Try.prog H 3 (.ptr nbk i 0 m) = some (.i x0)) (g2 : ¬ (x0 = w)) : RunsTo Try.prog polN 57 (sub [1, 1, 1, 0, 1, 0, 0, 1, 0, 0, 0] B57) (env57 (.i n) (.imm .arg 2 lc) (.i x) (.i w) (.i 0) (.sl tb 0 k none k 1) (.sl nbk 0 m none m 1) (.i (i : Int)) .undef .undef .undef .undef .undef) H .normal (polN.keys 57) (env57 (.i n) (.imm .arg 2 lc) (.i x) (.i w) (.i 0) (.sl tb 0 k none k 1) (.sl nbk 0 m none m 1) (.i (i : Int)) .undef .undef .undef .undef .undef) H :=
  RunsTo.hin N 60 [⟨6, 2, .ptr nbk i 0 m, H⟩, ⟨6, 3, .i x0, H⟩, ⟨6, 5, .bool false, H⟩] fun kf hk => ⟨_, by kernel_rfl, (oP H g0 (oP H g1 (oB H (decide_eq_false g2) .nil)))⟩
theorem rt_g_0 (N : Nat) (n : Int) (lc : List HV) (x w : Int) (H : Heap) (tb k nbk m : Nat) (i : Nat) (x0 : Int) (t : Int) (H0 : Heap) (g0 : idxV Try.prog 24 (.sl nbk 0 m none m 1) (.i (i : Int)) = some (.ptr nbk i 0 m)) (g1 : loadV Try.prog H 3 (.ptr nbk i 0 m) = some (.i x0)) (g2 : ∀ kf, N ≤ kf → callN Try.prog polN (kf + 1) 57 [.i n, .imm .arg 2 lc, .i x0, .i x] H = some (.i t, H0)) : RunsTo Try.prog polN 57 (sub [1, 1, 1, 0, 1, 0, 0, 1, 0, 0, 1, 0] B57) (env57 (.i n) (.imm .arg 2 lc) (.i x) (.i w) (.i 0) (.sl tb 0 k none k 1) (.sl nbk 0 m none m 1) (.i (i : Int)) .undef .undef .undef .undef .undef) H .normal (polN.keys 57) (env57 (.i n) (.imm .arg 2 lc) (.i x) (.i w) (.i 0) (.sl tb 0 k none k 1) (.sl nbk 0 m none m 1) (.i (i : Int)) (.i t) .undef .undef .undef .undef) H0 :=
  RunsTo.hin N 60 [⟨7, 4, .ptr nbk i 0 m, H⟩, ⟨7, 5, .i x0, H⟩, ⟨7, 7, .i t, H0⟩] fun kf hk => ⟨_, by kernel_rfl, (oP H g0 (oP H g1 (oC (g2 kf (by omega)) .nil)))⟩
theorem rt_h_0 (N : Nat) (n : Int) (lc : List HV) (x w : Int) (H : Heap) (tb k nbk m : Nat) (i : Nat) (q : Int) : RunsTo Try.prog polN 57 (sub [1, 1, 1, 0, 1, 0, 0, 1, 0, 0, 1, 1, 0] B57) (env57 (.i n) (.imm .arg 2 lc) (.i x) (.i w) (.i 0) (.sl tb 0 k none k 1) (.sl nbk 0 m none m 1) (.i (i : Int)) (.i q) .undef .undef .undef .undef) H .normal (polN.keys 57) (env57 (.i n) (.imm .arg 2 lc) (.i x) (.i w) (.i 0) (.sl tb 0 k none k 1) (.sl nbk 0 m none m 1) (.i (i : Int)) (.i q) (.i 0) .undef .undef .undef) H :=
  RunsTo.hin N 60 [] fun kf hk => ⟨_, by kernel_rfl, .nil⟩
theorem rt_l_0 (N : Nat) (n : Int) (lc : List HV) (x w : Int) (H : Heap) (tb k nbk m : Nat) (i : Nat) (q : Int) (j : Nat) (x0 : Int) (g0 : (j : Int) < (k : Int)) (g1 : idxV Try.prog 24 (.sl tb 0 k none k 1) (.i (j : Int)) = some (.ptr tb j 0 k)) (g2 : loadV Try.prog H 3 (.ptr tb j 0 k) = some (.i x0)) (g3 : q ≤ x0) : RunsTo Try.prog polN 57 (sub [1, 1, 1, 0, 1, 0, 0, 1, 0, 0, 1, 1, 1, 0, 0, 0] B57) (env57 (.i n) (.imm .arg 2 lc) (.i x) (.i w) (.i 0) (.sl tb 0 k none k 1) (.sl nbk 0 m none m 1) (.i (i : Int)) (.i q) (.i (j : Int)) .undef .undef .undef) H .normal (polN.keys 57) (env57 (.i n) (.imm .arg 2 lc) (.i x) (.i w) (.i 0) (.sl tb 0 k none k 1) (.sl nbk 0 m none m 1) (.i (i : Int)) (.i q) (.i (IntKind.i64.wrap ((j : Int) + 1))) .undef .undef .undef) H :=
  RunsTo.hin N 60 [⟨9, 3, .bool true, H⟩, ⟨9, 7, .ptr tb j 0 k, H⟩, ⟨9, 8, .i x0, H⟩, ⟨9, 10, .bool true, H⟩] fun kf hk => ⟨_, by kernel_rfl, (oB H (decide_eq_true g0) (oP H g1 (oP H g2 (oB H (decide_eq_true g3) .nil))))⟩
theorem rt_l_1 (N : Nat) (n : Int) (lc : List HV) (x w : Int) (H : Heap) (tb k nbk m : Nat) (i : Nat) (q : Int) (j : Nat) (x0 : Int) (g0 : (j : Int) < (k : Int)) (g1 : idxV Try.prog 24 (.sl tb 0 k none k 1) (.i (j : Int)) = some (.ptr tb j 0 k)) (g2 : loadV Try.prog H 3 (.ptr tb j 0 k) = some (.i x0)) (g3 : ¬ (q ≤ x0)) : RunsTo Try.prog polN 57 (sub [1, 1, 1, 0, 1, 0, 0, 1, 0, 0, 1, 1, 1, 0, 0, 0] B57) (env57 (.i n) (.imm .arg 2 lc) (.i x) (.i w) (.i 0) (.sl tb 0 k none k 1) (.sl nbk 0 m none m 1) (.i (i : Int)) (.i q) (.i (j : Int)) .undef .undef .undef) H (.exit 2) (polN.keys 57) (env57 (.i n) (.imm .arg 2 lc) (.i x) (.i w) (.i 0) (.sl tb 0 k none k 1) (.sl nbk 0 m none m 1) (.i (i : Int)) (.i q) (.i (j : Int)) .undef .undef .undef) H :=
  RunsTo.hin N 60 [⟨9, 3, .bool true, H⟩, ⟨9, 7, .ptr tb j 0 k, H⟩, ⟨9, 8, .i x0, H⟩, ⟨9, 10, .bool false, H⟩] fun kf hk => ⟨_, by kernel_rfl, (oB H (decide_eq_true g0) (oP H g1 (oP H g2 (oB H (decide_eq_false g3) .nil))))⟩
theorem rt_l_2 (N : Nat) (n : Int) (lc : List HV) (x w : Int) (H : Heap) (tb k nbk m : Nat) (i : Nat) (q : Int) (j : Nat)(g0 : ¬ ((j : Int) < (k : Int))) : RunsTo Try.prog polN 57 (sub [1, 1, 1, 0, 1, 0, 0, 1, 0, 0, 1, 1, 1, 0, 0, 0] B57) (env57 (.i n) (.imm .arg 2 lc) (.i x) (.i w) (.i 0) (.sl tb 0 k none k 1) (.sl nbk 0 m none m 1) (.i (i : Int)) (.i q) (.i (j : Int)) .undef .undef .undef) H (.exit 2) (polN.keys 57) (env57 (.i n) (.imm .arg 2 lc) (.i x) (.i w) (.i 0) (.sl tb 0 k none k 1) (.sl nbk 0 m none m 1) (.i (i : Int)) (.i q) (.i (j : Int)) .undef .undef .undef) H :=
  RunsTo.hin N 60 [⟨9, 3, .bool false, H⟩] fun kf hk => ⟨_, by kernel_rfl, (oB H (decide_eq_false g0) .nil)⟩
theorem rt_m_0 (N : Nat) (n : Int) (lc : List HV) (x w : Int) (H : Heap) (tb k nbk m : Nat) (i : Nat) (q : Int) (j : Nat) (nb2 : Nat) (H0 : Heap) (H1 : Heap) (H2 : Heap) (H3 : Heap) (g0 : some (HV.sl H.length 0 0 none 0 1, H ++ [Blk.arr 1 [] true 0]) = some (.sl nb2 0 0 none 0 1, H0)) (g1 : sliceV Try.prog 24 (.sl tb 0 k none k 1) none (some (.i (j : Int))) none = some (.sl tb 0 j none k 1)) (g2 : builtinV Try.prog .append [24, 24] [.sl nb2 0 0 none 0 1, .sl tb 0 j none k 1] H0 = some (.sl nb2 0 j none j 1, H1)) (g3 : appV H1 1 8 (.sl nb2 0 j none j 1) [.i q] = some (.sl nb2 0 (j + 1) none (j + 1) 1, H2)) (g4 : sliceV Try.prog 24 (.sl tb 0 k none k 1) (some (.i (j : Int))) none none = some (.sl tb j (k - j) none k 1)) (g5 : builtinV Try.prog .append [24, 24] [.sl nb2 0 (j + 1) none (j + 1) 1, .sl tb j (k - j) none k 1] H2 = some (.sl nb2 0 (k + 1) none (k + 1) 1, H3)) : RunsTo Try.prog polN 57 (sub [1, 1, 1, 0, 1, 0, 0, 1, 0, 0, 1, 1, 1, 1] B57) (env57 (.i n) (.imm .arg 2 lc) (.i x) (.i w) (.i 0) (.sl tb 0 k none k 1) (.sl nbk 0 m none m 1) (.i (i : Int)) (.i q) (.i (j : Int)) .undef .undef .undef) H .normal (polN.keys 57) (env57 (.i n) (.imm .arg 2 lc) (.i x) (.i w) (.i 0) (.sl nb2 0 (k + 1) none (k + 1) 1) (.sl nbk 0 m none m 1) (.i (i : Int)) (.i q) (.i (j : Int)) (.sl nb2 0 (j + 1) none (j + 1) 1) .undef .undef) H3 :=
  RunsTo.hin N 60 [⟨11, 0, .sl nb2 0 0 none 0 1, H0⟩, ⟨12, 3, .sl tb 0 j none k 1, H0⟩, ⟨12, 4, .sl nb2 0 j none j 1, H1⟩, ⟨13, 3, .sl nb2 0 (j + 1) none (j + 1) 1, H2⟩, ⟨14, 3, .sl tb j (k - j) none k 1, H2⟩, ⟨14, 4, .sl nb2 0 (k + 1) none (k + 1) 1, H3⟩] fun kf hk => ⟨_, by kernel_rfl, (oC (g0) (oP H0 g1 (oC (g2) (oC (g3) (oP H2 g4 (oC (g5) .nil))))))⟩
theorem rt_n_0 (N : Nat) (n : Int) (lc : List HV) (x w : Int) (H : Heap) (tb k nbk m : Nat) (i : Nat) (x12 x13 x14 : HV) : RunsTo Try.prog polN 57 (sub [1, 1, 1, 0, 1, 0, 0, 1, 1] B57) (env57 (.i n) (.imm .arg 2 lc) (.i x) (.i w) (.i 0) (.sl tb 0 k none k 1) (.sl nbk 0 m none m 1) (.i (i : Int)) x12 x13 x14 .undef .undef) H .normal (polN.keys 57) (env57 (.i n) (.imm .arg 2 lc) (.i x) (.i w) (.i 0) (.sl tb 0 k none k 1) (.sl nbk 0 m none m 1) (.i (IntKind.i64.wrap ((i : Int) + 1))) x12 x13 x14 .undef .undef) H :=
  RunsTo.hin N 60 [] fun kf hk => ⟨_, by kernel_rfl, .nil⟩
theorem rt_o_0 (N : Nat) (n : Int) (lc : List HV) (x w : Int) (H : Heap) (tb k nbk m : Nat) (x11 : HV) : RunsTo Try.prog polN 57 (sub [1, 1, 1, 1, 0] B57) (env57 (.i n) (.imm .arg 2 lc) (.i x) (.i w) (.i 0) (.sl tb 0 k none k 1) (.sl nbk 0 m none m 1) x11 .undef .undef .undef .undef .undef) H .normal (polN.keys 57) (env57 (.i n) (.imm .arg 2 lc) (.i x) (.i w) (.i 0) (.sl tb 0 k none k 1) (.sl nbk 0 m none m 1) x11 .undef .undef .undef (.i 0) .undef) H :=
  RunsTo.hin N 60 [] fun kf hk => ⟨_, by kernel_rfl, .nil⟩
theorem rt_p_0 (N : Nat) (n : Int) (lc : List HV) (x w : Int) (H : Heap) (tb k nbk m : Nat) (x11 : HV) (bx : Int) : RunsTo Try.prog polN 57 (sub [1, 1, 1, 1, 1, 0, 0] B57) (env57 (.i n) (.imm .arg 2 lc) (.i x) (.i w) (.i 0) (.sl tb 0 k none k 1) (.sl nbk 0 m none m 1) x11 .undef .undef .undef (.i bx) .undef) H .normal (polN.keys 57) (env57 (.i n) (.imm .arg 2 lc) (.i x) (.i w) (.i 0) (.sl tb 0 k none k 1) (.sl nbk 0 m none m 1) x11 .undef .undef .undef (.i bx) (.i 0)) H :=
  RunsTo.hin N 60 [] fun kf hk => ⟨_, by kernel_rfl, .nil⟩
theorem rt_q_0 (N : Nat) (n : Int) (lc : List HV) (x w : Int) (H : Heap) (tb k i : Nat) (bx : Int) (x0 : Int) (g0 : (i : Int) < (k : Int)) (g1 : idxV Try.prog 24 (.sl tb 0 k none k 1) (.i (i : Int)) = some (.ptr tb i 0 k)) (g2 : loadV Try.prog H 3 (.ptr tb i 0 k) = some (.i x0)) : RunsTo Try.prog polN 57 (sub [1, 1, 1, 1, 1, 0, 1, 0, 0] B57) (env57 (.i n) (.imm .arg 2 lc) (.i x) (.i w) (.i 0) (.sl tb 0 k none k 1) .undef .undef .undef .undef .undef (.i bx) (.i (i : Int))) H .normal (polN.keys 57) (env57 (.i n) (.imm .arg 2 lc) (.i x) (.i w) (.i 0) (.sl tb 0 k none k 1) .undef .undef .undef .undef .undef (.i (max bx (IntKind.i64.wrap (IntKind.i64.wrap ((i : Int) + 1) + x0)))) (.i (IntKind.i64.wrap ((i : Int) + 1)))) H :=
  RunsTo.hin N 60 [⟨17, 3, .bool true, H⟩, ⟨19, 5, .ptr tb i 0 k, H⟩, ⟨19, 6, .i x0, H⟩] fun kf hk => ⟨_, by kernel_rfl, (oB H (decide_eq_true g0) (oP H g1 (oP H g2 .nil)))⟩
theorem rt_q_1 (N : Nat) (n : Int) (lc : List HV) (x w : Int) (H : Heap) (tb k i : Nat) (bx : Int)(g0 : ¬ ((i : Int) < (k : Int))) : RunsTo Try.prog polN 57 (sub [1, 1, 1, 1, 1, 0, 1, 0, 0] B57) (env57 (.i n) (.imm .arg 2 lc) (.i x) (.i w) (.i 0) (.sl tb 0 k none k 1) .undef .undef .undef .undef .undef (.i bx) (.i (i : Int))) H (.exit 4) (polN.keys 57) (env57 (.i n) (.imm .arg 2 lc) (.i x) (.i w) (.i 0) (.sl tb 0 k none k 1) .undef .undef .undef .undef .undef (.i bx) (.i (i : Int))) H :=
  RunsTo.hin N 60 [⟨17, 3, .bool false, H⟩] fun kf hk => ⟨_, by kernel_rfl, (oB H (decide_eq_false g0) .nil)⟩
theorem rt_z_0 (N : Nat) (n : Int) (lc : List HV) (x w : Int) (H : Heap) (tb k i : Nat) (bx : Int) : RunsTo Try.prog polN 57 (sub [1, 1, 1, 1, 1, 1] B57) (env57 (.i n) (.imm .arg 2 lc) (.i x) (.i w) (.i 0) (.sl tb 0 k none k 1) .undef .undef .undef .undef .undef (.i bx) (.i (i : Int))) H .ret (polN.keys 57) (env57 (.i n) (.imm .arg 2 lc) (.i x) (.i w) (.i bx) (.sl tb 0 k none k 1) .undef .undef .undef .undef .undef (.i bx) (.i (i : Int))) H :=
  RunsTo.hin N 60 [] fun kf hk => ⟨_, by kernel_rfl, .nil⟩
end Go.Proofs.Ytmhfkhlamnapdaa
end
section
open Go Go.HL
namespace Go.Proofs.Ytmhfkhlamnapdaa
set_option maxRecDepth 100000
noncomputable def B64 : Code := Try.f64.body.getD .skip
abbrev env64 (v0 v1 v2 v4 : HV) : Env := [(0, v0), (1, v1), (2, v2), (4, v4)]
theorem by_a_0 (N : Nat) (u v : Int) (tb vb : Nat) (tv : HV) (H : Heap) (t0 : Int) (H0 : Heap) (g0 : loadV Try.prog H 72 (.ptr tb 0 0 1) = some (tv)) (g1 : loadV Try.prog H 3 (.ptr vb 0 0 1) = some (.i v)) (g2 : ∀ kf, N ≤ kf → callN Try.prog polS (kf + 1) 47 [tv, .i u, .i v] H = some (.i t0, H0)) : RunsTo Try.prog polS 64 (sub [] B64) [(0, .i u), (1, .ptr tb 0 0 1), (2, .ptr vb 0 0 1)] H .ret (polS.keys 64) (env64 (.i u) (.ptr tb 0 0 1) (.ptr vb 0 0 1) (.i t0)) H0 :=
  RunsTo.hin N 60 [⟨1, 0, tv, H⟩, ⟨1, 2, .i v, H⟩, ⟨1, 3, .i t0, H0⟩] fun kf hk => ⟨_, by kernel_rfl, (oP H g0 (oP H g1 (oC (g2 kf (by omega)) .nil)))⟩
end Go.Proofs.Ytmhfkhlamnapdaa
end
section
open Go Go.HL
namespace Go.Proofs.Ytmhfkhlamnapdaa
set_option maxRecDepth 100000
noncomputable def B67 : Code := Try.f67.body.getD .skip
abbrev env67 (v0 v1 v2 v5 : HV) : Env := [(0, v0), (1, v1), (2, v2), (5, v5)]
theorem cmq_a_0 (N : Nat) (x y : Int) (fb tb vb : Nat) (H : Heap) (t0 : Int) (H0 : Heap) (t1 : Int) (H1 : Heap) (c0 : Int) (H2 : Heap) (g0 : loadV Try.prog H 62 (.ptr fb 0 0 1) = some (.func 64 [] [.ptr tb 0 0 1, .ptr vb 0 0 1])) (g1 : ∀ kf, N ≤ kf → callN Try.prog polS (kf + 1) 64 [.i y, .ptr tb 0 0 1, .ptr vb 0 0 1] H = some (.i t0, H0)) (g2 : loadV Try.prog H0 62 (.ptr fb 0 0 1) = some (.func 64 [] [.ptr tb 0 0 1, .ptr vb 0 0 1])) (g3 : ∀ kf, N ≤ kf → callN Try.prog polS (kf + 1) 64 [.i x, .ptr tb 0 0 1, .ptr vb 0 0 1] H0 = some (.i t1, H1)) (g4 : ∀ kf, callN Try.prog polS (kf + 1) 68 [.i t0, .i t1] H1 = some (.i c0, H2)) (gS1 : (recL ((loadV Try.prog H0 62 (.ptr fb 0 0 1)).map (fun v => (v, (H0 : Heap)))) ((loadV Try.prog H 62 (.ptr fb 0 0 1)).map (fun v => (v, (H : Heap)))) H0 H && true) = true) : RunsTo Try.prog polS 67 (sub [] B67) [(0, .i x), (1, .i y), (2, .ptr fb 0 0 1)] H .ret (polS.keys 67) (env67 (.i x) (.i y) (.ptr fb 0 0 1) (.i c0)) H2 :=
  RunsTo.hin N 60 [⟨1, 0, .func 64 [] [.ptr tb 0 0 1, .ptr vb 0 0 1], H⟩, ⟨1, 2, .i t0, H0⟩, ⟨1, 3, .func 64 [] [.ptr tb 0 0 1, .ptr vb 0 0 1], H0⟩, ⟨1, 5, .i t1, H1⟩, ⟨1, 6, .i c0, H2⟩] fun kf hk => ⟨_, by kernel_rfl, (oC (gS1) (oP H g0 (oC (g1 kf (by omega)) (oP H0 g2 (oC (g3 kf (by omega)) (oC (g4 kf) .nil))))))⟩
end Go.Proofs.Ytmhfkhlamnapdaa
end
section
open Go Go.HL
namespace Go.Proofs.Ytmhfkhlamnapdaa
theorem i62t : (Try.prog.underlying 62).isSome = true := by kernel_rfl
theorem a62t : tyAgg Try.prog 62 = false := by kernel_rfl
theorem a70t : tyAgg Try.prog 70 = false := by kernel_rfl
theorem i70t : (Try.prog.underlying 70).isSome = true := by kernel_rfl
theorem a55t : tyAgg Try.prog 55 = false := by kernel_rfl
theorem i55t : (Try.prog.underlying 55).isSome = true := by kernel_rfl
abbrev TV (n : Nat) : HV := .agg [.sl 0 0 n none n 1, .map 1]
abbrev boxT (n : Nat) : Blk := .arr 2 [TV n] true 2
abbrev boxI (v : Int) : Blk := .arr 1 [.int .i64 v] true 0
abbrev boxF (tb vb : Nat) : Blk := .arr 1 [.func 64 [] [.ptr tb 0 0 1, .ptr vb 0 0 1]] true (max (tb + 1) (vb + 1))
theorem ld_T {H : Heap} {b n : Nat} (h : H[b]? = some (boxT n)) : loadV Try.prog H 72 (.ptr b 0 0 1) = some (TV n) := load_agg h rfl rfl a72 s72
theorem ld_m {H : Heap} {b n : Nat} (h : H[b]? = some (boxT n)) : loadV Try.prog H 70 (.ptr b 0 1 1) = some (.map 1) := load_cell h rfl rfl a70t i70t rfl
theorem ld_n {H : Heap} {b n : Nat} (h : H[b]? = some (boxT n)) : loadV Try.prog H 55 (.ptr b 0 0 1) = some (.sl 0 0 n none n 1) := load_cell h rfl rfl a55t i55t rfl
theorem ld_I {H : Heap} {b : Nat} {v : Int} (h : H[b]? = some (boxI v)) : loadV Try.prog H 3 (.ptr b 0 0 1) = some (.int .i64 v) := load_elem h rfl rfl rfl a3b i3b
theorem ld_F {H : Heap} {b tb vb : Nat} (h : H[b]? = some (boxF tb vb)) : loadV Try.prog H 62 (.ptr b 0 0 1) = some (.func 64 [] [.ptr tb 0 0 1, .ptr vb 0 0 1]) := load_elem h rfl rfl rfl a62t i62t
theorem same_T (n : Nat) : sameH [boxT n] [boxT n] = true := by simp [sameH, sameL, same]
theorem same_I (v : Int) : sameH [boxI v] [boxI v] = true := by simp [sameH, sameL, same]
theorem same_F (tb vb : Nat) : sameH [boxF tb vb] [boxF tb vb] = true := by simp [sameH, sameL, same]
def TimeOk (adj : List (List Nat)) (T : Int → Int → Int) (n : Nat) (v w : Int) : Prop :=
  ∀ H, Mem adj T H → ∃ H', Cl 47 [TV n, .int .i64 v, .int .i64 w] H (.int .i64 (T v w)) H' ∧ Gr adj T H H'
theorem res64 : Try.f64.results.toList = [.tmp 4] := by kernel_rfl
theorem res67 : Try.f67.results.toList = [.tmp 5] := by kernel_rfl
section
variable {adj : List (List Nat)} {T : Int → Int → Int} {n : Nat}
theorem by_call {H : Heap} {u v : Int} {tb vb : Nat} (hM : Mem adj T H) (ht : H[tb]? = some (boxT n)) (hv : H[vb]? = some (boxI v)) (hT : TimeOk adj T n u v) :
    ∃ H', Cl 64 [.int .i64 u, .ptr tb 0 0 1, .ptr vb 0 0 1] H (.int .i64 (T u v)) H' ∧ Mem adj T H' ∧ Fr H H' := by
  obtain ⟨H1, hcl, hG⟩ := hT H hM
  obtain ⟨N, hN⟩ := hcl.from
  have t := by_a_0 N u v tb vb (TV n) H (T u v) H1 (ld_T ht) (ld_I hv) hN
  have hcl := CallsTo.shared (P := Try.prog) (pol := polS) (g := 64) (fn := Try.f64) (cd := B64) (args := [.int .i64 u, .ptr tb 0 0 1, .ptr vb 0 0 1]) (v := .int .i64 (T u v)) (by kernel_rfl) (by kernel_rfl) (by kernel_rfl) (by kernel_rfl) t (by kernel_rfl) (by simp) (by simp only [resultsV, res64, mapO, resultV]; rfl)
  obtain ⟨h1, h2⟩ := hG.fr hM.two (r := 0) (by omega)
  exact ⟨_, hcl, h1, h2⟩
end
section
variable {adj : List (List Nat)} {T : Int → Int → Int} {n : Nat}
structure KOk (adj : List (List Nat)) (T : Int → Int → Int) (n : Nat) (v : Int) (tb vb fb : Nat) (H : Heap) : Prop where
  mem : Mem adj T H
  t : H[tb]? = some (boxT n)
  v : H[vb]? = some (boxI v)
  f : H[fb]? = some (boxF tb vb)
end
section
variable {adj : List (List Nat)} {T : Int → Int → Int} {n : Nat}
theorem KOk.fr {v : Int} {tb vb fb : Nat} {H H' : Heap} (h : KOk adj T n v tb vb fb H) (hb : tb ≠ 1 ∧ vb ≠ 1 ∧ fb ≠ 1) (hM : Mem adj T H') (hF : Fr H H') : KOk adj T n v tb vb fb H' :=
  ⟨hM, by rw [hF.same _ hb.1]; exact h.t, by rw [hF.same _ hb.2.1]; exact h.v, by rw [hF.same _ hb.2.2]; exact h.f⟩
end
section
variable {adj : List (List Nat)} {T : Int → Int → Int} {n : Nat}
theorem c68 (a b : Int) (H : Heap) : ∀ kf, callN Try.prog polS (kf + 1) 68 [.int .i64 a, .int .i64 b] H = some (.int .i64 (cmpI a b), H) := fun kf => by
  rw [prim_call (pol := polS) (g := 68) (F := compare68) (by kernel_rfl) (rs := [.int .i64 a, .int .i64 b]) rfl (res := .int .i64 (cmpI a b)) rfl]; rfl
end
section
variable {adj : List (List Nat)} {T : Int → Int → Int} {n : Nat}
theorem cmp_call {H : Heap} {v x y : Int} {tb vb fb : Nat} (hb : tb ≠ 1 ∧ vb ≠ 1 ∧ fb ≠ 1) (h : KOk adj T n v tb vb fb H) (hx : TimeOk adj T n x v) (hy : TimeOk adj T n y v) :
    ∃ H', Cl 67 [.int .i64 x, .int .i64 y, .ptr fb 0 0 1] H (.int .i64 (cmpI (T y v) (T x v))) H' ∧ KOk adj T n v tb vb fb H' ∧ Fr H H' := by
  obtain ⟨H1, c1, hM1, hF1⟩ := by_call h.mem h.t h.v hy
  obtain ⟨N1, hN1⟩ := c1.from
  have h1 := h.fr hb hM1 hF1
  obtain ⟨H2, c2, hM2, hF2⟩ := by_call h1.mem h1.t h1.v hx
  obtain ⟨N2, hN2⟩ := c2.from
  have h2 := h1.fr hb hM2 hF2
  have r0 := h.mem.rf
  have r1 := hM1.rf
  have gS : (recL ((loadV Try.prog H1 62 (.ptr fb 0 0 1)).map (fun v => (v, (H1 : Heap)))) ((loadV Try.prog H 62 (.ptr fb 0 0 1)).map (fun v => (v, (H : Heap)))) H1 H && true) = true := by
    have l1 := ld_F h1.f
    have l0 := ld_F h.f
    simp only [l1, l0, Option.map, recL, same, sameL, r0, r1, beq_self_eq_true, Bool.and_self]
  have t := cmq_a_0 (max N1 N2) x y fb tb vb H (T y v) H1 (T x v) H2 (cmpI (T y v) (T x v)) H2 (ld_F h.f) (fun kf hk => hN1 kf (by omega)) (ld_F h1.f) (fun kf hk => hN2 kf (by omega)) (c68 _ _ _) gS
  have hcl := CallsTo.shared (P := Try.prog) (pol := polS) (g := 67) (fn := Try.f67) (cd := B67) (args := [.int .i64 x, .int .i64 y, .ptr fb 0 0 1]) (v := .int .i64 (cmpI (T y v) (T x v))) (by kernel_rfl) (by kernel_rfl) (by kernel_rfl) (by kernel_rfl) t (by kernel_rfl) (by simp) (by simp only [resultsV, res67, mapO, resultV]; rfl)
  have hF := hF1.trans hF2
  rw [gc_eq _ hF.len] at hcl
  exact ⟨_, hcl, h2, hF⟩
end
section
variable {adj : List (List Nat)} {T : Int → Int → Int} {n : Nat}
theorem cmp_ok {v : Int} {tb vb fb db : Nat} {dom : Int → Prop} (hb : tb ≠ 1 ∧ vb ≠ 1 ∧ fb ≠ 1) (hd : 2 ≤ db ∧ db ≠ tb ∧ db ≠ vb ∧ db ≠ fb) (hT : ∀ u, dom u → TimeOk adj T n u v) : Cmp db (.ptr fb 0 0 1) (fun u => T u v) dom (KOk adj T n v tb vb fb) where
  one := by omega
  call H x y hK hx hy := by
    obtain ⟨H', h1, h2, h3⟩ := cmp_call hb hK (hT x hx) (hT y hy)
    refine ⟨_, H', h1, ?_, h2, h3⟩
    unfold cmpI
    split
    · simp; assumption
    · split <;> simp <;> omega
  put H l l' hK hl hlen := by
    refine ⟨hK.mem.set hd.1 ?_ (Nat.zero_le _), ?_, ?_, ?_⟩
    · exact same_arr fun v hv => by
        obtain ⟨k, _, rfl⟩ := List.mem_map.1 hv
        simp [encI, same]
    · rw [List.getElem?_set_ne hd.2.1]; exact hK.t
    · rw [List.getElem?_set_ne hd.2.2.1]; exact hK.v
    · rw [List.getElem?_set_ne hd.2.2.2]; exact hK.f
end
end Go.Proofs.Ytmhfkhlamnapdaa
end
section
open Go Go.HL
namespace Go.Proofs.Ytmhfkhlamnapdaa
set_option maxRecDepth 100000
noncomputable def B62 : Code := Try.f62.body.getD .skip
abbrev env62 (v0 v1 v3 : HV) : Env := [(0, v0), (1, v1), (3, v3)]
theorem eq_a_0 (u : Int) (fb : Nat) (w : Int) (H : Heap)(g0 : loadV Try.prog H 3 (.ptr fb 0 0 1) = some (.i w)) (g1 : u = w) : RunsTo Try.prog polS 62 (sub [] B62) [(0, .i u), (1, .ptr fb 0 0 1)] H .ret (polS.keys 62) (env62 (.i u) (.ptr fb 0 0 1) (.bool true)) H :=
  RunsTo.hin 0 60 [⟨1, 1, .i w, H⟩, ⟨1, 2, .bool true, H⟩] fun kf hk => ⟨_, by kernel_rfl, (oP H g0 (oB H (decide_eq_true g1) .nil))⟩
theorem eq_a_1 (u : Int) (fb : Nat) (w : Int) (H : Heap)(g0 : loadV Try.prog H 3 (.ptr fb 0 0 1) = some (.i w)) (g1 : ¬ (u = w)) : RunsTo Try.prog polS 62 (sub [] B62) [(0, .i u), (1, .ptr fb 0 0 1)] H .ret (polS.keys 62) (env62 (.i u) (.ptr fb 0 0 1) (.bool false)) H :=
  RunsTo.hin 0 60 [⟨1, 1, .i w, H⟩, ⟨1, 2, .bool false, H⟩] fun kf hk => ⟨_, by kernel_rfl, (oP H g0 (oB H (decide_eq_false g1) .nil))⟩
end Go.Proofs.Ytmhfkhlamnapdaa
end
section
open Go Go.HL
namespace Go.Proofs.Ytmhfkhlamnapdaa
set_option maxRecDepth 100000
noncomputable def B65 : Code := Try.f65.body.getD .skip
abbrev env65 (v0 v1 v4 v5 v7 v8 : HV) : Env := [(0, v0), (1, v1), (4, v4), (5, v5), (7, v7), (8, v8)]
theorem ifx_a_0 (N : Nat) (db n fb : Nat) (H : Heap) : RunsTo Try.prog polS 65 (sub [0] B65) [(0, .sl db 0 n none n 1), (1, .func 62 [] [.ptr fb 0 0 1])] H .normal (polS.keys 65) (env65 (.sl db 0 n none n 1) (.func 62 [] [.ptr fb 0 0 1]) (.i 0) .undef .undef .undef) H :=
  RunsTo.hin N 60 [] fun kf hk => ⟨_, by kernel_rfl, .nil⟩
theorem ifx_b_0 (N : Nat) (db n fb : Nat) (H : Heap) : RunsTo Try.prog polS 65 (sub [1, 0, 0] B65) (env65 (.sl db 0 n none n 1) (.func 62 [] [.ptr fb 0 0 1]) (.i 0) .undef .undef .undef) H .normal (polS.keys 65) (env65 (.sl db 0 n none n 1) (.func 62 [] [.ptr fb 0 0 1]) (.i 0) .undef (.i (n : Int)) (.i 0)) H :=
  RunsTo.hin N 60 [] fun kf hk => ⟨_, by kernel_rfl, .nil⟩
theorem ifx_l_0 (N : Nat) (db n fb : Nat) (H : Heap) (i : Nat) (x0 : Int) (H0 : Heap) (g0 : (i : Int) < (n : Int)) (g1 : idxV Try.prog 24 (.sl db 0 n none n 1) (.i (i : Int)) = some (.ptr db i 0 n)) (g2 : loadV Try.prog H 3 (.ptr db i 0 n) = some (.i x0)) (g3 : ∀ kf, N ≤ kf → callN Try.prog polS (kf + 1) 62 [.i x0, .ptr fb 0 0 1] H = some (.bool true, H0)) : RunsTo Try.prog polS 65 (sub [1, 0, 1, 0, 0] B65) (env65 (.sl db 0 n none n 1) (.func 62 [] [.ptr fb 0 0 1]) (.i 0) .undef (.i (n : Int)) (.i (i : Int))) H .ret (polS.keys 65) (env65 (.sl db 0 n none n 1) (.func 62 [] [.ptr fb 0 0 1]) (.i (i : Int)) (.i (i : Int)) (.i (n : Int)) (.i (i : Int))) H0 :=
  RunsTo.hin N 60 [⟨2, 0, .bool true, H⟩, ⟨4, 3, .ptr db i 0 n, H⟩, ⟨4, 4, .i x0, H⟩, ⟨4, 5, .bool true, H0⟩] fun kf hk => ⟨_, by kernel_rfl, (oB H (decide_eq_true g0) (oP H g1 (oP H g2 (oC (g3 kf (by omega)) .nil))))⟩
theorem ifx_l_1 (N : Nat) (db n fb : Nat) (H : Heap) (i : Nat) (x0 : Int) (H0 : Heap) (g0 : (i : Int) < (n : Int)) (g1 : idxV Try.prog 24 (.sl db 0 n none n 1) (.i (i : Int)) = some (.ptr db i 0 n)) (g2 : loadV Try.prog H 3 (.ptr db i 0 n) = some (.i x0)) (g3 : ∀ kf, N ≤ kf → callN Try.prog polS (kf + 1) 62 [.i x0, .ptr fb 0 0 1] H = some (.bool false, H0)) : RunsTo Try.prog polS 65 (sub [1, 0, 1, 0, 0] B65) (env65 (.sl db 0 n none n 1) (.func 62 [] [.ptr fb 0 0 1]) (.i 0) .undef (.i (n : Int)) (.i (i : Int))) H .normal (polS.keys 65) (env65 (.sl db 0 n none n 1) (.func 62 [] [.ptr fb 0 0 1]) (.i 0) (.i (i : Int)) (.i (n : Int)) (.i (IntKind.i64.wrap ((i : Int) + 1)))) H0 :=
  RunsTo.hin N 60 [⟨2, 0, .bool true, H⟩, ⟨4, 3, .ptr db i 0 n, H⟩, ⟨4, 4, .i x0, H⟩, ⟨4, 5, .bool false, H0⟩] fun kf hk => ⟨_, by kernel_rfl, (oB H (decide_eq_true g0) (oP H g1 (oP H g2 (oC (g3 kf (by omega)) .nil))))⟩
theorem ifx_l_2 (N : Nat) (db n fb : Nat) (H : Heap) (i : Nat)(g0 : ¬ ((i : Int) < (n : Int))) : RunsTo Try.prog polS 65 (sub [1, 0, 1, 0, 0] B65) (env65 (.sl db 0 n none n 1) (.func 62 [] [.ptr fb 0 0 1]) (.i 0) .undef (.i (n : Int)) (.i (i : Int))) H (.exit 0) (polS.keys 65) (env65 (.sl db 0 n none n 1) (.func 62 [] [.ptr fb 0 0 1]) (.i 0) .undef (.i (n : Int)) (.i (i : Int))) H :=
  RunsTo.hin N 60 [⟨2, 0, .bool false, H⟩] fun kf hk => ⟨_, by kernel_rfl, (oB H (decide_eq_false g0) .nil)⟩
theorem ifx_z_0 (N : Nat) (db n fb : Nat) (H : Heap) (i : Nat) (x5 : HV) : RunsTo Try.prog polS 65 (sub [1, 1] B65) (env65 (.sl db 0 n none n 1) (.func 62 [] [.ptr fb 0 0 1]) (.i 0) x5 (.i (n : Int)) (.i (i : Int))) H .ret (polS.keys 65) (env65 (.sl db 0 n none n 1) (.func 62 [] [.ptr fb 0 0 1]) (.i (-1)) x5 (.i (n : Int)) (.i (i : Int))) H :=
  RunsTo.hin N 60 [] fun kf hk => ⟨_, by kernel_rfl, .nil⟩
end Go.Proofs.Ytmhfkhlamnapdaa
end
section
open Go Go.HL
namespace Go.Proofs.Ytmhfkhlamnapdaa
set_option maxRecDepth 100000
noncomputable def B60 : Code := Try.f60.body.getD .skip
abbrev env60 (v0 v1 v4 v5 v6 v7 : HV) : Env := [(0, v0), (1, v1), (4, v4), (5, v5), (6, v6), (7, v7)]
theorem df_a_0 (N : Nat) (db n fb : Nat) (H : Heap) : RunsTo Try.prog polS 60 (sub [0] B60) [(0, .sl db 0 n none n 1), (1, .func 62 [] [.ptr fb 0 0 1])] H .normal (polS.keys 60) (env60 (.sl db 0 n none n 1) (.func 62 [] [.ptr fb 0 0 1]) (.imm .lit 1 []) .undef .undef .undef) H :=
  RunsTo.hin N 60 [] fun kf hk => ⟨_, by kernel_rfl, .nil⟩
theorem df_b_0 (N : Nat) (db n fb : Nat) (H : Heap) (r : Int) (H0 : Heap) (g0 : ∀ kf, N ≤ kf → callN Try.prog polS (kf + 1) 65 [.sl db 0 n none n 1, .func 62 [] [.ptr fb 0 0 1]] H = some (.i r, H0)) : RunsTo Try.prog polS 60 (sub [1, 0] B60) (env60 (.sl db 0 n none n 1) (.func 62 [] [.ptr fb 0 0 1]) (.imm .lit 1 []) .undef .undef .undef) H .normal (polS.keys 60) (env60 (.sl db 0 n none n 1) (.func 62 [] [.ptr fb 0 0 1]) (.imm .lit 1 []) (.i r) .undef .undef) H0 :=
  RunsTo.hin N 60 [⟨1, 2, .i r, H0⟩] fun kf hk => ⟨_, by kernel_rfl, (oC (g0 kf (by omega)) .nil)⟩
theorem df_c_0 (N : Nat) (db n fb : Nat) (H : Heap) (i : Int)(g0 : i = (-1)) : RunsTo Try.prog polS 60 (sub [1, 1, 0] B60) (env60 (.sl db 0 n none n 1) (.func 62 [] [.ptr fb 0 0 1]) (.imm .lit 1 []) (.i i) .undef .undef) H .ret (polS.keys 60) (env60 (.sl db 0 n none n 1) (.func 62 [] [.ptr fb 0 0 1]) (.sl db 0 n none n 1) (.i i) .undef .undef) H :=
  RunsTo.hin N 60 [⟨2, 1, .bool true, H⟩] fun kf hk => ⟨_, by kernel_rfl, (oB H (decide_eq_true g0) .nil)⟩
theorem df_c_1 (N : Nat) (db n fb : Nat) (H : Heap) (i : Int)(g0 : ¬ (i = (-1))) : RunsTo Try.prog polS 60 (sub [1, 1, 0] B60) (env60 (.sl db 0 n none n 1) (.func 62 [] [.ptr fb 0 0 1]) (.imm .lit 1 []) (.i i) .undef .undef) H .normal (polS.keys 60) (env60 (.sl db 0 n none n 1) (.func 62 [] [.ptr fb 0 0 1]) (.imm .lit 1 []) (.i i) .undef .undef) H :=
  RunsTo.hin N 60 [⟨2, 1, .bool false, H⟩] fun kf hk => ⟨_, by kernel_rfl, (oB H (decide_eq_false g0) .nil)⟩
theorem df_d_0 (N : Nat) (db n fb : Nat) (H : Heap) (i : Nat) : RunsTo Try.prog polS 60 (sub [1, 1, 1, 0, 0] B60) (env60 (.sl db 0 n none n 1) (.func 62 [] [.ptr fb 0 0 1]) (.imm .lit 1 []) (.i (i : Int)) .undef .undef) H .normal (polS.keys 60) (env60 (.sl db 0 n none n 1) (.func 62 [] [.ptr fb 0 0 1]) (.imm .lit 1 []) (.i (i : Int)) (.i (IntKind.i64.wrap ((i : Int) + 1))) .undef) H :=
  RunsTo.hin N 60 [] fun kf hk => ⟨_, by kernel_rfl, .nil⟩
theorem df_l_0 (N : Nat) (db n fb : Nat) (H : Heap) (i j : Nat) (x7 : HV) (x0 : Int) (H0 : Heap) (g0 : (j : Int) < (n : Int)) (g1 : idxV Try.prog 24 (.sl db 0 n none n 1) (.i (j : Int)) = some (.ptr db j 0 n)) (g2 : loadV Try.prog H 3 (.ptr db j 0 n) = some (.i x0)) (g3 : ∀ kf, N ≤ kf → callN Try.prog polS (kf + 1) 62 [.i x0, .ptr fb 0 0 1] H = some (.bool true, H0)) : RunsTo Try.prog polS 60 (sub [1, 1, 1, 0, 1, 0, 0] B60) (env60 (.sl db 0 n none n 1) (.func 62 [] [.ptr fb 0 0 1]) (.imm .lit 1 []) (.i (i : Int)) (.i (j : Int)) x7) H .normal (polS.keys 60) (env60 (.sl db 0 n none n 1) (.func 62 [] [.ptr fb 0 0 1]) (.imm .lit 1 []) (.i (i : Int)) (.i (IntKind.i64.wrap ((j : Int) + 1))) (.i x0)) H0 :=
  RunsTo.hin N 60 [⟨5, 3, .bool true, H⟩, ⟨7, 2, .ptr db j 0 n, H⟩, ⟨7, 3, .i x0, H⟩, ⟨8, 2, .bool true, H0⟩] fun kf hk => ⟨_, by kernel_rfl, (oB H (decide_eq_true g0) (oP H g1 (oP H g2 (oC (g3 kf (by omega)) .nil))))⟩
theorem df_l_1 (N : Nat) (db n fb : Nat) (H : Heap) (i j : Nat) (x7 : HV) (x0 : Int) (H0 : Heap) (H1 : Heap) (g0 : (j : Int) < (n : Int)) (g1 : idxV Try.prog 24 (.sl db 0 n none n 1) (.i (j : Int)) = some (.ptr db j 0 n)) (g2 : loadV Try.prog H 3 (.ptr db j 0 n) = some (.i x0)) (g3 : ∀ kf, N ≤ kf → callN Try.prog polS (kf + 1) 62 [.i x0, .ptr fb 0 0 1] H = some (.bool false, H0)) (g4 : idxV Try.prog 24 (.sl db 0 n none n 1) (.i (i : Int)) = some (.ptr db i 0 n)) (g5 : storeV Try.prog H0 3 (.ptr db i 0 n) (.i x0) = some H1) : RunsTo Try.prog polS 60 (sub [1, 1, 1, 0, 1, 0, 0] B60) (env60 (.sl db 0 n none n 1) (.func 62 [] [.ptr fb 0 0 1]) (.imm .lit 1 []) (.i (i : Int)) (.i (j : Int)) x7) H .normal (polS.keys 60) (env60 (.sl db 0 n none n 1) (.func 62 [] [.ptr fb 0 0 1]) (.imm .lit 1 []) (.i (IntKind.i64.wrap ((i : Int) + 1))) (.i (IntKind.i64.wrap ((j : Int) + 1))) (.i x0)) H1 :=
  RunsTo.hin N 60 [⟨5, 3, .bool true, H⟩, ⟨7, 2, .ptr db j 0 n, H⟩, ⟨7, 3, .i x0, H⟩, ⟨8, 2, .bool false, H0⟩, ⟨9, 3, .ptr db i 0 n, H0⟩, ⟨9, 4, .tuple [], H1⟩] fun kf hk => ⟨_, by kernel_rfl, (oB H (decide_eq_true g0) (oP H g1 (oP H g2 (oC (g3 kf (by omega)) (oP H0 g4 (oS g5 .nil))))))⟩
theorem df_l_2 (N : Nat) (db n fb : Nat) (H : Heap) (i j : Nat) (x7 : HV)(g0 : ¬ ((j : Int) < (n : Int))) : RunsTo Try.prog polS 60 (sub [1, 1, 1, 0, 1, 0, 0] B60) (env60 (.sl db 0 n none n 1) (.func 62 [] [.ptr fb 0 0 1]) (.imm .lit 1 []) (.i (i : Int)) (.i (j : Int)) x7) H (.exit 0) (polS.keys 60) (env60 (.sl db 0 n none n 1) (.func 62 [] [.ptr fb 0 0 1]) (.imm .lit 1 []) (.i (i : Int)) (.i (j : Int)) x7) H :=
  RunsTo.hin N 60 [⟨5, 3, .bool false, H⟩] fun kf hk => ⟨_, by kernel_rfl, (oB H (decide_eq_false g0) .nil)⟩
theorem df_z_0 (N : Nat) (db n fb : Nat) (H : Heap) (i j : Nat) (x7 : HV) (H0 : Heap) (g0 : sliceV Try.prog 24 (.sl db 0 n none n 1) (some (.i (i : Int))) none none = some (.sl db i (n - i) none n 1)) (g1 : clearV Try.prog H 24 (.sl db i (n - i) none n 1) = some (.tuple [], H0)) (g2 : sliceV Try.prog 24 (.sl db 0 n none n 1) none (some (.i (i : Int))) none = some (.sl db 0 i none n 1)) : RunsTo Try.prog polS 60 (sub [1, 1, 1, 1] B60) (env60 (.sl db 0 n none n 1) (.func 62 [] [.ptr fb 0 0 1]) (.imm .lit 1 []) (.i (i : Int)) (.i (j : Int)) x7) H .ret (polS.keys 60) (env60 (.sl db 0 n none n 1) (.func 62 [] [.ptr fb 0 0 1]) (.sl db 0 i none n 1) (.i (i : Int)) (.i (j : Int)) x7) H0 :=
  RunsTo.hin N 60 [⟨11, 2, .sl db i (n - i) none n 1, H⟩, ⟨11, 3, .tuple [], H0⟩, ⟨12, 2, .sl db 0 i none n 1, H0⟩] fun kf hk => ⟨_, by kernel_rfl, (oP H g0 (oC (g1) (oP H0 g2 .nil)))⟩
end Go.Proofs.Ytmhfkhlamnapdaa
end
section
open Go Go.HL
namespace Go.Proofs.Ytmhfkhlamnapdaa
theorem res62 : Try.f62.results.toList = [.tmp 3] := by kernel_rfl
theorem res65 : Try.f65.results.toList = [.tmp 4] := by kernel_rfl
theorem res60 : Try.f60.results.toList = [.tmp 4] := by kernel_rfl
theorem eq_call {H : Heap} {fb : Nat} {w : Int} (hf : H[fb]? = some (boxI w)) (u : Int) : Cl 62 [.int .i64 u, .ptr fb 0 0 1] H (.bool (decide (u = w))) H := by
  by_cases c : u = w
  · have t := eq_a_0 u fb w H (ld_I hf) c
    have hcl := CallsTo.shared (P := Try.prog) (pol := polS) (g := 62) (fn := Try.f62) (cd := B62) (args := [.int .i64 u, .ptr fb 0 0 1]) (v := .bool (decide (u = w))) (by kernel_rfl) (by kernel_rfl) (by kernel_rfl) (by kernel_rfl) t (by kernel_rfl) (by simp) (by rw [decide_eq_true c]; simp only [resultsV, res62, mapO, resultV]; rfl)
    rw [gc_eq _ rfl] at hcl
    exact hcl
  · have t := eq_a_1 u fb w H (ld_I hf) c
    have hcl := CallsTo.shared (P := Try.prog) (pol := polS) (g := 62) (fn := Try.f62) (cd := B62) (args := [.int .i64 u, .ptr fb 0 0 1]) (v := .bool (decide (u = w))) (by kernel_rfl) (by kernel_rfl) (by kernel_rfl) (by kernel_rfl) t (by kernel_rfl) (by simp) (by rw [decide_eq_false c]; simp only [resultsV, res62, mapO, resultV]; rfl)
    rw [gc_eq _ rfl] at hcl
    exact hcl
theorem eq_N {H : Heap} {fb : Nat} {w : Int} (hf : H[fb]? = some (boxI w)) (u : Int) (b : Bool) (hb : decide (u = w) = b) : ∃ N, ∀ kf, N ≤ kf → callN Try.prog polS (kf + 1) 62 [.int .i64 u, .ptr fb 0 0 1] H = some (.bool b, H) := by
  subst hb; exact (eq_call hf u).from
theorem gi2 {db n y : Nat} (hy : y < n) : idxV Try.prog 24 (.sl db 0 n none n 1) (.int .i64 (y : Int)) = some (.ptr db y 0 n) := by
  have := gi_ (db := db) hy
  rwa [Int.toNat_natCast] at this
theorem gl2 {H : Heap} {db n y : Nat} {l : List Int} (hb : H[db]? = some (bI l)) (hl : l.length = n) (hy : y < n) : loadV Try.prog H 3 (.ptr db y 0 n) = some (.int .i64 (l.getD y 0)) := by
  subst hl; exact load_out hb hy
section
variable {H : Heap} {db n fb : Nat} {l : List Int} {w : Int}
abbrev ifE (db n fb : Nat) (a : Int) (v5 : HV) (b c : Int) : Env := env65 (.sl db 0 n none n 1) (.func 62 [] [.ptr fb 0 0 1]) (.int .i64 a) v5 (.int .i64 b) (.int .i64 c)
end
section
variable {H : Heap} {db n fb : Nat} {l : List Int} {w : Int}
theorem ifx_loop (hb : H[db]? = some (bI l)) (hl : l.length = n) (hn : n ≤ 1000) (hf : H[fb]? = some (boxI w)) : ∀ d i, i + d = n → (∀ j, j < i → l.getD j 0 ≠ w) →
    (∃ j : Nat, j < n ∧ l.getD j 0 = w ∧ (∀ k, k < j → l.getD k 0 ≠ w) ∧ RunsTo Try.prog polS 65 (sub [1, 0, 1, 0] B65) (ifE db n fb 0 .undef n i) H .ret (polS.keys 65) (ifE db n fb j (.int .i64 j) n j) H) ∨
    ((∀ j, j < n → l.getD j 0 ≠ w) ∧ RunsTo Try.prog polS 65 (sub [1, 0, 1, 0] B65) (ifE db n fb 0 .undef n i) H (.exit 0) (polS.keys 65) (ifE db n fb 0 .undef n n) H) := by
  intro d
  induction d with
  | zero =>
    intro i hi h
    have hi : i = n := by omega
    subst hi
    exact .inr ⟨h, RunsTo.loop_out (ifx_l_2 0 db i fb H i (by omega)) (by simp) (by kernel_rfl) (by kernel_rfl)⟩
  | succ d ih =>
    intro i hi h
    by_cases c : l.getD i 0 = w
    · obtain ⟨N, hN⟩ := eq_N hf (l.getD i 0) true (decide_eq_true c)
      exact .inl ⟨i, by omega, c, h, RunsTo.loop_out (ifx_l_0 N db n fb H i _ H (by omega) (gi2 (by omega)) (gl2 hb hl (by omega)) hN) (by simp) (by kernel_rfl) (by kernel_rfl)⟩
    · obtain ⟨N, hN⟩ := eq_N hf (l.getD i 0) false (decide_eq_false c)
      have s := ifx_l_1 N db n fb H i _ H (by omega) (gi2 (by omega)) (gl2 hb hl (by omega)) hN
      rw [wrap_succ (by omega)] at s
      rcases ih (i + 1) (by omega) (fun j hj => by
        by_cases e : j = i
        · rw [e]; exact c
        · exact h j (by omega)) with ⟨j, h1, h2, h3, r⟩ | ⟨h1, r⟩
      · exact .inl ⟨j, h1, h2, h3, RunsTo.loop s (by kernel_rfl) (gc_eq _ rfl) r rfl (by kernel_rfl) (by kernel_rfl)⟩
      · exact .inr ⟨h1, RunsTo.loop s (by kernel_rfl) (gc_eq _ rfl) r rfl (by kernel_rfl) (by kernel_rfl)⟩
end
section
variable {H : Heap} {db n fb : Nat} {l : List Int} {w : Int}
theorem ifx_call (hb : H[db]? = some (bI l)) (hl : l.length = n) (hn : n ≤ 1000) (hf : H[fb]? = some (boxI w)) :
    ∃ r : Int, Cl 65 [.sl db 0 n none n 1, .func 62 [] [.ptr fb 0 0 1]] H (.int .i64 r) H ∧ ((∃ j : Nat, r = j ∧ j < n ∧ l.getD j 0 = w ∧ ∀ k, k < j → l.getD k 0 ≠ w) ∨ (r = -1 ∧ ∀ j, j < n → l.getD j 0 ≠ w)) := by
  have a := ifx_a_0 0 db n fb H
  have b := ifx_b_0 0 db n fb H
  have done : ∀ (r : Int) (E : Env), RunsTo Try.prog polS 65 (sub [1] B65) (env65 (.sl db 0 n none n 1) (.func 62 [] [.ptr fb 0 0 1]) (.int .i64 0) .undef .undef .undef) H .ret (polS.keys 65) E H → E.get 4 = .int .i64 r → Cl 65 [.sl db 0 n none n 1, .func 62 [] [.ptr fb 0 0 1]] H (.int .i64 r) H := by
    intro r E t h4
    have t2 := RunsTo.seq a t (c := B65) (by kernel_rfl) (by kernel_rfl)
    have hcl := CallsTo.shared (P := Try.prog) (pol := polS) (g := 65) (fn := Try.f65) (cd := B65) (args := [.sl db 0 n none n 1, .func 62 [] [.ptr fb 0 0 1]]) (v := .int .i64 r) (by kernel_rfl) (by kernel_rfl) (by kernel_rfl) (by kernel_rfl) t2 (by kernel_rfl) (by simp) (by simp only [resultsV, res65, mapO, resultV, h4])
    rw [gc_eq _ rfl] at hcl
    exact hcl
  rcases ifx_loop hb hl hn hf n 0 (by omega) (fun j hj => by omega) with ⟨j, h1, h2, h3, r⟩ | ⟨h1, r⟩
  · have t1 := RunsTo.seq b (RunsTo.block_ret (i := 0) (c := sub [1, 0, 1] B65) r (by kernel_rfl)) (c := sub [1, 0] B65) (by kernel_rfl) (by kernel_rfl)
    exact ⟨j, done j _ (RunsTo.seq_out t1 (by simp) (c := sub [1] B65) (b := sub [1, 1] B65) (by kernel_rfl)) rfl, .inl ⟨j, rfl, h1, h2, h3⟩⟩
  · have t1 := RunsTo.seq b (RunsTo.block_exit (c := sub [1, 0, 1] B65) r (by kernel_rfl)) (c := sub [1, 0] B65) (by kernel_rfl) (by kernel_rfl)
    have z := ifx_z_0 0 db n fb H n .undef
    exact ⟨-1, done (-1) _ (RunsTo.seq t1 z (c := sub [1] B65) (by kernel_rfl) (by kernel_rfl)) rfl, .inr ⟨rfl, h1⟩⟩
end
section
variable {H : Heap} {db n fb : Nat} {l : List Int} {w : Int}
abbrev dfE (db n fb : Nat) (a b : Int) (v7 : HV) : Env := env60 (.sl db 0 n none n 1) (.func 62 [] [.ptr fb 0 0 1]) (.imm .lit 1 []) (.int .i64 a) (.int .i64 b) v7
end
section
variable {H : Heap} {db n fb : Nat} {l : List Int} {w : Int}
def keep (w : Int) (l : List Int) : List Int := l.filter fun u => !decide (u = w)
end
section
variable {H : Heap} {db n fb : Nat} {l : List Int} {w : Int}
theorem keep_snoc_in (l : List Int) (x : Int) (h : x = w) : keep w (l ++ [x]) = keep w l := by simp [keep, h]
end
section
variable {H : Heap} {db n fb : Nat} {l : List Int} {w : Int}
theorem keep_snoc_out (l : List Int) (x : Int) (h : ¬ x = w) : keep w (l ++ [x]) = keep w l ++ [x] := by simp [keep, h]
end
section
variable {H : Heap} {db n fb : Nat} {l : List Int} {w : Int}
theorem take_snoc {l : List Int} {j : Nat} (h : j < l.length) : l.take (j + 1) = l.take j ++ [l.getD j 0] := by
  rw [List.take_add_one, List.getElem?_eq_getElem h]
  simp [List.getD, List.getElem?_eq_getElem h]
end
section
variable {H : Heap} {db n fb : Nat} {l : List Int} {w : Int}
theorem df_loop (hl : l.length = n) (hn : n ≤ 1000) (hbf : db ≠ fb) (hdl : db < H.length) (hf : H[fb]? = some (boxI w)) : ∀ d i j (m : List Int), j + d = n → i ≤ j → m.length = n → m.take i = keep w (l.take j) → m.drop j = l.drop j →
    ∃ (i' : Nat) (m' : List Int), RunsTo Try.prog polS 60 (sub [1, 1, 1, 0, 1, 0] B60) (dfE db n fb i j .undef) (H.set db (bI m)) (.exit 0) (polS.keys 60) (dfE db n fb i' n .undef) (H.set db (bI m')) ∧ i' ≤ n ∧ m'.length = n ∧ m'.take i' = keep w l := by
  intro d
  induction d with
  | zero =>
    intro i j m hj hij hm h1 h2
    have hj : j = n := by omega
    subst hj
    have e : l.take j = l := List.take_of_length_le (by omega)
    rw [e] at h1
    exact ⟨i, m, RunsTo.loop_out (df_l_2 0 db j fb (H.set db (bI m)) i j .undef (by omega)) (by simp) (by kernel_rfl) (by kernel_rfl), hij, hm, h1⟩
  | succ d ih =>
    intro i j m hj hij hm h1 h2
    have hbk : (H.set db (bI m))[db]? = some (bI m) := List.getElem?_set_self hdl
    have hfb : (H.set db (bI m))[fb]? = some (boxI w) := by rw [List.getElem?_set_ne hbf]; exact hf
    have hmj : m.getD j 0 = l.getD j 0 := by
      have e : (m.drop j).getD 0 0 = (l.drop j).getD 0 0 := by rw [h2]
      simpa [List.getD, List.getElem?_drop] using e
    have hd2 : m.drop (j + 1) = l.drop (j + 1) := by
      have e : (m.drop j).drop 1 = (l.drop j).drop 1 := by rw [h2]
      simpa [List.drop_drop] using e
    by_cases c : m.getD j 0 = w
    · obtain ⟨N, hN⟩ := eq_N hfb (m.getD j 0) true (decide_eq_true c)
      have s := df_l_0 N db n fb (H.set db (bI m)) i j .undef _ _ (by omega) (gi2 (by omega)) (gl2 hbk hm (by omega)) hN
      rw [wrap_succ (by omega)] at s
      obtain ⟨i', m', r, h3, h4, h5⟩ := ih i (j + 1) m (by omega) (by omega) hm (by rw [take_snoc (by omega), keep_snoc_in _ _ (hmj ▸ c)]; exact h1) hd2
      exact ⟨i', m', RunsTo.loop s (by kernel_rfl) (gc_eq _ rfl) r rfl (by kernel_rfl) (by kernel_rfl), h3, h4, h5⟩
    · obtain ⟨N, hN⟩ := eq_N hfb (m.getD j 0) false (decide_eq_false c)
      have hst := store_out hbk (y := i) (by omega) (m.getD j 0)
      rw [hm, List.set_set] at hst
      have s := df_l_1 N db n fb (H.set db (bI m)) i j .undef _ _ _ (by omega) (gi2 (by omega)) (gl2 hbk hm (by omega)) hN (gi2 (by omega)) hst
      rw [wrap_succ (by omega), wrap_succ (by omega)] at s
      obtain ⟨i', m', r, h3, h4, h5⟩ := ih (i + 1) (j + 1) (m.set i (m.getD j 0)) (by omega) (by omega) (by simpa using hm) (by
        have e1 : l.take (j + 1) = l.take j ++ [l.getD j 0] := take_snoc (by omega)
        have e2 : (m.set i (m.getD j 0)).take (i + 1) = (m.set i (m.getD j 0)).take i ++ [(m.set i (m.getD j 0)).getD i 0] := take_snoc (by simp; omega)
        rw [e1, e2, keep_snoc_out _ _ (hmj ▸ c), ← h1, ← hmj, List.take_set_of_le (Nat.le_refl _), getD_set _ _ _ _ (by omega), if_pos rfl]) (by rw [List.drop_set_of_lt (by omega)]; exact hd2)
      exact ⟨i', m', RunsTo.loop s (by kernel_rfl) (gc_eq _ (by simp)) r rfl (by kernel_rfl) (by kernel_rfl), h3, h4, h5⟩
end
section
variable {H : Heap} {db n fb : Nat} {l : List Int} {w : Int}
theorem info3q : (Try.prog.info? 3).map (fun i => (i.size, i.zero.map ofConst)) = some (1, some (.int .i64 0)) := by kernel_rfl
end
section
variable {H : Heap} {db n fb : Nat} {l : List Int} {w : Int}
theorem clear_out {b i : Nat} {m : List Int} (hb : H[b]? = some (bI m)) (hm : m.length = n) (hi : i ≤ n) : ∃ m', clearV Try.prog H 24 (.sl b i (n - i) none n 1) = some (.tuple [], H.set b (bI m')) ∧ m'.length = n ∧ m'.take i = m.take i := by
  have hu : Try.prog.underlying 24 = some (.slice 3) := u24b
  by_cases c : n - i = 0
  · refine ⟨m, ?_, hm, rfl⟩
    have e : H.set b (bI m) = H := by
      apply List.ext_getElem?
      intro k
      rw [List.getElem?_set]
      by_cases e : b = k
      · subst e; rw [if_pos rfl, if_pos (lt_of_get hb), hb]
      · rw [if_neg e]
    simp only [clearV, hu, c, if_true, e]
  · have hi3 := info3q
    cases hinf : Try.prog.info? 3 with
    | none => rw [hinf] at hi3; cases hi3
    | some inf =>
      rw [hinf] at hi3
      simp only [Option.map, Option.some.injEq, Prod.mk.injEq] at hi3
      obtain ⟨e1, e2⟩ := hi3
      cases hz : inf.zero with
      | none => rw [hz] at e2; cases e2
      | some z =>
        rw [hz] at e2
        simp only [Option.map, Option.some.injEq] at e2
        refine ⟨m.take i ++ List.replicate (n - i) 0, ?_, by simp; omega, ?_⟩
        · simp only [clearV, hu, if_neg c, hinf, hb, hz, e1, e2, List.length_map, hm]
          rw [if_pos ⟨trivial, trivial, trivial, by omega, rfl, rfl, by omega⟩]
          congr 4
          simp only [splice, List.length_replicate, List.map_append, List.map_take, List.map_replicate, encI]
          rw [List.drop_eq_nil_of_le (by simp; omega), List.append_nil]
        · rw [List.take_append_of_le_length (by simp; omega), List.take_take, Nat.min_self]
end
section
variable {H : Heap} {db n fb : Nat} {l : List Int} {w : Int}
theorem df_call (hb : H[db]? = some (bI l)) (hl : l.length = n) (hn : n ≤ 1000) (hbf : db ≠ fb) (hf : H[fb]? = some (boxI w)) :
    ∃ (k : Nat) (l' : List Int), Cl 60 [.sl db 0 n none n 1, .func 62 [] [.ptr fb 0 0 1]] H (.sl db 0 k none n 1) (H.set db (bI l')) ∧ k ≤ n ∧ l'.length = n ∧ l'.take k = keep w l := by
  have hdl := lt_of_get hb
  have hself : H.set db (bI l) = H := by
    apply List.ext_getElem?
    intro k
    rw [List.getElem?_set]
    by_cases e : db = k
    · subst e; rw [if_pos rfl, if_pos hdl, hb]
    · rw [if_neg e]
  obtain ⟨r, hcl, hr⟩ := ifx_call hb hl hn hf
  obtain ⟨N, hN⟩ := hcl.from
  have a := df_a_0 0 db n fb H
  have b := df_b_0 N db n fb H r H hN
  have done : ∀ (k : Nat) (l' : List Int) (E : Env), RunsTo Try.prog polS 60 (sub [1, 1] B60) (env60 (.sl db 0 n none n 1) (.func 62 [] [.ptr fb 0 0 1]) (.imm .lit 1 []) (.int .i64 r) .undef .undef) H .ret (polS.keys 60) E (H.set db (bI l')) → E.get 4 = .sl db 0 k none n 1 → Cl 60 [.sl db 0 n none n 1, .func 62 [] [.ptr fb 0 0 1]] H (.sl db 0 k none n 1) (H.set db (bI l')) := by
    intro k l' E t h4
    have t2 := RunsTo.seq a (RunsTo.seq b t (c := sub [1] B60) (by kernel_rfl) (by kernel_rfl)) (c := B60) (by kernel_rfl) (by kernel_rfl)
    have hcl := CallsTo.shared (P := Try.prog) (pol := polS) (g := 60) (fn := Try.f60) (cd := B60) (args := [.sl db 0 n none n 1, .func 62 [] [.ptr fb 0 0 1]]) (v := .sl db 0 k none n 1) (by kernel_rfl) (by kernel_rfl) (by kernel_rfl) (by kernel_rfl) t2 (by kernel_rfl) (by simp) (by simp only [resultsV, res60, mapO, resultV, h4])
    rw [gc_eq _ (by simp)] at hcl
    exact hcl
  rcases hr with ⟨i, rfl, h1, h2, h3⟩ | ⟨rfl, h1⟩
  · have c := df_c_1 0 db n fb H (i : Int) (by omega)
    have d := df_d_0 0 db n fb H i
    rw [wrap_succ (by omega)] at d
    have hke : ∀ j, j ≤ i → keep w (l.take j) = l.take j := by
      intro j hj
      rw [keep, List.filter_eq_self]
      intro v hv
      obtain ⟨k, hk, rfl⟩ := List.mem_iff_getElem.1 hv
      have hkl : k < j := by simp at hk; omega
      have := h3 k (by omega)
      simp only [List.getElem_take]
      simp [List.getD, List.getElem?_eq_getElem (show k < l.length by omega)] at this
      simp [this]
    obtain ⟨i', m, r, h4, h5, h6⟩ := df_loop hl hn hbf hdl hf (n - (i + 1)) i (i + 1) l (by omega) (by omega) hl (by rw [take_snoc (by omega), keep_snoc_in _ _ h2, hke i (Nat.le_refl _)]) rfl
    rw [hself] at r
    have hbk : (H.set db (bI m))[db]? = some (bI m) := List.getElem?_set_self hdl
    obtain ⟨m', e1, e2, e3⟩ := clear_out (n := n) hbk h5 h4
    rw [List.set_set] at e1
    have hb0 : boundV (some (.int .i64 (i' : Int))) = some (some i') := by simp [boundV]
    have hbn : boundV none = some none := rfl
    have z := df_z_0 0 db n fb (H.set db (bI m)) i' n .undef (H.set db (bI m')) (by
      simp only [sliceV, hb0, hbn, u24b, z3b, if_true, Option.getD, Option.map]
      rw [if_pos (by omega)]
      simp) e1 (by
      simp only [sliceV, hb0, hbn, u24b, z3b, if_true, Option.getD, Option.map]
      rw [if_pos (by omega)]
      simp)
    have t1 := RunsTo.seq d (RunsTo.block_exit (c := sub [1, 1, 1, 0, 1] B60) r (by kernel_rfl)) (c := sub [1, 1, 1, 0] B60) (by kernel_rfl) (by kernel_rfl)
    have t2 := RunsTo.seq c (RunsTo.seq t1 z (c := sub [1, 1, 1] B60) (by kernel_rfl) (by kernel_rfl)) (c := sub [1, 1] B60) (by kernel_rfl) (by kernel_rfl)
    exact ⟨i', m', done i' m' _ t2 rfl, h4, e2, by rw [e3]; exact h6⟩
  · have c := df_c_0 0 db n fb H (-1) rfl
    refine ⟨n, l, ?_, Nat.le_refl _, hl, ?_⟩
    · have t := RunsTo.seq_out c (by simp) (c := sub [1, 1] B60) (b := sub [1, 1, 1] B60) (by kernel_rfl)
      exact done n l (env60 (.sl db 0 n none n 1) (.func 62 [] [.ptr fb 0 0 1]) (.sl db 0 n none n 1) (.int .i64 (-1)) .undef .undef) (by rw [hself]; exact t) rfl
    · rw [List.take_of_length_le (by omega), keep, eq_comm, List.filter_eq_self]
      intro v hv
      obtain ⟨k, hk, rfl⟩ := List.mem_iff_getElem.1 hv
      have := h1 k (by omega)
      simp [List.getD, List.getElem?_eq_getElem hk] at this
      simp [this]
end
end Go.Proofs.Ytmhfkhlamnapdaa
end
section
open Go Go.HL
namespace Go.Proofs.Ytmhfkhlamnapdaa
set_option maxRecDepth 100000
noncomputable def B63 : Code := Try.f63.body.getD .skip
abbrev env63 (v0 v1 v3 v4 v5 : HV) : Env := [(0, v0), (1, v1), (3, v3), (4, v4), (5, v5)]
theorem flg_a_0 (N : Nat) (D : HV) (tb vb bb : Nat) (H : Heap) (H0 : Heap) (cb : Nat) (k : Nat) (H1 : Heap) (H2 : Heap) (g0 : some (newV (.func 64 [] [.ptr tb 0 0 1, .ptr vb 0 0 1]) H) = some (.ptr bb 0 0 1, H0)) (g1 : ∀ kf, callN Try.prog polS (kf + 1) 61 [D] H0 = some (.sl cb 0 k none k 1, H1)) (g2 : ∀ kf, N ≤ kf → callN Try.prog polS (kf + 1) 66 [.sl cb 0 k none k 1, .func 67 [] [.ptr bb 0 0 1]] H1 = some (.tuple [], H2)) : RunsTo Try.prog polS 63 (sub [] B63) [(0, D), (1, .func 64 [] [.ptr tb 0 0 1, .ptr vb 0 0 1])] H .ret (polS.keys 63) (env63 D (.func 64 [] [.ptr tb 0 0 1, .ptr vb 0 0 1]) (.ptr bb 0 0 1) (.sl cb 0 k none k 1) (.sl cb 0 k none k 1)) H2 :=
  RunsTo.hin N 60 [⟨0, 0, .ptr bb 0 0 1, H0⟩, ⟨1, 1, .sl cb 0 k none k 1, H1⟩, ⟨2, 2, .tuple [], H2⟩] fun kf hk => ⟨_, by kernel_rfl, (oC (g0) (oC (g1 kf) (oC (g2 kf (by omega)) .nil)))⟩
end Go.Proofs.Ytmhfkhlamnapdaa
end
section
open Go Go.HL
namespace Go.Proofs.Ytmhfkhlamnapdaa
set_option maxRecDepth 100000
noncomputable def B55 : Code := Try.f55.body.getD .skip
abbrev env55 (v0 v1 v2 v3 v4 v5 v6 v7 : HV) : Env := [(0, v0), (1, v1), (2, v2), (3, v3), (4, v4), (5, v5), (6, v6), (7, v7)]
theorem br_a_0 (N : Nat) (n v : Nat) (w : Int) (tb vb fb : Nat) (row : HV) (H : Heap) (H0 : Heap) (H1 : Heap) (H2 : Heap) (cb : Nat) (k : Nat) (H3 : Heap) (D : HV) (H4 : Heap) (R : HV) (H5 : Heap) (g0 : some (newV (.agg [.sl 0 0 n none n 1, .map 1]) H) = some (.ptr tb 0 0 1, H0)) (g1 : some (newV (.i (v : Int)) H0) = some (.ptr vb 0 0 1, H1)) (g2 : some (newV (.i w) H1) = some (.ptr fb 0 0 1, H2)) (g3 : loadV Try.prog H2 55 (.ptr tb 0 0 1) = some (.sl 0 0 n none n 1)) (g4 : loadV Try.prog H2 3 (.ptr vb 0 0 1) = some (.i (v : Int))) (g5 : idxV Try.prog 55 (.sl 0 0 n none n 1) (.i (v : Int)) = some (.ptr 0 v 0 n)) (g6 : loadV Try.prog H2 24 (.ptr 0 v 0 n) = some (row)) (g7 : ∀ kf, callN Try.prog polS (kf + 1) 61 [row] H2 = some (.sl cb 0 k none k 1, H3)) (g8 : ∀ kf, N ≤ kf → callN Try.prog polS (kf + 1) 60 [.sl cb 0 k none k 1, .func 62 [] [.ptr fb 0 0 1]] H3 = some (D, H4)) (g9 : ∀ kf, N ≤ kf → callN Try.prog polS (kf + 1) 63 [D, .func 64 [] [.ptr tb 0 0 1, .ptr vb 0 0 1]] H4 = some (R, H5)) : RunsTo Try.prog polS 55 (sub [] B55) [(0, .agg [.sl 0 0 n none n 1, .map 1]), (1, .i (v : Int)), (2, .i w)] H .ret (polS.keys 55) (env55 (.agg [.sl 0 0 n none n 1, .map 1]) (.i (v : Int)) (.i w) (.ptr tb 0 0 1) (.ptr vb 0 0 1) (.ptr fb 0 0 1) R D) H5 :=
  RunsTo.hin N 60 [⟨0, 0, .ptr tb 0 0 1, H0⟩, ⟨0, 1, .ptr vb 0 0 1, H1⟩, ⟨0, 2, .ptr fb 0 0 1, H2⟩, ⟨1, 1, .sl 0 0 n none n 1, H2⟩, ⟨1, 2, .i (v : Int), H2⟩, ⟨1, 3, .ptr 0 v 0 n, H2⟩, ⟨1, 4, row, H2⟩, ⟨1, 5, .sl cb 0 k none k 1, H3⟩, ⟨1, 7, D, H4⟩, ⟨2, 2, R, H5⟩] fun kf hk => ⟨_, by kernel_rfl, (oC (g0) (oC (g1) (oC (g2) (oP H2 g3 (oP H2 g4 (oP H2 g5 (oP H2 g6 (oC (g7 kf) (oC (g8 kf (by omega)) (oC (g9 kf (by omega)) .nil))))))))))⟩
end Go.Proofs.Ytmhfkhlamnapdaa
end
section
open Go Go.HL
namespace Go.Proofs.Ytmhfkhlamnapdaa
theorem res63 : Try.f63.results.toList = [.tmp 4] := by kernel_rfl
theorem res55 : Try.f55.results.toList = [.tmp 6] := by kernel_rfl
theorem mxs_get {m : Nat} {H : Heap} : mxs H ≤ m ↔ ∀ (j : Nat) (B : Blk), H[j]? = some B → B.mx ≤ m := by
  rw [mxs_le]
  exact ⟨fun h j B hB => h B (List.mem_of_getElem? hB), fun h B hB => by
    obtain ⟨j, hj⟩ := List.mem_iff_getElem?.1 hB
    exact h j B hj⟩
theorem gc_all {b r : Nat} {H : Heap} (h : H.length ≤ r) : gc b r H = H := by
  unfold gc
  exact List.take_of_length_le (by omega)
theorem same_bI (l : List Int) : sameH [bI l] [bI l] = true := same_arr fun v hv => by
  obtain ⟨k, _, rfl⟩ := List.mem_map.1 hv
  simp [encI, same]
theorem recv_ints (l : List Int) (H : Heap) : recv (.own 1 (l.map encI)) H = (.sl H.length 0 l.length none l.length 1, H ++ [bI l]) := by
  have hno : (l.map encI).any isOwn = false := by
    rw [List.any_eq_false]
    intro v hv
    obtain ⟨k, _, rfl⟩ := List.mem_map.1 hv
    simp [encI, isOwn]
  simp only [recv, recvVal, recvCell, hno, List.length_map]
  rfl
theorem c61_sl {H : Heap} {db n k : Nat} {l' : List Int} (hb : H[db]? = some (bI l')) (hl : l'.length = n) (hk : k ≤ n) (hn : k ≤ 1000) : ∀ kf, callN Try.prog polS (kf + 1) 61 [.sl db 0 k none n 1] H = some (.sl H.length 0 k none k 1, H ++ [bI (l'.take k)]) := fun kf => by
  have ha : toArg H 6 (.sl db 0 k none n 1) = some (.imm .arg 1 ((l'.take k).map encI)) := by
    have e : toArg H 6 (.sl db 0 k none n 1) = if k = 0 then some (.imm .arg 1 []) else match view H db 0 k n 1 with | some l => (match mapO (toArg H 5) l with | some l => some (.imm .arg 1 l) | none => none) | none => none := rfl
    rw [e]
    split
    · rename_i h0
      subst h0; rfl
    · have hv : view H db 0 k n 1 = some ((l'.take k).map encI) := by
        simp only [view, hb, List.length_map, hl]
        rw [if_pos ⟨trivial, by omega, trivial⟩, List.drop_zero, List.map_take]
      have hm : mapO (toArg H 5) ((l'.take k).map encI) = some ((l'.take k).map encI) := mapO_self (f := toArg H 5) (g := encI) (fun _ => rfl) _
      rw [hv]
      simp only [hm]
  have hlen : (l'.take k).length = k := by simp; omega
  rw [prim_call (pol := polS) (g := 61) (F := clone61) (by kernel_rfl) (rs := [.imm .arg 1 ((l'.take k).map encI)]) (by simp only [mapO, ha]) (res := .own 1 ((l'.take k).map encI)) (by simp only [clone61, mapO_map decI_enc]; rw [if_pos (by omega)]), recv_ints, hlen]
theorem c61_row {H : Heap} (r : List Nat) (hn : r.length ≤ 1000) : ∀ kf, callN Try.prog polS (kf + 1) 61 [rowO r] H = some (.sl H.length 0 r.length none r.length 1, H ++ [bI (rowI r)]) := fun kf => by
  have ha : toArg H 6 (rowO r) = some (.imm .arg 1 ((rowI r).map encI)) := by
    have e : toArg H 6 (rowO r) = match argPL (r.map encN) with | some l => some (.imm .arg 1 l) | none => none := rfl
    rw [e, rowI_enc, argP_ints']
  have hlen : (rowI r).length = r.length := by simp [rowI]
  rw [prim_call (pol := polS) (g := 61) (F := clone61) (by kernel_rfl) (rs := [.imm .arg 1 ((rowI r).map encI)]) (by simp only [mapO, ha]) (res := .own 1 ((rowI r).map encI)) (by simp only [clone61, mapO_map decI_enc]; rw [if_pos (by omega)]), recv_ints, hlen]
section
variable {adj : List (List Nat)} {T : Int → Int → Int} {n : Nat}
theorem fl_call {H : Heap} {v : Int} {tb vb db m k : Nat} {l' : List Int} (hM : Mem adj T H) (htv : tb ≠ 1 ∧ vb ≠ 1) (hlt : tb < H.length ∧ vb < H.length) (ht : H[tb]? = some (boxT n)) (hv : H[vb]? = some (boxI v)) (hd : H[db]? = some (bI l')) (hl : l'.length = m) (hk : k ≤ m) (h39 : k ≤ 39) (hT : ∀ u, u ∈ l'.take k → TimeOk adj T n u v) :
    ∃ H', Cl 63 [.sl db 0 k none m 1, .func 64 [] [.ptr tb 0 0 1, .ptr vb 0 0 1]] H (.sl (H.length + 1) 0 k none k 1) H' ∧ KOk adj T n v tb vb H.length H' ∧ H'.length = H.length + 2 ∧ H'[H.length + 1]? = some (bI (stable (fun u => T u v) k (l'.take k))) ∧ ∀ j, j ≠ 1 → j < H.length → H'[j]? = H[j]? := by
  have h2 := hM.two
  have hb0 : (newV (.func 64 [] [.ptr tb 0 0 1, .ptr vb 0 0 1]) H) = (.ptr H.length 0 0 1, H ++ [boxF tb vb]) := by
    simp only [newV, cellsOf, bnd, bndL, boxF, List.length_singleton]
    simp
  have hM1 : Mem adj T (H ++ [boxF tb vb]) := hM.app (same_F tb vb) (by show max (tb + 1) (vb + 1) ≤ _; omega)
  have hdl := lt_of_get hd
  have hd1 : (H ++ [boxF tb vb])[db]? = some (bI l') := by rw [List.getElem?_append_left hdl]; exact hd
  have hM2 : Mem adj T (H ++ [boxF tb vb] ++ [bI (l'.take k)]) := hM1.app (same_bI _) (Nat.zero_le _)
  have hlen1 : (H ++ [boxF tb vb]).length = H.length + 1 := by simp
  have hK : KOk adj T n v tb vb H.length (H ++ [boxF tb vb] ++ [bI (l'.take k)]) := by
    refine ⟨hM2, ?_, ?_, ?_⟩
    · rw [List.getElem?_append_left (by simp; omega), List.getElem?_append_left hlt.1]; exact ht
    · rw [List.getElem?_append_left (by simp; omega), List.getElem?_append_left hlt.2]; exact hv
    · rw [List.getElem?_append_left (by simp), List.getElem?_append_right (Nat.le_refl _)]; simp
  have hc := cmp_ok (adj := adj) (T := T) (n := n) (v := v) (tb := tb) (vb := vb) (fb := H.length) (db := H.length + 1) (dom := fun u => u ∈ l'.take k) ⟨htv.1, htv.2, by omega⟩ ⟨by omega, by omega, by omega, by omega⟩ hT
  have hlk : (l'.take k).length = k := by simp; omega
  obtain ⟨H', hcl, hL, hF⟩ := sort_call hc (n := k) h39 hlk (H := H ++ [boxF tb vb] ++ [bI (l'.take k)]) ⟨by rw [List.getElem?_append_right (by simp), hlen1]; simp, hK, fun v hv => hv⟩
  obtain ⟨N, hN⟩ := hcl.from
  have hcl1 := c61_sl hd1 hl hk (by omega)
  rw [hlen1] at hcl1
  have t := flg_a_0 N (.sl db 0 k none m 1) tb vb H.length H (H ++ [boxF tb vb]) (H.length + 1) k _ H' (by rw [hb0]) hcl1 hN
  have hlen : H'.length = H.length + 2 := by rw [hF.len]; simp
  have hcl := CallsTo.shared (P := Try.prog) (pol := polS) (g := 63) (fn := Try.f63) (cd := B63) (args := [.sl db 0 k none m 1, .func 64 [] [.ptr tb 0 0 1, .ptr vb 0 0 1]]) (v := .sl (H.length + 1) 0 k none k 1) (by kernel_rfl) (by kernel_rfl) (by kernel_rfl) (by kernel_rfl) t (by kernel_rfl) (by simp) (by simp only [resultsV, res63, mapO, resultV]; rfl)
  rw [gc_all (by rw [hlen]; exact Nat.le_refl _)] at hcl
  refine ⟨H', hcl, hL.ok, hlen, hL.blk, fun j h1 h2 => ?_⟩
  rw [hF.same j h1 (by omega), List.getElem?_append_left (by simp; omega), List.getElem?_append_left h2]
end
section
variable {adj : List (List Nat)} {T : Int → Int → Int} {n : Nat}
theorem br_call {H : Heap} {v : Nat} {w : Int} {r : List Nat} (hM : Mem adj T H) (hn : adj.length = n) (hr : adj[v]? = some r) (h39 : r.length ≤ 39) (hT : ∀ u, u ∈ keep w (rowI r) → TimeOk adj T n u v) :
    ∃ H', Cl 55 [TV n, .int .i64 v, .int .i64 w] H (.sl (H.length + 5) 0 (keep w (rowI r)).length none (keep w (rowI r)).length 1) H' ∧ Mem adj T H' ∧ H'.length = H.length + 6 ∧
      H'[H.length + 5]? = some (bI (stable (fun u => T u v) (keep w (rowI r)).length (keep w (rowI r)))) ∧ (∀ j, j ≠ 1 → j < H.length → H'[j]? = H[j]?) ∧ H'[H.length]? = some (boxT n) ∧ H'[H.length + 1]? = some (boxI v) ∧ mxs H' ≤ H.length + 2 := by
  have h2 := hM.two
  have hvn : v < n := by have := lt_of_get hr; omega
  have hb0 : newV (TV n) H = (.ptr H.length 0 0 1, H ++ [boxT n]) := by
    simp only [newV, cellsOf, bnd, bndL, List.length_cons, List.length_nil]
    simp
  have hM1 : Mem adj T (H ++ [boxT n]) := hM.app (same_T n) (by show 2 ≤ _; omega)
  have hb1 : newV (.int .i64 (v : Int)) (H ++ [boxT n]) = (.ptr (H.length + 1) 0 0 1, H ++ [boxT n] ++ [boxI v]) := by
    simp only [newV, cellsOf, bnd, List.length_cons, List.length_nil, List.length_append]
  have hM2 : Mem adj T (H ++ [boxT n] ++ [boxI v]) := hM1.app (same_I v) (Nat.zero_le _)
  have hb2 : newV (.int .i64 w) (H ++ [boxT n] ++ [boxI v]) = (.ptr (H.length + 2) 0 0 1, H ++ [boxT n] ++ [boxI v] ++ [boxI w]) := by
    simp only [newV, cellsOf, bnd, List.length_cons, List.length_nil, List.length_append]
  have hM3 : Mem adj T (H ++ [boxT n] ++ [boxI v] ++ [boxI w]) := hM2.app (same_I w) (Nat.zero_le _)
  have hlen3 : (H ++ [boxT n] ++ [boxI v] ++ [boxI w]).length = H.length + 3 := by simp
  have hlow : ∀ j, j < H.length → (H ++ [boxT n] ++ [boxI v] ++ [boxI w])[j]? = H[j]? := fun j hj => by
    rw [List.getElem?_append_left (by simp; omega), List.getElem?_append_left (by simp; omega), List.getElem?_append_left hj]
  have g0 : (H ++ [boxT n] ++ [boxI v] ++ [boxI w])[H.length]? = some (boxT n) := by
    rw [List.getElem?_append_left (by simp), List.getElem?_append_left (by simp), List.getElem?_append_right (Nat.le_refl _)]; simp
  have g1 : (H ++ [boxT n] ++ [boxI v] ++ [boxI w])[H.length + 1]? = some (boxI v) := by
    rw [List.getElem?_append_left (by simp), List.getElem?_append_right (by simp)]; simp
  have g2 : (H ++ [boxT n] ++ [boxI v] ++ [boxI w])[H.length + 2]? = some (boxI w) := by
    rw [List.getElem?_append_right (by simp)]; simp
  generalize H ++ [boxT n] ++ [boxI v] ++ [boxI w] = H3 at hb2 hM3 hlen3 hlow g0 g1 g2
  have hnear : H3[0]? = some (.arr 1 (adj.map rowO) true 0) := hM3.near
  have lrow : loadV Try.prog H3 24 (.ptr 0 v 0 n) = some (rowO r) :=
    load_elem hnear (by simp [hn]) (by rw [List.getElem?_map, hr]; rfl) rfl (by kernel_rfl) (by kernel_rfl)
  have c61 := c61_row (H := H3) r (by omega)
  rw [hlen3] at c61
  have hM4 : Mem adj T (H3 ++ [bI (rowI r)]) := hM3.app (same_bI _) (Nat.zero_le _)
  have hd4 : (H3 ++ [bI (rowI r)])[H.length + 3]? = some (bI (rowI r)) := by rw [List.getElem?_append_right (by omega), hlen3]; simp
  have hw4 : (H3 ++ [bI (rowI r)])[H.length + 2]? = some (boxI w) := by rw [List.getElem?_append_left (by omega)]; exact g2
  obtain ⟨k, l', hcl, hk, hl', hke⟩ := df_call hd4 (n := r.length) (by simp [rowI]) (by omega) (by omega) hw4
  have hkk : (keep w (rowI r)).length = k := by rw [← hke]; simp; omega
  have hM5 : Mem adj T ((H3 ++ [bI (rowI r)]).set (H.length + 3) (bI l')) := hM4.set (by omega) (same_bI _) (Nat.zero_le _)
  have hlow5 : ∀ j, j < H.length + 3 → ((H3 ++ [bI (rowI r)]).set (H.length + 3) (bI l'))[j]? = H3[j]? := fun j hj => by
    rw [List.getElem?_set_ne (by omega), List.getElem?_append_left (by omega)]
  have hd5 : ((H3 ++ [bI (rowI r)]).set (H.length + 3) (bI l'))[H.length + 3]? = some (bI l') := List.getElem?_set_self (by simp; omega)
  have hlen5 : ((H3 ++ [bI (rowI r)]).set (H.length + 3) (bI l')).length = H.length + 4 := by simp; omega
  generalize (H3 ++ [bI (rowI r)]).set (H.length + 3) (bI l') = H5 at hcl hM5 hlow5 hd5 hlen5
  obtain ⟨N1, hN1⟩ := hcl.from
  obtain ⟨H6, hcl6, hK6, hlen6, hblk6, hlow6⟩ := fl_call (n := n) (v := (v : Int)) (tb := H.length) (vb := H.length + 1) (db := H.length + 3) (m := r.length) (k := k) hM5 ⟨by omega, by omega⟩ ⟨by omega, by omega⟩ (by rw [hlow5 _ (by omega)]; exact g0) (by rw [hlow5 _ (by omega)]; exact g1) hd5 hl' hk (by omega) (by rw [hke]; exact hT)
  obtain ⟨N2, hN2⟩ := hcl6.from
  rw [hlen5] at hN2 hlen6 hblk6 hlow6 hK6
  rw [hke] at hblk6
  have t := br_a_0 (max N1 N2) n v w H.length (H.length + 1) (H.length + 2) (rowO r) H _ _ H3 (H.length + 3) r.length _ (.sl (H.length + 3) 0 k none r.length 1) H5 (.sl (H.length + 5) 0 k none k 1) H6 (by rw [hb0]) (by rw [hb1]) (by rw [hb2]) (ld_n g0) (ld_I g1)
    (by have := idx_sl (P := Try.prog) (t := 55) (e := 24) (k := 1) (b := 0) (len := n) (tot := n) (cap := none) (ik := .i64) (n := (v : Int)) (by kernel_rfl) (by kernel_rfl) (by omega) (by omega); rwa [Int.toNat_natCast] at this)
    lrow c61 (fun kf hk => hN1 kf (by omega)) (fun kf hk => hN2 kf (by omega))
  have hcl := CallsTo.shared (P := Try.prog) (pol := polS) (g := 55) (fn := Try.f55) (cd := B55) (args := [TV n, .int .i64 v, .int .i64 w]) (v := .sl (H.length + 5) 0 k none k 1) (by kernel_rfl) (by kernel_rfl) (by kernel_rfl) (by kernel_rfl) t (by kernel_rfl) (by simp) (by simp only [resultsV, res55, mapO, resultV]; rfl)
  rw [gc_all (by rw [hlen6]; exact Nat.le_refl _)] at hcl
  rw [hkk]
  have hs : ∀ j, j ≠ 1 → j < H.length + 3 → H6[j]? = H3[j]? := fun j h1 hj => by rw [hlow6 j h1 (by omega), hlow5 j hj]
  refine ⟨H6, hcl, hK6.mem, by omega, by rw [← hkk] at hblk6 ⊢; exact hblk6, fun j h1 hj => by rw [hs j h1 (by omega), hlow j hj], by rw [hs _ (by omega) (by omega)]; exact g0, by rw [hs _ (by omega) (by omega)]; exact g1, ?_⟩
  rw [mxs_get]
  intro j B hB
  by_cases e1 : j = 1
  · obtain ⟨ks, hks⟩ := hK6.mem.memo
    rw [e1, hks] at hB
    rw [← Option.some.inj hB]
    exact Nat.zero_le _
  · by_cases e2 : j < H.length + 3
    · rw [hs j e1 e2] at hB
      by_cases e3 : j < H.length
      · rw [hlow j e3] at hB
        have := mxs_get.1 hM.mx j B hB
        omega
      · by_cases e4 : j = H.length
        · rw [e4, g0] at hB
          rw [← Option.some.inj hB]
          show 2 ≤ _
          omega
        · by_cases e5 : j = H.length + 1
          · rw [e5, g1] at hB
            rw [← Option.some.inj hB]; exact Nat.zero_le _
          · have e5 : j = H.length + 2 := by omega
            rw [e5, g2] at hB
            rw [← Option.some.inj hB]; exact Nat.zero_le _
    · have hjl := lt_of_get hB
      by_cases e3 : j = H.length + 3
      · rw [e3, hlow6 _ (by omega) (by omega), hd5] at hB
        rw [← Option.some.inj hB]; exact Nat.zero_le _
      · by_cases e4 : j = H.length + 4
        · rw [e4, hK6.f] at hB
          rw [← Option.some.inj hB]
          show max (H.length + 1) (H.length + 1 + 1) ≤ _
          omega
        · have e5 : j = H.length + 5 := by omega
          rw [e5, hblk6] at hB
          rw [← Option.some.inj hB]; exact Nat.zero_le _
end
end Go.Proofs.Ytmhfkhlamnapdaa
end
section
open Go Go.HL
namespace Go.Proofs.Ytmhfkhlamnapdaa
set_option maxRecDepth 100000
noncomputable def B47 : Code := Try.f47.body.getD .skip
abbrev env47 (v0 v1 v2 v3 v6 v7 v9 v10 v11 v12 v28 v29 v30 : HV) : Env := [(0, v0), (1, v1), (2, v2), (3, v3), (6, v6), (7, v7), (9, v9), (10, v10), (11, v11), (12, v12), (28, v28), (29, v29), (30, v30)]
theorem ti_a_0 (N : Nat) (n : Nat) (v w : Int) (tb : Nat) (H : Heap) (H0 : Heap) (g0 : some (newV (.agg [.sl 0 0 n none n 1, .map 1]) H) = some (.ptr tb 0 0 1, H0)) : RunsTo Try.prog polS 47 (sub [0] B47) [(0, .agg [.sl 0 0 n none n 1, .map 1]), (1, .i v), (2, .i w)] H .normal (polS.keys 47) (env47 (.agg [.sl 0 0 n none n 1, .map 1]) (.i v) (.i w) (.ptr tb 0 0 1) (.i 0) .undef .undef .undef .undef .undef .undef .undef .undef) H0 :=
  RunsTo.hin N 60 [⟨0, 0, .ptr tb 0 0 1, H0⟩] fun kf hk => ⟨_, by kernel_rfl, (oC (g0) .nil)⟩
theorem ti_b_0 (N : Nat) (n : Nat) (v w : Int) (tb kb : Nat) (H : Heap) (H0 : Heap) (H1 : Heap) (g0 : some (newV (.agg [.i 0, .i 0]) H) = some (.ptr kb 0 0 1, H0)) (g1 : storeV Try.prog H0 33 (.ptr kb 0 0 1) (.agg [.i v, .i w]) = some H1) : RunsTo Try.prog polS 47 (sub [1, 0] B47) (env47 (.agg [.sl 0 0 n none n 1, .map 1]) (.i v) (.i w) (.ptr tb 0 0 1) (.i 0) .undef .undef .undef .undef .undef .undef .undef .undef) H .normal (polS.keys 47) (env47 (.agg [.sl 0 0 n none n 1, .map 1]) (.i v) (.i w) (.ptr tb 0 0 1) (.i 0) (.ptr kb 0 0 1) .undef .undef .undef .undef .undef .undef .undef) H1 :=
  RunsTo.hin N 60 [⟨1, 3, .ptr kb 0 0 1, H0⟩, ⟨1, 4, .tuple [], H1⟩] fun kf hk => ⟨_, by kernel_rfl, (oC (g0) (oS g1 .nil))⟩
theorem ti_c_0 (N : Nat) (n : Nat) (v w : Int) (tb kb : Nat) (H : Heap) (t0 : Int) (g0 : loadV Try.prog H 70 (.ptr tb 0 1 1) = some (.map 1)) (g1 : loadV Try.prog H 33 (.ptr kb 0 0 1) = some (.agg [.i v, .i w])) (g2 : lkG Try.prog 70 H 1 (.agg [.i v, .i w]) true = some (.tuple [.i t0, .bool true], H)) : RunsTo Try.prog polS 47 (sub [1, 1, 0, 0] B47) (env47 (.agg [.sl 0 0 n none n 1, .map 1]) (.i v) (.i w) (.ptr tb 0 0 1) (.i 0) (.ptr kb 0 0 1) .undef .undef .undef .undef .undef .undef .undef) H .normal (polS.keys 47) (env47 (.agg [.sl 0 0 n none n 1, .map 1]) (.i v) (.i w) (.ptr tb 0 0 1) (.i 0) (.ptr kb 0 0 1) (.bool true) .undef .undef .undef .undef .undef .undef) H :=
  RunsTo.hin N 60 [⟨2, 1, .map 1, H⟩, ⟨2, 2, .agg [.i v, .i w], H⟩, ⟨2, 3, .tuple [.i t0, .bool true], H⟩] fun kf hk => ⟨_, by kernel_rfl, (oP H g0 (oP H g1 (oC (g2) .nil)))⟩
theorem ti_c_1 (N : Nat) (n : Nat) (v w : Int) (tb kb : Nat) (H : Heap)(g0 : loadV Try.prog H 70 (.ptr tb 0 1 1) = some (.map 1)) (g1 : loadV Try.prog H 33 (.ptr kb 0 0 1) = some (.agg [.i v, .i w])) (g2 : lkG Try.prog 70 H 1 (.agg [.i v, .i w]) true = some (.tuple [.i 0, .bool false], H)) : RunsTo Try.prog polS 47 (sub [1, 1, 0, 0] B47) (env47 (.agg [.sl 0 0 n none n 1, .map 1]) (.i v) (.i w) (.ptr tb 0 0 1) (.i 0) (.ptr kb 0 0 1) .undef .undef .undef .undef .undef .undef .undef) H .normal (polS.keys 47) (env47 (.agg [.sl 0 0 n none n 1, .map 1]) (.i v) (.i w) (.ptr tb 0 0 1) (.i 0) (.ptr kb 0 0 1) (.bool false) .undef .undef .undef .undef .undef .undef) H :=
  RunsTo.hin N 60 [⟨2, 1, .map 1, H⟩, ⟨2, 2, .agg [.i v, .i w], H⟩, ⟨2, 3, .tuple [.i 0, .bool false], H⟩] fun kf hk => ⟨_, by kernel_rfl, (oP H g0 (oP H g1 (oC (g2) .nil)))⟩
theorem ti_dt_0 (N : Nat) (n : Nat) (v w : Int) (tb kb : Nat) (H : Heap) : RunsTo Try.prog polS 47 (sub [1, 1, 0, 1, 0] B47) (env47 (.agg [.sl 0 0 n none n 1, .map 1]) (.i v) (.i w) (.ptr tb 0 0 1) (.i 0) (.ptr kb 0 0 1) (.bool true) .undef .undef .undef .undef .undef .undef) H .normal [0, 1, 2, 3, 6, 7, 9, 10, 11, 12, 28, 29, 30, 24] [(0, .agg [.sl 0 0 n none n 1, .map 1]), (1, .i v), (2, .i w), (3, .ptr tb 0 0 1), (6, .i 0), (7, .ptr kb 0 0 1), (9, .bool true), (10, .undef), (11, .undef), (12, .undef), (28, .undef), (29, .undef), (30, .undef), (24, .bool false)] H :=
  RunsTo.hin N 60 [] fun kf hk => ⟨_, by kernel_rfl, .nil⟩
theorem ti_df_0 (N : Nat) (n : Nat) (v w : Int) (tb kb : Nat) (H : Heap) : RunsTo Try.prog polS 47 (sub [1, 1, 0, 1, 0] B47) (env47 (.agg [.sl 0 0 n none n 1, .map 1]) (.i v) (.i w) (.ptr tb 0 0 1) (.i 0) (.ptr kb 0 0 1) (.bool false) .undef .undef .undef .undef .undef .undef) H .normal [0, 1, 2, 3, 6, 7, 9, 10, 11, 12, 28, 29, 30, 24] [(0, .agg [.sl 0 0 n none n 1, .map 1]), (1, .i v), (2, .i w), (3, .ptr tb 0 0 1), (6, .i 0), (7, .ptr kb 0 0 1), (9, .bool false), (10, .undef), (11, .undef), (12, .undef), (28, .undef), (29, .undef), (30, .undef), (24, .bool true)] H :=
  RunsTo.hin N 60 [] fun kf hk => ⟨_, by kernel_rfl, .nil⟩
theorem ti_e_0 (N : Nat) (n : Nat) (v w : Int) (tb kb : Nat) (H : Heap) : RunsTo Try.prog polS 47 (sub [1, 1, 0, 1, 1, 0, 0] B47) (env47 (.agg [.sl 0 0 n none n 1, .map 1]) (.i v) (.i w) (.ptr tb 0 0 1) (.i 0) (.ptr kb 0 0 1) (.bool false) .undef .undef .undef .undef .undef .undef) H .normal (polS.keys 47) (env47 (.agg [.sl 0 0 n none n 1, .map 1]) (.i v) (.i w) (.ptr tb 0 0 1) (.i 0) (.ptr kb 0 0 1) (.bool false) (.i 0) .undef .undef .undef .undef .undef) H :=
  RunsTo.hin N 60 [] fun kf hk => ⟨_, by kernel_rfl, .nil⟩
theorem ti_f_0 (N : Nat) (n : Nat) (v w : Int) (tb kb : Nat) (H : Heap) (mo : Int) (cb : Nat) (k : Nat) (k2 : Nat) (H0 : Heap) (g0 : loadV Try.prog H 72 (.ptr tb 0 0 1) = some (.agg [.sl 0 0 n none n 1, .map 1])) (g1 : ∀ kf, N ≤ kf → callN Try.prog polS (kf + 1) 55 [.agg [.sl 0 0 n none n 1, .map 1], .i v, .i w] H = some (.sl cb 0 k none k2 1, H0)) : RunsTo Try.prog polS 47 (sub [1, 1, 0, 1, 1, 0, 1, 0, 0] B47) (env47 (.agg [.sl 0 0 n none n 1, .map 1]) (.i v) (.i w) (.ptr tb 0 0 1) (.i 0) (.ptr kb 0 0 1) (.bool false) (.i mo) .undef .undef .undef .undef .undef) H .normal (polS.keys 47) (env47 (.agg [.sl 0 0 n none n 1, .map 1]) (.i v) (.i w) (.ptr tb 0 0 1) (.i 0) (.ptr kb 0 0 1) (.bool false) (.i mo) .undef .undef (.sl cb 0 k none k2 1) (.i (k : Int)) (.i 0)) H0 :=
  RunsTo.hin N 60 [⟨5, 0, .agg [.sl 0 0 n none n 1, .map 1], H⟩, ⟨5, 3, .sl cb 0 k none k2 1, H0⟩] fun kf hk => ⟨_, by kernel_rfl, (oP H g0 (oC (g1 kf (by omega)) .nil))⟩
theorem ti_l_0 (N : Nat) (n : Nat) (v w : Int) (tb kb : Nat) (H : Heap) (mo : Int) (cb k k2 i : Nat) (x0 : Int) (s : Int) (H0 : Heap) (g0 : (i : Int) < (k : Int)) (g1 : idxV Try.prog 24 (.sl cb 0 k none k2 1) (.i (i : Int)) = some (.ptr cb i 0 k2)) (g2 : loadV Try.prog H 3 (.ptr cb i 0 k2) = some (.i x0)) (g3 : loadV Try.prog H 72 (.ptr tb 0 0 1) = some (.agg [.sl 0 0 n none n 1, .map 1])) (g4 : ∀ kf, N ≤ kf → callN Try.prog polS (kf + 1) 47 [.agg [.sl 0 0 n none n 1, .map 1], .i x0, .i v] H = some (.i s, H0)) : RunsTo Try.prog polS 47 (sub [1, 1, 0, 1, 1, 0, 1, 0, 1, 0, 0] B47) (env47 (.agg [.sl 0 0 n none n 1, .map 1]) (.i v) (.i w) (.ptr tb 0 0 1) (.i 0) (.ptr kb 0 0 1) .undef (.i mo) .undef .undef (.sl cb 0 k none k2 1) (.i (k : Int)) (.i (i : Int))) H .normal (polS.keys 47) (env47 (.agg [.sl 0 0 n none n 1, .map 1]) (.i v) (.i w) (.ptr tb 0 0 1) (.i 0) (.ptr kb 0 0 1) .undef (.i (max mo (IntKind.i64.wrap (IntKind.i64.wrap ((i : Int) + 1) + s)))) (.i (i : Int)) (.i x0) (.sl cb 0 k none k2 1) (.i (k : Int)) (.i (IntKind.i64.wrap ((i : Int) + 1)))) H0 :=
  RunsTo.hin N 60 [⟨6, 0, .bool true, H⟩, ⟨7, 1, .ptr cb i 0 k2, H⟩, ⟨7, 2, .i x0, H⟩, ⟨8, 3, .agg [.sl 0 0 n none n 1, .map 1], H⟩, ⟨8, 6, .i s, H0⟩] fun kf hk => ⟨_, by kernel_rfl, (oB H (decide_eq_true g0) (oP H g1 (oP H g2 (oP H g3 (oC (g4 kf (by omega)) .nil)))))⟩
theorem ti_l_1 (N : Nat) (n : Nat) (v w : Int) (tb kb : Nat) (H : Heap) (mo : Int) (cb k k2 i : Nat)(g0 : ¬ ((i : Int) < (k : Int))) : RunsTo Try.prog polS 47 (sub [1, 1, 0, 1, 1, 0, 1, 0, 1, 0, 0] B47) (env47 (.agg [.sl 0 0 n none n 1, .map 1]) (.i v) (.i w) (.ptr tb 0 0 1) (.i 0) (.ptr kb 0 0 1) .undef (.i mo) .undef .undef (.sl cb 0 k none k2 1) (.i (k : Int)) (.i (i : Int))) H (.exit 0) (polS.keys 47) (env47 (.agg [.sl 0 0 n none n 1, .map 1]) (.i v) (.i w) (.ptr tb 0 0 1) (.i 0) (.ptr kb 0 0 1) .undef (.i mo) .undef .undef (.sl cb 0 k none k2 1) (.i (k : Int)) (.i (i : Int))) H :=
  RunsTo.hin N 60 [⟨6, 0, .bool false, H⟩] fun kf hk => ⟨_, by kernel_rfl, (oB H (decide_eq_false g0) .nil)⟩
theorem ti_g_0 (N : Nat) (n : Nat) (v w : Int) (tb kb : Nat) (H : Heap) (mo : Int) (cb k k2 i : Nat) (H0 : Heap) (g0 : loadV Try.prog H 70 (.ptr tb 0 1 1) = some (.map 1)) (g1 : loadV Try.prog H 33 (.ptr kb 0 0 1) = some (.agg [.i v, .i w])) (g2 : updV Try.prog false 70 (.map 1) (.agg [.i v, .i w]) (.i mo) H = some H0) : RunsTo Try.prog polS 47 (sub [1, 1, 0, 1, 1, 0, 1, 1] B47) (env47 (.agg [.sl 0 0 n none n 1, .map 1]) (.i v) (.i w) (.ptr tb 0 0 1) (.i 0) (.ptr kb 0 0 1) .undef (.i mo) .undef .undef (.sl cb 0 k none k2 1) (.i (k : Int)) (.i (i : Int))) H .normal (polS.keys 47) (env47 (.agg [.sl 0 0 n none n 1, .map 1]) (.i v) (.i w) (.ptr tb 0 0 1) (.i 0) (.ptr kb 0 0 1) .undef (.i mo) .undef .undef (.sl cb 0 k none k2 1) (.i (k : Int)) (.i (i : Int))) H0 :=
  RunsTo.hin N 60 [⟨10, 1, .map 1, H⟩, ⟨10, 2, .agg [.i v, .i w], H⟩, ⟨10, 4, .tuple [], H0⟩] fun kf hk => ⟨_, by kernel_rfl, (oP H g0 (oP H g1 (oS g2 .nil)))⟩
theorem ti_z_0 (N : Nat) (n : Nat) (v w : Int) (tb kb : Nat) (H : Heap) (y9 y10 y11 y12 y28 y29 y30 : HV) (t0 : Int) (g0 : loadV Try.prog H 70 (.ptr tb 0 1 1) = some (.map 1)) (g1 : loadV Try.prog H 33 (.ptr kb 0 0 1) = some (.agg [.i v, .i w])) (g2 : lkG Try.prog 70 H 1 (.agg [.i v, .i w]) false = some (.i t0, H)) : RunsTo Try.prog polS 47 (sub [1, 1, 1] B47) (env47 (.agg [.sl 0 0 n none n 1, .map 1]) (.i v) (.i w) (.ptr tb 0 0 1) (.i 0) (.ptr kb 0 0 1) y9 y10 y11 y12 y28 y29 y30) H .ret (polS.keys 47) (env47 (.agg [.sl 0 0 n none n 1, .map 1]) (.i v) (.i w) (.ptr tb 0 0 1) (.i t0) (.ptr kb 0 0 1) y9 y10 y11 y12 y28 y29 y30) H :=
  RunsTo.hin N 60 [⟨11, 1, .map 1, H⟩, ⟨11, 2, .agg [.i v, .i w], H⟩, ⟨11, 3, .i t0, H⟩] fun kf hk => ⟨_, by kernel_rfl, (oP H g0 (oP H g1 (oC (g2) .nil)))⟩
end Go.Proofs.Ytmhfkhlamnapdaa
end
section
open Go Go.HL
namespace Go.Proofs.Ytmhfkhlamnapdaa
def Sd (f : Int → Int) (l : List Int) (a b : Nat) : Prop := ∀ p q, a ≤ p → p < q → q < b → f (l.getD q 0) ≤ f (l.getD p 0)
structure Ran (a b : Nat) (l l' : List Int) : Prop where
  len : l'.length = l.length
  out : ∀ p, ¬ (a ≤ p ∧ p < b) → l'.getD p 0 = l.getD p 0
  inn : ∀ p, a ≤ p → p < b → ∃ p', a ≤ p' ∧ p' < b ∧ l'.getD p 0 = l.getD p' 0
  perm : l'.Perm l
theorem Ran.refl (a b : Nat) (l : List Int) : Ran a b l l := ⟨rfl, fun _ _ => rfl, fun p h1 h2 => ⟨p, h1, h2, rfl⟩, List.Perm.refl _⟩
theorem Ran.trans {a b : Nat} {l l' l'' : List Int} (h : Ran a b l l') (h' : Ran a b l' l'') : Ran a b l l'' := by
  refine ⟨h'.len.trans h.len, fun p hp => (h'.out p hp).trans (h.out p hp), fun p h1 h2 => ?_, h'.perm.trans h.perm⟩
  obtain ⟨p', g1, g2, g3⟩ := h'.inn p h1 h2
  obtain ⟨p'', k1, k2, k3⟩ := h.inn p' g1 g2
  exact ⟨p'', k1, k2, g3.trans k3⟩
theorem Ran.wide {a b a' b' : Nat} {l l' : List Int} (h : Ran a b l l') (ha : a' ≤ a) (hb : b ≤ b') : Ran a' b' l l' := by
  refine ⟨h.len, fun p hp => h.out p (by omega), fun p h1 h2 => ?_, h.perm⟩
  by_cases c : a ≤ p ∧ p < b
  · obtain ⟨p', g1, g2, g3⟩ := h.inn p c.1 c.2
    exact ⟨p', by omega, by omega, g3⟩
  · exact ⟨p, h1, h2, h.out p c⟩
theorem ran_swp {l : List Int} {a b i j : Nat} (hi : a ≤ i ∧ i < b) (hj : a ≤ j ∧ j < b) (hb : b ≤ l.length) : Ran a b l (swp l i j) := by
  have g := swp_get (l := l) (i := i) (j := j) (by omega) (by omega)
  refine ⟨swp_len _ _ _, fun p hp => ?_, fun p h1 h2 => ?_, swp_perm (by omega) (by omega)⟩
  · rw [g, if_neg (by omega), if_neg (by omega)]
  · rw [g]
    by_cases c1 : p = j
    · rw [if_pos c1]; exact ⟨i, hi.1, hi.2, rfl⟩
    · rw [if_neg c1]
      by_cases c2 : p = i
      · rw [if_pos c2]; exact ⟨j, hj.1, hj.2, rfl⟩
      · rw [if_neg c2]; exact ⟨p, h1, h2, rfl⟩
theorem Sd.ran {f : Int → Int} {l l' : List Int} {a b c d : Nat} (h : Sd f l a b) (hr : Ran c d l l') (hd : b ≤ c ∨ d ≤ a) : Sd f l' a b := fun p q h1 h2 h3 => by
  rw [hr.out p (by omega), hr.out q (by omega)]; exact h p q h1 h2 h3
theorem sink_ok (f : Int → Int) (a : Nat) : ∀ (j i : Nat) (l : List Int), a ≤ j → j ≤ i → i < l.length → (∀ p q, a ≤ p → p < q → q ≤ i → p ≠ j → q ≠ j → f (l.getD q 0) ≤ f (l.getD p 0)) → (∀ q, j < q → q ≤ i → f (l.getD q 0) ≤ f (l.getD j 0)) → Ran a (i + 1) l (sink f a j l) ∧ Sd f (sink f a j l) a (i + 1) := by
  intro j
  induction j with
  | zero =>
    intro i l ha hj hi h1 h2
    rw [sink]
    refine ⟨Ran.refl _ _ _, fun p q hp hpq hq => ?_⟩
    by_cases c : p = 0
    · rw [c]; exact h2 q (by omega) (by omega)
    · exact h1 p q hp hpq (by omega) c (by omega)
  | succ j ih =>
    intro i l ha hj hi h1 h2
    rw [sink]
    by_cases c : a < j + 1 ∧ f (l.getD j 0) < f (l.getD (j + 1) 0)
    · rw [if_pos c]
      have g := swp_get (l := l) (i := j + 1) (j := j) (by omega) (by omega)
      have r1 := ran_swp (l := l) (a := a) (b := i + 1) (i := j + 1) (j := j) (by omega) (by omega) (by omega)
      obtain ⟨r2, s2⟩ := ih i (swp l (j + 1) j) (by omega) (by omega) (by rw [swp_len]; exact hi) (fun p q hp hpq hq hpj hqj => by
        rw [g, g, if_neg hqj, if_neg hpj]
        by_cases e1 : q = j + 1
        · rw [if_pos e1, if_neg (by omega)]
          exact h1 p j hp (by omega) (by omega) (by omega) (by omega)
        · rw [if_neg e1]
          by_cases e2 : p = j + 1
          · rw [if_pos e2]
            exact h1 j q (by omega) (by omega) hq (by omega) (by omega)
          · rw [if_neg e2]
            exact h1 p q hp hpq hq e2 e1) (fun q hq hqi => by
        rw [g, g, if_neg (by omega), if_pos rfl]
        by_cases e1 : q = j + 1
        · rw [if_pos e1]; omega
        · rw [if_neg e1]
          exact h2 q (by omega) hqi)
      exact ⟨r1.trans r2, s2⟩
    · rw [if_neg c]
      refine ⟨Ran.refl _ _ _, fun p q hp hpq hq => ?_⟩
      by_cases e1 : p = j + 1
      · rw [e1]; exact h2 q (by omega) (by omega)
      · by_cases e2 : q = j + 1
        · rw [e2]
          have h3 : f (l.getD (j + 1) 0) ≤ f (l.getD j 0) := by
            by_cases c2 : a < j + 1
            · have := fun h => c ⟨c2, h⟩
              omega
            · omega
          by_cases e3 : p = j
          · rw [e3]; exact h3
          · have := h1 p j hp (by omega) (by omega) e1 (by omega)
            omega
        · exact h1 p q hp hpq (by omega) e1 e2
theorem insGo_ok (f : Int → Int) (a b : Nat) : ∀ (d i : Nat) (l : List Int), i + d = b → a < i → b ≤ l.length → Sd f l a i → Ran a b l (insGo f a d i l) ∧ Sd f (insGo f a d i l) a b := by
  intro d
  induction d with
  | zero =>
    intro i l hi ha hb hs
    have : i = b := by omega
    subst this
    exact ⟨Ran.refl _ _ _, hs⟩
  | succ d ih =>
    intro i l hi ha hb hs
    rw [insGo]
    obtain ⟨r1, s1⟩ := sink_ok f a i i l (by omega) (Nat.le_refl _) (by omega) (fun p q hp hpq hq hpi hqi => hs p q hp hpq (by omega)) (fun q h1 h2 => by omega)
    obtain ⟨r2, s2⟩ := ih (i + 1) (sink f a i l) (by omega) (by omega) (by rw [r1.len]; exact hb) s1
    exact ⟨(r1.wide (Nat.le_refl _) (by omega)).trans r2, s2⟩
theorem insertion_ok (f : Int → Int) {a b : Nat} {l : List Int} (hab : a ≤ b) (hb : b ≤ l.length) : Ran a b l (insertion f a b l) ∧ Sd f (insertion f a b l) a b := by
  unfold insertion
  rcases Nat.lt_or_ge a b with h | h
  · exact insGo_ok f a b (b - (a + 1)) (a + 1) l (by omega) (by omega) hb (fun p q h1 h2 h3 => by omega)
  · rw [show b - (a + 1) = 0 by omega]
    exact ⟨Ran.refl _ _ _, fun p q h1 h2 h3 => by omega⟩
theorem swapR_get (a b D : Nat) (hab : a + D ≤ b) : ∀ (d i : Nat) (l : List Int), i + d = D → b + D ≤ l.length → ∀ p, (swapR a b d i l).getD p 0 = if a + i ≤ p ∧ p < a + D then l.getD (p - a + b) 0 else if b + i ≤ p ∧ p < b + D then l.getD (p - b + a) 0 else l.getD p 0 := by
  intro d
  induction d with
  | zero =>
    intro i l hi hl p
    rw [swapR, if_neg (by omega), if_neg (by omega)]
  | succ d ih =>
    intro i l hi hl p
    have g := swp_get (l := l) (i := a + i) (j := b + i) (by omega) (by omega)
    rw [swapR, ih (i + 1) _ (by omega) (by rw [swp_len]; exact hl), g, g, g]
    by_cases c1 : p = a + i
    · rw [if_neg (by omega), if_neg (by omega), if_neg (by omega), if_pos c1, if_pos (by omega), c1]
      congr 1; omega
    · by_cases c2 : p = b + i
      · rw [if_neg (by omega), if_neg (by omega), if_pos c2, if_neg (by omega), if_pos (by omega), c2]
        congr 1; omega
      · by_cases c3 : a + (i + 1) ≤ p ∧ p < a + D
        · rw [if_pos c3, if_neg (by omega), if_neg (by omega), if_pos (by omega)]
        · rw [if_neg c3]
          by_cases c4 : b + (i + 1) ≤ p ∧ p < b + D
          · rw [if_pos c4, if_neg (by omega), if_neg (by omega), if_neg (by omega), if_pos (by omega)]
          · rw [if_neg c4, if_neg c2, if_neg c1, if_neg (by omega), if_neg (by omega)]
theorem swapR_ran {lo hi : Nat} (a b D : Nat) (ha : lo ≤ a) (hb : lo ≤ b) (ha' : a + D ≤ hi) (hb' : b + D ≤ hi) : ∀ (d i : Nat) (l : List Int), i + d = D → hi ≤ l.length → Ran lo hi l (swapR a b d i l) := by
  intro d
  induction d with
  | zero => intro i l _ _; exact Ran.refl _ _ _
  | succ d ih =>
    intro i l hid hl
    rw [swapR]
    exact (ran_swp (by omega) (by omega) hl).trans (ih (i + 1) _ (by omega) (by rw [swp_len]; exact hl))
theorem rotGo_ok (m : Nat) : ∀ (k i j : Nat) (l : List Int), i + j ≤ k + 1 → 0 < i → 0 < j → i ≤ m → m + j ≤ l.length → Ran (m - i) (m + j) l (rotGo m k i j l) ∧ ∀ p, m - i ≤ p → p < m + j → (rotGo m k i j l).getD p 0 = if p < m - i + j then l.getD (p - (m - i) + m) 0 else l.getD (p - j) 0 := by
  intro k
  induction k with
  | zero => intro i j l h hi hj; omega
  | succ k ih =>
    intro i j l h hi hj him hl
    rw [rotGo]
    by_cases c1 : i = j
    · rw [if_pos c1]
      subst c1
      refine ⟨swapR_ran _ _ i (by omega) (by omega) (by omega) (by omega) i 0 l (by omega) hl, fun p h1 h2 => ?_⟩
      rw [swapR_get (m - i) m i (by omega) i 0 l (by omega) (by omega)]
      by_cases c : p < m - i + i
      · rw [if_pos (by omega), if_pos c]
      · rw [if_neg (by omega), if_pos (by omega), if_neg c]
        congr 1; omega
    · rw [if_neg c1]
      by_cases c2 : j < i
      · rw [if_pos c2]
        have r1 := swapR_ran (lo := m - i) (hi := m + j) (m - i) m j (by omega) (by omega) (by omega) (by omega) j 0 l (by omega) hl
        have g1 := swapR_get (m - i) m j (by omega) j 0 l (by omega) (by omega)
        obtain ⟨r2, g2⟩ := ih (i - j) j (swapR (m - i) m j 0 l) (by omega) (by omega) hj (by omega) (by rw [swapR_len]; exact hl)
        refine ⟨r1.trans (r2.wide (by omega) (Nat.le_refl _)), fun p h1 h2 => ?_⟩
        by_cases c3 : p < m - i + j
        · rw [r2.out p (by omega), g1, if_pos (by omega), if_pos c3]
        · rw [if_neg c3, g2 p (by omega) h2]
          by_cases c4 : p < m - (i - j) + j
          · rw [if_pos c4, g1, if_neg (by omega), if_pos (by omega)]
            congr 1; omega
          · rw [if_neg c4, g1, if_neg (by omega), if_neg (by omega)]
      · rw [if_neg c2]
        have r1 := swapR_ran (lo := m - i) (hi := m + j) (m - i) (m + j - i) i (by omega) (by omega) (by omega) (by omega) i 0 l (by omega) hl
        have g1 := swapR_get (m - i) (m + j - i) i (by omega) i 0 l (by omega) (by omega)
        obtain ⟨r2, g2⟩ := ih i (j - i) (swapR (m - i) (m + j - i) i 0 l) (by omega) hi (by omega) him (by rw [swapR_len]; omega)
        refine ⟨r1.trans (r2.wide (by omega) (by omega)), fun p h1 h2 => ?_⟩
        by_cases c3 : p < m + (j - i)
        · rw [g2 p h1 c3]
          by_cases c4 : p < m - i + (j - i)
          · rw [if_pos c4, if_pos (by omega), g1, if_neg (by omega), if_neg (by omega)]
          · rw [if_neg c4, if_pos (by omega), g1, if_pos (by omega)]
            congr 1; omega
        · rw [r2.out p (by omega), if_neg (by omega), g1, if_neg (by omega), if_pos (by omega)]
          congr 1; omega
theorem rotate_ok {s m e : Nat} {l : List Int} (hs : s < m) (he : m < e) (hl : e ≤ l.length) : Ran s e l (rotate s m e l) ∧ ∀ p, s ≤ p → p < e → (rotate s m e l).getD p 0 = if p < s + (e - m) then l.getD (p - s + m) 0 else l.getD (p - (e - m)) 0 := by
  have h := rotGo_ok m (e - s) (m - s) (e - m) l (by omega) (by omega) (by omega) (by omega) (by omega)
  rw [show m - (m - s) = s by omega, show m + (e - m) = e by omega] at h
  exact h
theorem bs_ok (q : Nat → Bool) : ∀ (d i j : Nat), j - i ≤ d → i ≤ j → (∀ x y, i ≤ x → x ≤ y → y < j → q y = true → q x = true) → (∀ x, i ≤ x → x < bs q d i j → q x = true) ∧ (∀ x, bs q d i j ≤ x → x < j → q x = false) := by
  intro d
  induction d with
  | zero => intro i j hd hij hm; rw [bs]; exact ⟨fun x h1 h2 => by omega, fun x h1 h2 => by omega⟩
  | succ d ih =>
    intro i j hd hij hm
    rw [bs]
    by_cases c : i < j
    · rw [if_pos c]
      by_cases hq : q ((i + j) / 2) = true
      · rw [if_pos hq]
        obtain ⟨h1, h2⟩ := ih ((i + j) / 2 + 1) j (by omega) (by omega) (fun x y hx hxy hy => hm x y (by omega) hxy hy)
        refine ⟨fun x hx hlt => ?_, h2⟩
        by_cases c2 : x ≤ (i + j) / 2
        · exact hm x ((i + j) / 2) hx c2 (by omega) hq
        · exact h1 x (by omega) hlt
      · rw [if_neg hq]
        obtain ⟨h1, h2⟩ := ih i ((i + j) / 2) (by omega) (by omega) (fun x y hx hxy hy => hm x y hx hxy (by omega))
        refine ⟨h1, fun x hx hlt => ?_⟩
        by_cases c2 : x < (i + j) / 2
        · exact h2 x hx c2
        · cases e : q x with
          | false => rfl
          | true => exact absurd (hm ((i + j) / 2) x (by omega) (by omega) hlt e) hq
    · rw [if_neg c]; exact ⟨fun x h1 h2 => by omega, fun x h1 h2 => by omega⟩
theorem mvUp_ok : ∀ (d k : Nat) (l : List Int), k + d < l.length → Ran k (k + d + 1) l (mvUp d k l) ∧ ∀ p, k ≤ p → p ≤ k + d → (mvUp d k l).getD p 0 = if p = k + d then l.getD k 0 else l.getD (p + 1) 0 := by
  intro d
  induction d with
  | zero =>
    intro k l hl
    refine ⟨Ran.refl _ _ _, fun p h1 h2 => ?_⟩
    have : p = k := by omega
    subst this
    rw [mvUp, if_pos (by omega)]
  | succ d ih =>
    intro k l hl
    have g := swp_get (l := l) (i := k) (j := k + 1) (by omega) (by omega)
    obtain ⟨r2, g2⟩ := ih (k + 1) (swp l k (k + 1)) (by rw [swp_len]; omega)
    rw [mvUp]
    refine ⟨(ran_swp (by omega) (by omega) (by omega)).trans (r2.wide (by omega) (by omega)), fun p h1 h2 => ?_⟩
    by_cases c : p = k
    · rw [r2.out p (by omega), g, if_neg (by omega), if_pos c, if_neg (by omega), c]
    · rw [g2 p (by omega) (by omega), g, g]
      by_cases c2 : p = k + 1 + d
      · rw [if_pos c2, if_pos rfl, if_pos (by omega)]
      · rw [if_neg c2, if_neg (by omega), if_neg (by omega), if_neg (by omega)]
theorem mvDn_ok : ∀ (d k : Nat) (l : List Int), d ≤ k → k < l.length → Ran (k - d) (k + 1) l (mvDn d k l) ∧ ∀ p, k - d ≤ p → p ≤ k → (mvDn d k l).getD p 0 = if p = k - d then l.getD k 0 else l.getD (p - 1) 0 := by
  intro d
  induction d with
  | zero =>
    intro k l _ hl
    refine ⟨Ran.refl _ _ _, fun p h1 h2 => ?_⟩
    have : p = k := by omega
    subst this
    rw [mvDn, if_pos (by omega)]
  | succ d ih =>
    intro k l hd hl
    have g := swp_get (l := l) (i := k) (j := k - 1) (by omega) (by omega)
    obtain ⟨r2, g2⟩ := ih (k - 1) (swp l k (k - 1)) (by omega) (by rw [swp_len]; omega)
    rw [mvDn]
    refine ⟨(ran_swp (by omega) (by omega) (by omega)).trans (r2.wide (by omega) (by omega)), fun p h1 h2 => ?_⟩
    by_cases c : p = k
    · rw [r2.out p (by omega), g, if_neg (by omega), if_pos c, if_neg (by omega), c]
    · rw [g2 p (by omega) (by omega), g, g]
      by_cases c2 : p = k - 1 - d
      · rw [if_pos c2, if_pos rfl, if_pos (by omega)]
      · rw [if_neg c2, if_neg (by omega), if_neg (by omega), if_neg (by omega)]
theorem symM_ok (f : Int → Int) : ∀ (k a m b : Nat) (l : List Int), b - a ≤ k → a < m → m < b → b ≤ l.length → Sd f l a m → Sd f l m b → Ran a b l (symM f k a m b l) ∧ Sd f (symM f k a m b l) a b := by
  intro k
  induction k with
  | zero => intro a m b l h1 h2 h3; omega
  | succ k ih =>
    intro a m b l hk ham hmb hbl hs1 hs2
    rw [symM]
    by_cases c1 : m - a = 1
    · rw [if_pos c1]
      have hbd := bs_bound (fun h => decide (f (l.getD a 0) < f (l.getD h 0))) (b - m) m b (by omega)
      obtain ⟨q1, q2⟩ := bs_ok (fun h => decide (f (l.getD a 0) < f (l.getD h 0))) (b - m) m b (by omega) (by omega) (fun x y hx hxy hy hq => by
        simp only [decide_eq_true_eq] at hq ⊢
        rcases Nat.lt_or_ge x y with h | h
        · have := hs2 x y hx h hy; omega
        · rw [show x = y by omega]; exact hq)
      generalize bs (fun h => decide (f (l.getD a 0) < f (l.getD h 0))) (b - m) m b = i at hbd q1 q2
      simp only [decide_eq_true_eq, decide_eq_false_iff_not] at q1 q2
      obtain ⟨r, g⟩ := mvUp_ok (i - 1 - a) a l (by omega)
      rw [show a + (i - 1 - a) = i - 1 by omega] at g
      refine ⟨r.wide (Nat.le_refl _) (by omega), fun p q hp hpq hq => ?_⟩
      by_cases d1 : q ≤ i - 1
      · rw [g p hp (by omega), g q (by omega) d1, if_neg (show ¬ p = i - 1 by omega)]
        by_cases d2 : q = i - 1
        · rw [if_pos d2]
          have := q1 (p + 1) (by omega) (by omega); omega
        · rw [if_neg d2]
          exact hs2 (p + 1) (q + 1) (by omega) (by omega) (by omega)
      · rw [r.out q (by omega)]
        by_cases d2 : p ≤ i - 1
        · rw [g p hp d2]
          by_cases d3 : p = i - 1
          · rw [if_pos d3]
            have := q2 q (by omega) hq; omega
          · rw [if_neg d3]
            exact hs2 (p + 1) q (by omega) (by omega) hq
        · rw [r.out p (by omega)]
          exact hs2 p q (by omega) hpq hq
    · rw [if_neg c1]
      by_cases c2 : b - m = 1
      · rw [if_pos c2]
        have hbd := bs_bound (fun h => !decide (f (l.getD h 0) < f (l.getD m 0))) (m - a) a m (by omega)
        obtain ⟨q1, q2⟩ := bs_ok (fun h => !decide (f (l.getD h 0) < f (l.getD m 0))) (m - a) a m (by omega) (by omega) (fun x y hx hxy hy hq => by
          simp only [Bool.not_eq_true', decide_eq_false_iff_not] at hq ⊢
          rcases Nat.lt_or_ge x y with h | h
          · have := hs1 x y hx h hy; omega
          · rw [show x = y by omega]; exact hq)
        generalize bs (fun h => !decide (f (l.getD h 0) < f (l.getD m 0))) (m - a) a m = i at hbd q1 q2
        simp only [Bool.not_eq_true', Bool.not_eq_false', decide_eq_true_eq, decide_eq_false_iff_not] at q1 q2
        obtain ⟨r, g⟩ := mvDn_ok (m - i) m l (by omega) (by omega)
        rw [show m - (m - i) = i by omega] at g r
        refine ⟨r.wide (by omega) (by omega), fun p q hp hpq hq => ?_⟩
        by_cases d1 : i ≤ p
        · rw [g p d1 (by omega), g q (by omega) (by omega), if_neg (by omega)]
          by_cases d2 : p = i
          · rw [if_pos d2]
            have := q2 (q - 1) (by omega) (by omega); omega
          · rw [if_neg d2]
            exact hs1 (p - 1) (q - 1) (by omega) (by omega) (by omega)
        · rw [r.out p (by omega)]
          by_cases d2 : i ≤ q
          · rw [g q d2 (by omega)]
            by_cases d3 : q = i
            · rw [if_pos d3]
              have := q1 p hp (by omega); omega
            · rw [if_neg d3]
              exact hs1 p (q - 1) hp (by omega) (by omega)
          · rw [r.out q (by omega)]
            exact hs1 p q hp hpq (by omega)
      · rw [if_neg c2]
        dsimp only
        have hs0 : ∀ mid, mid = (a + b) / 2 → s0F m b mid a ≤ r0F m mid ∧ r0F m mid ≤ m ∧ a ≤ s0F m b mid a ∧ mid + m - s0F m b mid a ≤ b ∧ mid + m - r0F m mid ≥ m ∧ mid + m - r0F m mid ≥ mid ∧ s0F m b mid a ≤ mid + m ∧ r0F m mid ≤ mid ∧ (s0F m b mid a = a ∨ mid + m - s0F m b mid a = b) ∧ (r0F m mid = m ∨ mid + m - r0F m mid = m) := by
          intro mid hm
          unfold s0F r0F
          split <;> omega
        have hsF : sF f a m b l = bs (fun c => !decide (f (l.getD c 0) < f (l.getD ((a + b) / 2 + m - 1 - c) 0))) (r0F m ((a + b) / 2) - s0F m b ((a + b) / 2) a) (s0F m b ((a + b) / 2) a) (r0F m ((a + b) / 2)) := rfl
        have hb0 := hs0 _ rfl
        have hmb2 : m ≤ b := by omega
        generalize hmid : (a + b) / 2 = mid at hsF hb0
        generalize s0F m b mid a = s0 at hsF hb0
        generalize r0F m mid = r0 at hsF hb0
        obtain ⟨b1, b2, b3, b4, b5, b6, b7, b8, b9, b10⟩ := hb0
        have hbd := bs_bound (fun c => !decide (f (l.getD c 0) < f (l.getD (mid + m - 1 - c) 0))) (r0 - s0) s0 r0 b1
        obtain ⟨q1, q2⟩ := bs_ok (fun c => !decide (f (l.getD c 0) < f (l.getD (mid + m - 1 - c) 0))) (r0 - s0) s0 r0 (Nat.le_refl _) b1 (fun x y hx hxy hy hq => by
          simp only [Bool.not_eq_true', decide_eq_false_iff_not] at hq ⊢
          rcases Nat.lt_or_ge x y with h | h
          · have h1 := hs1 x y (by omega) h (by omega)
            have h2 := hs2 (mid + m - 1 - y) (mid + m - 1 - x) (by omega) (by omega) (by omega)
            omega
          · rw [show x = y by omega]; exact hq)
        rw [← hsF] at hbd q1 q2
        simp only [Bool.not_eq_true', Bool.not_eq_false', decide_eq_true_eq, decide_eq_false_iff_not] at q1 q2
        generalize sF f a m b l = s at hbd q1 q2
        generalize he : mid + m - s = e
        -- the four parts
        have x1 : ∀ p q, a ≤ p → p < s → e ≤ q → q < b → f (l.getD q 0) ≤ f (l.getD p 0) := fun p q h1 h2 h3 h4 => by
          have hne : s0 < s := by
            rcases b9 with h | h <;> omega
          have k1 := q1 (s - 1) (by omega) (by omega)
          rw [show mid + m - 1 - (s - 1) = e by omega] at k1
          have k2 : f (l.getD (s - 1) 0) ≤ f (l.getD p 0) := by
            rcases Nat.lt_or_ge p (s - 1) with h | h
            · exact hs1 p (s - 1) h1 h (by omega)
            · rw [show p = s - 1 by omega]; omega
          have k3 : f (l.getD q 0) ≤ f (l.getD e 0) := by
            rcases Nat.lt_or_ge e q with h | h
            · exact hs2 e q (by omega) h h4
            · rw [show q = e by omega]; omega
          omega
        have x2 : ∀ p q, m ≤ p → p < e → s ≤ q → q < m → f (l.getD q 0) ≤ f (l.getD p 0) := fun p q h1 h2 h3 h4 => by
          have hne : s < r0 := by
            rcases b10 with h | h <;> omega
          have k1 := q2 s (Nat.le_refl _) hne
          rw [show mid + m - 1 - s = e - 1 by omega] at k1
          have k2 : f (l.getD (e - 1) 0) ≤ f (l.getD p 0) := by
            rcases Nat.lt_or_ge p (e - 1) with h | h
            · exact hs2 p (e - 1) h1 h (by omega)
            · rw [show p = e - 1 by omega]; omega
          have k3 : f (l.getD q 0) ≤ f (l.getD s 0) := by
            rcases Nat.lt_or_ge s q with h | h
            · exact hs1 s q (by omega) h h4
            · rw [show q = s by omega]; omega
          omega
        -- after the rotation
        obtain ⟨ra, sa, sb, sc, sd, cross⟩ : Ran a b l (if s < m ∧ m < e then rotate s m e l else l) ∧ Sd f (if s < m ∧ m < e then rotate s m e l else l) a s ∧ Sd f (if s < m ∧ m < e then rotate s m e l else l) s mid ∧ Sd f (if s < m ∧ m < e then rotate s m e l else l) mid e ∧ Sd f (if s < m ∧ m < e then rotate s m e l else l) e b ∧
            ∀ p q, a ≤ p → p < mid → mid ≤ q → q < b → f ((if s < m ∧ m < e then rotate s m e l else l).getD q 0) ≤ f ((if s < m ∧ m < e then rotate s m e l else l).getD p 0) := by
          by_cases c : s < m ∧ m < e
          · simp only [if_pos c]
            obtain ⟨r, g⟩ := rotate_ok c.1 c.2 (l := l) (by omega)
            refine ⟨r.wide (by omega) (by omega), fun p q h1 h2 h3 => by rw [r.out p (by omega), r.out q (by omega)]; exact hs1 p q h1 h2 (by omega), fun p q h1 h2 h3 => ?_, fun p q h1 h2 h3 => ?_, fun p q h1 h2 h3 => ?_, fun p q h1 h2 h3 h4 => ?_⟩
            · rw [g p h1 (by omega), g q (by omega) (by omega), if_pos (by omega), if_pos (by omega)]
              exact hs2 _ _ (by omega) (by omega) (by omega)
            · rw [g p (by omega) (by omega), g q (by omega) h3, if_neg (by omega), if_neg (by omega)]
              exact hs1 _ _ (by omega) (by omega) (by omega)
            · rw [r.out p (by omega), r.out q (by omega)]
              exact hs2 p q (by omega) h2 h3
            · by_cases d1 : p < s
              · rw [r.out p (by omega)]
                by_cases d2 : q < e
                · rw [g q (by omega) d2, if_neg (by omega)]
                  exact hs1 _ _ h1 (by omega) (by omega)
                · rw [r.out q (by omega)]
                  exact x1 p q h1 d1 (by omega) h4
              · rw [g p (by omega) (by omega), if_pos (by omega)]
                by_cases d2 : q < e
                · rw [g q (by omega) d2, if_neg (by omega)]
                  exact x2 _ _ (by omega) (by omega) (by omega) (by omega)
                · rw [r.out q (by omega)]
                  exact hs2 _ _ (by omega) (by omega) h4
          · simp only [if_neg c]
            -- nothing to rotate: s = m or e = m, so that mid = e or mid = s
            have hm2 : (s = m ∧ e = mid) ∨ (e = m ∧ s = mid) := by omega
            refine ⟨Ran.refl _ _ _, fun p q h1 h2 h3 => hs1 p q h1 h2 (by omega), fun p q h1 h2 h3 => ?_, fun p q h1 h2 h3 => ?_, fun p q h1 h2 h3 => hs2 p q (by omega) h2 h3, fun p q h1 h2 h3 h4 => ?_⟩
            · rcases hm2 with ⟨e1, e2⟩ | ⟨e1, e2⟩
              · exact hs2 p q (by omega) h2 (by omega)
              · omega
            · rcases hm2 with ⟨e1, e2⟩ | ⟨e1, e2⟩
              · omega
              · exact hs1 p q (by omega) h2 (by omega)
            · rcases hm2 with ⟨e1, e2⟩ | ⟨e1, e2⟩
              · by_cases d1 : p < s
                · exact x1 p q h1 d1 (by omega) h4
                · exact hs2 p q (by omega) (by omega) h4
              · by_cases d2 : q < m
                · exact hs1 p q h1 (by omega) d2
                · exact x1 p q h1 (by omega) (by omega) h4
        have hla : (if s < m ∧ m < e then rotate s m e l else l).length = l.length := ra.len
        generalize (if s < m ∧ m < e then rotate s m e l else l) = l1 at ra sa sb sc sd cross hla
        -- the first half
        obtain ⟨rb, s2a⟩ : Ran a mid l1 (if a < s ∧ s < mid then symM f k a s mid l1 else l1) ∧ Sd f (if a < s ∧ s < mid then symM f k a s mid l1 else l1) a mid := by
          by_cases c : a < s ∧ s < mid
          · simp only [if_pos c]
            exact ih a s mid l1 (by omega) c.1 c.2 (by omega) sa sb
          · simp only [if_neg c]
            refine ⟨Ran.refl _ _ _, fun p q h1 h2 h3 => ?_⟩
            by_cases d : s = mid
            · exact sa p q h1 h2 (by omega)
            · exact sb p q (by omega) h2 h3
        have sc' := sc.ran rb (.inr (Nat.le_refl _))
        have sd' := sd.ran rb (.inr (by omega))
        have cross' : ∀ p q, a ≤ p → p < mid → mid ≤ q → q < b → f ((if a < s ∧ s < mid then symM f k a s mid l1 else l1).getD q 0) ≤ f ((if a < s ∧ s < mid then symM f k a s mid l1 else l1).getD p 0) := fun p q h1 h2 h3 h4 => by
          obtain ⟨p', k1, k2, k3⟩ := rb.inn p h1 h2
          rw [k3, rb.out q (by omega)]
          exact cross p' q k1 k2 h3 h4
        have hlb : (if a < s ∧ s < mid then symM f k a s mid l1 else l1).length = l.length := rb.len.trans hla
        generalize (if a < s ∧ s < mid then symM f k a s mid l1 else l1) = l2 at rb s2a sc' sd' cross' hlb
        -- the other half
        obtain ⟨rc, s3a⟩ : Ran mid b l2 (if mid < e ∧ e < b then symM f k mid e b l2 else l2) ∧ Sd f (if mid < e ∧ e < b then symM f k mid e b l2 else l2) mid b := by
          by_cases c : mid < e ∧ e < b
          · simp only [if_pos c]
            exact ih mid e b l2 (by omega) c.1 c.2 (by omega) sc' sd'
          · simp only [if_neg c]
            refine ⟨Ran.refl _ _ _, fun p q h1 h2 h3 => ?_⟩
            by_cases d : e = mid
            · exact sd' p q (by omega) h2 h3
            · exact sc' p q h1 h2 (by omega)
        have s2a' := s2a.ran rc (.inl (Nat.le_refl _))
        refine ⟨ra.trans ((rb.wide (Nat.le_refl _) (by omega)).trans (rc.wide (by omega) (Nat.le_refl _))), fun p q h1 h2 h3 => ?_⟩
        by_cases d1 : q < mid
        · exact s2a' p q h1 h2 d1
        · by_cases d2 : p < mid
          · obtain ⟨q', k1, k2, k3⟩ := rc.inn q (by omega) h3
            rw [k3, rc.out p (by omega)]
            exact cross' p q' h1 d2 k1 k2
          · exact s3a p q (by omega) h2 h3
theorem stable_ok (f : Int → Int) {n : Nat} {l : List Int} (hl : l.length = n) : (stable f n l).Perm l ∧ Sd f (stable f n l) 0 n := by
  unfold stable stab1
  by_cases c1 : 20 ≤ n
  · rw [if_pos c1]
    obtain ⟨r1, s1⟩ := insertion_ok f (a := 0) (b := 20) (l := l) (by omega) (by omega)
    obtain ⟨r2, s2⟩ := insertion_ok f (a := 20) (b := n) (l := insertion f 0 20 l) c1 (by rw [r1.len]; omega)
    have s1' := s1.ran r2 (.inl (Nat.le_refl _))
    by_cases c2 : 20 < n
    · rw [if_pos c2]
      obtain ⟨r3, s3⟩ := symM_ok f n 0 20 n (insertion f 20 n (insertion f 0 20 l)) (by omega) (by omega) c2 (by rw [r2.len, r1.len]; omega) s1' s2
      exact ⟨r3.perm.trans (r2.perm.trans r1.perm), s3⟩
    · rw [if_neg c2]
      have : n = 20 := by omega
      subst this
      exact ⟨r2.perm.trans r1.perm, s1'⟩
  · rw [if_neg c1, if_neg (by omega)]
    obtain ⟨r1, s1⟩ := insertion_ok f (a := 0) (b := n) (l := l) (by omega) (by omega)
    exact ⟨r1.perm, s1⟩
end Go.Proofs.Ytmhfkhlamnapdaa
end
section
open Go Go.HL
namespace Go.Proofs.Ytmhfkhlamnapdaa
theorem res47 : Try.f47.results.toList = [.tmp 6] := by kernel_rfl
def bestGo : Nat → Int → List Int → Int
  | _, mo, [] => mo
  | i, mo, t :: l => bestGo (i + 1) (max mo ((i : Int) + 1 + t)) l
abbrev boxK (v w : Int) : Blk := .arr 2 [.agg [.int .i64 v, .int .i64 w]] true 0
section
variable {adj : List (List Nat)} {T : Int → Int → Int} {n : Nat}
theorem mxs_fr {H H' : Heap} {m : Nat} (hM : Mem adj T H') (hs : ∀ j, j ≠ 1 → H'[j]? = H[j]?) (hx : mxs H ≤ m) : mxs H' ≤ m := by
  rw [mxs_get] at hx ⊢
  intro j B hB
  by_cases e : j = 1
  · obtain ⟨ks, hks⟩ := hM.memo
    rw [e, hks] at hB
    rw [← Option.some.inj hB]; exact Nat.zero_le _
  · rw [hs j e] at hB; exact hx j B hB
end
section
variable {adj : List (List Nat)} {T : Int → Int → Int} {n : Nat}
theorem gr_of {H Hd : Heap} (hM : Mem adj T H) (hD : Mem adj T Hd) (hlen : H.length ≤ Hd.length) (hs : ∀ j, j ≠ 1 → j < H.length → Hd[j]? = H[j]?) (hx : mxs Hd ≤ H.length + 4) (hb : ∀ (j : Nat) (B : Blk), H.length ≤ j → j < H.length + 4 → Hd[j]? = some B → B.mx ≤ 2) : Gr adj T H (gc H.length 0 Hd) := by
  have h2 := hM.two
  have hm := hD.mx
  have e : gc H.length 0 Hd = Hd.take (max H.length (mxs Hd)) := by
    simp only [gc, Nat.zero_max]
  rw [e]
  refine ⟨hD.take (by omega) (by omega) (by omega), by rw [List.length_take]; omega, fun k h1 hk => by rw [List.getElem?_take, if_pos (by omega)]; exact hs k h1 hk, ?_⟩
  rw [mxs_get]
  intro j B hB
  rw [List.getElem?_take] at hB
  split at hB
  · by_cases c : j < H.length
    · by_cases e1 : j = 1
      · obtain ⟨ks, hks⟩ := hD.memo
        rw [e1, hks] at hB
        rw [← Option.some.inj hB]; exact Nat.zero_le _
      · rw [hs j e1 c] at hB
        exact mxs_get.1 hM.mx j B hB
    · have := hb j B (by omega) (by omega) hB
      omega
  · cases hB
end
section
variable {adj : List (List Nat)} {T : Int → Int → Int} {n : Nat}
abbrev tmQ (n : Nat) (v w : Int) (tb kb : Nat) (v9 v10 v11 v12 v28 v29 v30 : HV) : Env := env47 (TV n) (.int .i64 v) (.int .i64 w) (.ptr tb 0 0 1) (.int .i64 0) (.ptr kb 0 0 1) v9 v10 v11 v12 v28 v29 v30
end
section
variable {adj : List (List Nat)} {T : Int → Int → Int} {n : Nat}
theorem ti_loop {v w : Int} {tb kb cb : Nat} {S : List Int} {k : Nat} (hk : S.length = k) (hk9 : k ≤ 1000) (htb : tb ≠ 1 ∧ kb ≠ 1 ∧ cb ≠ 1) (hT : ∀ u, u ∈ S → TimeOk adj T n u v) (hB : ∀ u, u ∈ S → 0 ≤ T u v ∧ T u v ≤ 100000) :
    ∀ d i mo H, i + d = k → Mem adj T H → H[cb]? = some (bI S) → H[tb]? = some (boxT n) → kb < H.length →
    ∃ H', RunsTo Try.prog polS 47 (sub [1, 1, 0, 1, 1, 0, 1, 0, 1, 0] B47) (tmQ n v w tb kb .undef (.int .i64 mo) .undef .undef (.sl cb 0 k none k 1) (.int .i64 (k : Int)) (.int .i64 (i : Int))) H
      (.exit 0) (polS.keys 47) (tmQ n v w tb kb .undef (.int .i64 (bestGo i mo ((S.drop i).map fun u => T u v))) .undef .undef (.sl cb 0 k none k 1) (.int .i64 (k : Int)) (.int .i64 (k : Int))) H' ∧ Mem adj T H' ∧ Fr H H' := by
  intro d
  induction d with
  | zero =>
    intro i mo H hi hM hc ht hkb
    have hi : i = k := by omega
    subst hi
    rw [List.drop_of_length_le (by omega)]
    exact ⟨H, RunsTo.loop_out (ti_l_1 0 n v w tb kb H mo cb i i i (by omega)) (by simp) (by kernel_rfl) (by kernel_rfl), hM, Fr.refl _⟩
  | succ d ih =>
    intro i mo H hi hM hc ht hkb
    have hiS : i < S.length := by omega
    have hmem : S.getD i 0 ∈ S := by
      have : S.getD i 0 = S[i] := by simp [List.getD, List.getElem?_eq_getElem hiS]
      rw [this]; exact List.getElem_mem hiS
    obtain ⟨H1, hcl, hG⟩ := hT _ hmem H hM
    obtain ⟨N, hN⟩ := hcl.from
    have hb := hB _ hmem
    have s := ti_l_0 N n v w tb kb H mo cb k k i (S.getD i 0) (T (S.getD i 0) v) H1 (by omega) (gi2 (by omega)) (gl2 hc hk (by omega)) (ld_T ht) hN
    have w1 : IntKind.i64.wrap (((i : Nat) : Int) + 1) = (i : Int) + 1 := by rw [wrapI64]; omega
    have w2 : IntKind.i64.wrap ((i : Int) + 1 + T (S.getD i 0) v) = (i : Int) + 1 + T (S.getD i 0) v := by rw [wrapI64]; omega
    rw [w1, w2] at s
    have hcl := lt_of_get hc
    have htl := lt_of_get ht
    have h2 := hM.two
    obtain ⟨hM1, hF1⟩ := hG.fr h2 (r := bndE (tmQ n v w tb kb .undef (.int .i64 (max mo ((i : Int) + 1 + T (S.getD i 0) v))) .undef .undef (.sl cb 0 k none k 1) (.int .i64 (k : Int)) (.int .i64 ((i : Int) + 1)))) (by simp only [bndE, bnd, bndL]; omega)
    obtain ⟨H', r, hM', hF'⟩ := ih (i + 1) (max mo ((i : Int) + 1 + T (S.getD i 0) v)) _ (by omega) hM1 (by rw [hF1.same _ htb.2.2]; exact hc) (by rw [hF1.same _ htb.1]; exact ht) (by rw [hF1.len]; exact hkb)
    rw [List.drop_eq_getElem_cons hiS, List.map_cons, bestGo]
    have hg : S[i] = S.getD i 0 := by simp [List.getD, List.getElem?_eq_getElem hiS]
    rw [hg]
    refine ⟨H', RunsTo.loop s (by kernel_rfl) rfl r rfl (by kernel_rfl) (by kernel_rfl), hM', hF1.trans hF'⟩
end
section
variable {adj : List (List Nat)} {T : Int → Int → Int} {n : Nat}
theorem time_step {v : Nat} {w : Int} {r : List Nat} (hn : adj.length = n) (hr : adj[v]? = some r) (h39 : r.length ≤ 39) (hT : ∀ u, u ∈ keep w (rowI r) → TimeOk adj T n u v) (hB : ∀ u, u ∈ keep w (rowI r) → 0 ≤ T u v ∧ T u v ≤ 100000)
    (hrec : T v w = bestGo 0 0 ((stable (fun u => T u v) (keep w (rowI r)).length (keep w (rowI r))).map fun u => T u v)) : TimeOk adj T n v w := by
  intro H hM
  have h2 := hM.two
  have hb0 : newV (TV n) H = (.ptr H.length 0 0 1, H ++ [boxT n]) := by
    simp only [newV, cellsOf, bnd, bndL, List.length_cons, List.length_nil]
    simp
  have a := ti_a_0 0 n v w H.length H _ (by rw [hb0])
  have hb1 : newV (.agg [.i 0, .i 0]) (H ++ [boxT n]) = (.ptr (H.length + 1) 0 0 1, H ++ [boxT n] ++ [boxK 0 0]) := by
    simp only [newV, cellsOf, bnd, bndL, List.length_cons, List.length_nil, List.length_append]
    simp
  have hk0 : (H ++ [boxT n] ++ [boxK 0 0])[H.length + 1]? = some (boxK 0 0) := by rw [List.getElem?_append_right (by simp)]; simp
  have hst : storeV Try.prog (H ++ [boxT n] ++ [boxK 0 0]) 33 (.ptr (H.length + 1) 0 0 1) (.agg [.i v, .i w]) = some ((H ++ [boxT n] ++ [boxK 0 0]).set (H.length + 1) (boxK v w)) := by
    have := store_agg (P := Try.prog) (t := 33) (b := H.length + 1) (i := 0) (tot := 1) (new := [.i (v : Int), .i w]) hk0 rfl rfl s33c rfl (by simp) rfl rfl
    rw [this]; rfl
  have b := ti_b_0 0 n v w H.length (H.length + 1) (H ++ [boxT n]) _ _ (by rw [hb1]) hst
  have hset : (H ++ [boxT n] ++ [boxK 0 0]).set (H.length + 1) (boxK v w) = H ++ [boxT n] ++ [boxK v w] := by
    rw [List.set_append_right _ _ (by simp)]; simp
  rw [hset] at b
  have hMa : Mem adj T (H ++ [boxT n] ++ [boxK v w]) := (hM.app (same_T n) (by show 2 ≤ _; omega)).app (by simp [sameH, sameL, same]) (Nat.zero_le _)
  have hla : (H ++ [boxT n] ++ [boxK (v : Int) w]).length = H.length + 2 := by simp
  have hlow : ∀ j, j < H.length → (H ++ [boxT n] ++ [boxK (v : Int) w])[j]? = H[j]? := fun j hj => by
    rw [List.getElem?_append_left (by simp; omega), List.getElem?_append_left hj]
  have gT : (H ++ [boxT n] ++ [boxK (v : Int) w])[H.length]? = some (boxT n) := by
    rw [List.getElem?_append_left (by simp), List.getElem?_append_right (Nat.le_refl _)]; simp
  have gK : (H ++ [boxT n] ++ [boxK (v : Int) w])[H.length + 1]? = some (boxK v w) := by
    rw [List.getElem?_append_right (by simp)]; simp
  generalize H ++ [boxT n] ++ [boxK (v : Int) w] = Ha at b hMa hla hlow gT gK
  have ldK : ∀ {Hx : Heap}, Hx[H.length + 1]? = some (boxK v w) → loadV Try.prog Hx 33 (.ptr (H.length + 1) 0 0 1) = some (.agg [.i v, .i w]) := fun h => load_agg h rfl rfl a33c s33c
  have done : ∀ (E : Env) (Hd : Heap), RunsTo Try.prog polS 47 (sub [1, 1] B47) (tmQ n v w H.length (H.length + 1) .undef .undef .undef .undef .undef .undef .undef) Ha .ret (polS.keys 47) E Hd → E.get 6 = .i (T v w) → Cl 47 [TV n, .i v, .i w] H (.i (T v w)) (gc H.length 0 Hd) := by
    intro E Hd t h6
    have t2 := RunsTo.seq a (RunsTo.seq b t (c := sub [1] B47) (by kernel_rfl) (by kernel_rfl)) (c := B47) (by kernel_rfl) (by kernel_rfl)
    exact CallsTo.shared (P := Try.prog) (pol := polS) (g := 47) (fn := Try.f47) (cd := B47) (args := [TV n, .i v, .i w]) (v := .i (T v w)) (by kernel_rfl) (by kernel_rfl) (by kernel_rfl) (by kernel_rfl) t2 (by kernel_rfl) (by simp) (by simp only [resultsV, res47, mapO, resultV, h6])
  obtain ⟨bb, hl1, hl2⟩ := hMa.lk (v, w)
  cases bb with
  | true =>
    have c := ti_c_0 0 n v w H.length (H.length + 1) Ha _ (ld_m gT) (ldK gK) hl1
    have d := ti_dt_0 0 n v w H.length (H.length + 1) Ha
    have z := ti_z_0 0 n v w H.length (H.length + 1) Ha (.bool true) .undef .undef .undef .undef .undef .undef (T v w) (ld_m gT) (ldK gK) (hl2 rfl)
    have sk : RunsTo Try.prog polS 47 (sub [1, 1, 0, 1, 1, 1] B47) (tmQ n v w H.length (H.length + 1) (.bool true) .undef .undef .undef .undef .undef .undef) Ha .normal (polS.keys 47) (tmQ n v w H.length (H.length + 1) (.bool true) .undef .undef .undef .undef .undef .undef) Ha := RunsTo.hint 1 60 [] fun kf hk => by
      obtain ⟨kf, rfl⟩ : ∃ n, kf = n + 1 := ⟨kf - 1, by omega⟩
      exact ⟨[], by kernel_rfl, Obls.nil⟩
    have t1 := RunsTo.seq d (RunsTo.cond (y := .tmp 24) (t := false) (c := sub [1, 1, 0, 1, 1] B47) (a := sub [1, 1, 0, 1, 1, 0] B47) (b := sub [1, 1, 0, 1, 1, 1] B47) (by kernel_rfl) rfl sk) (c := sub [1, 1, 0, 1] B47) (by kernel_rfl) (by kernel_rfl)
    have t2 := RunsTo.seq (RunsTo.seq c t1 (c := sub [1, 1, 0] B47) (by kernel_rfl) (by kernel_rfl)) z (c := sub [1, 1] B47) (by kernel_rfl) (by kernel_rfl)
    refine ⟨_, done _ _ t2 rfl, gr_of hM hMa (by omega) (fun j h1 hj => hlow j hj) (by have := hMa.mx; omega) fun j B h1 h3 hB => ?_⟩
    have hjl := lt_of_get hB
    by_cases e : j = H.length
    · rw [e, gT] at hB
      rw [← Option.some.inj hB]; exact Nat.le_refl _
    · have e : j = H.length + 1 := by omega
      rw [e, gK] at hB
      rw [← Option.some.inj hB]; exact Nat.zero_le _
  | false =>
    have c := ti_c_1 0 n v w H.length (H.length + 1) Ha (ld_m gT) (ldK gK) hl1
    have d := ti_df_0 0 n v w H.length (H.length + 1) Ha
    have e := ti_e_0 0 n v w H.length (H.length + 1) Ha
    obtain ⟨Hb, hclb, hMb, hlb, hSb, hlowb, gTb, gIb, hxb⟩ := br_call hMa hn hr h39 hT
    obtain ⟨Nb, hNb⟩ := hclb.from
    have f := ti_f_0 Nb n v w H.length (H.length + 1) Ha 0 _ _ _ Hb (ld_T gT) hNb
    rw [hla] at hlb hSb gTb gIb hxb f
    have hok := stable_ok (fun u => T u v) (n := (keep w (rowI r)).length) (l := keep w (rowI r)) rfl
    have hkl : (keep w (rowI r)).length ≤ 39 := by
      have h1 : (keep w (rowI r)).length ≤ (rowI r).length := List.length_filter_le _ _
      have h2 : (rowI r).length = r.length := by simp [rowI]
      omega
    have hmm : ∀ u, u ∈ stable (fun u => T u v) (keep w (rowI r)).length (keep w (rowI r)) → u ∈ keep w (rowI r) := fun u hu => hok.1.mem_iff.1 hu
    have gT2 : Hb[H.length]? = some (boxT n) := by rw [hlowb _ (by omega) (by omega)]; exact gT
    have gK2 : Hb[H.length + 1]? = some (boxK v w) := by rw [hlowb _ (by omega) (by omega)]; exact gK
    obtain ⟨Hc, rl, hMc, hFc⟩ := ti_loop (adj := adj) (T := T) (n := n) (v := (v : Int)) (w := w) (tb := H.length) (kb := H.length + 1) (cb := H.length + 2 + 5) (S := stable (fun u => T u v) (keep w (rowI r)).length (keep w (rowI r))) (k := (keep w (rowI r)).length) (stable_len _ _ _) (by omega) ⟨by omega, by omega, by omega⟩ (fun u hu => hT u (hmm u hu)) (fun u hu => hB u (hmm u hu)) (keep w (rowI r)).length 0 0 Hb (by omega) hMb hSb gT2 (by omega)
    rw [List.drop_zero, ← hrec] at rl
    have gT3 : Hc[H.length]? = some (boxT n) := by rw [hFc.same _ (by omega)]; exact gT2
    have gK3 : Hc[H.length + 1]? = some (boxK v w) := by rw [hFc.same _ (by omega)]; exact gK2
    obtain ⟨Hd, hu, hMd, hFd, hlk, hsd⟩ := hMc.upd (v, w)
    have gT4 : Hd[H.length]? = some (boxT n) := by rw [hsd _ (by omega)]; exact gT3
    have gK4 : Hd[H.length + 1]? = some (boxK v w) := by rw [hsd _ (by omega)]; exact gK3
    have g := ti_g_0 0 n v w H.length (H.length + 1) Hc (T v w) (H.length + 2 + 5) (keep w (rowI r)).length (keep w (rowI r)).length (keep w (rowI r)).length Hd (ld_m gT3) (ldK gK3) hu
    have z := ti_z_0 0 n v w H.length (H.length + 1) Hd .undef (.i (T v w)) .undef .undef (.sl (H.length + 2 + 5) 0 (keep w (rowI r)).length none (keep w (rowI r)).length 1) (.i ((keep w (rowI r)).length : Int)) (.i ((keep w (rowI r)).length : Int)) (T v w) (ld_m gT4) (ldK gK4) hlk
    have rl' := RunsTo.loop_in (e0 := tmQ n v w H.length (H.length + 1) (.bool false) (.i 0) .undef .undef (.sl (H.length + 2 + 5) 0 (keep w (rowI r)).length none (keep w (rowI r)).length 1) (.i ((keep w (rowI r)).length : Int)) (.i 0)) rl (b := sub [1, 1, 0, 1, 1, 0, 1, 0, 1, 0, 0] B47) (by kernel_rfl) (by kernel_rfl) (by kernel_rfl)
    have t1 := RunsTo.seq f (RunsTo.block_exit (c := sub [1, 1, 0, 1, 1, 0, 1, 0, 1] B47) rl' (by kernel_rfl)) (c := sub [1, 1, 0, 1, 1, 0, 1, 0] B47) (by kernel_rfl) (by kernel_rfl)
    have t2 := RunsTo.seq t1 g (c := sub [1, 1, 0, 1, 1, 0, 1] B47) (by kernel_rfl) (by kernel_rfl)
    have t3 := RunsTo.seq e t2 (c := sub [1, 1, 0, 1, 1, 0] B47) (by kernel_rfl) (by kernel_rfl)
    have t4 := RunsTo.seq d (RunsTo.cond (y := .tmp 24) (t := true) (c := sub [1, 1, 0, 1, 1] B47) (a := sub [1, 1, 0, 1, 1, 0] B47) (b := sub [1, 1, 0, 1, 1, 1] B47) (by kernel_rfl) rfl t3) (c := sub [1, 1, 0, 1] B47) (by kernel_rfl) (by kernel_rfl)
    have t5 := RunsTo.seq (RunsTo.seq c t4 (c := sub [1, 1, 0] B47) (by kernel_rfl) (by kernel_rfl)) z (c := sub [1, 1] B47) (by kernel_rfl) (by kernel_rfl)
    have hsame : ∀ j, j ≠ 1 → Hd[j]? = Hb[j]? := fun j h1 => by rw [hsd j h1, hFc.same j h1]
    refine ⟨_, done _ _ t5 rfl, gr_of hM hMd (by rw [hFd.len, hFc.len]; omega) (fun j h1 hj => by rw [hsame j h1, hlowb j h1 (by omega), hlow j hj]) (mxs_fr hMd hsame (by omega)) fun j B h1 h3 hB => ?_⟩
    rw [hsame j (by omega)] at hB
    by_cases e : j = H.length
    · rw [e, gT2] at hB
      rw [← Option.some.inj hB]; exact Nat.le_refl _
    · by_cases e2 : j = H.length + 1
      · rw [e2, gK2] at hB
        rw [← Option.some.inj hB]; exact Nat.zero_le _
      · by_cases e3 : j = H.length + 2
        · rw [e3, gTb] at hB
          rw [← Option.some.inj hB]; exact Nat.le_refl _
        · have e4 : j = H.length + 2 + 1 := by omega
          rw [e4, gIb] at hB
          rw [← Option.some.inj hB]; exact Nat.zero_le _
end
end Go.Proofs.Ytmhfkhlamnapdaa
end
section
open Go Go.HL
namespace Go.Proofs.Ytmhfkhlamnapdaa
theorem res57 : Try.f57.results.toList = [.tmp 8] := by kernel_rfl
theorem info3b : (Try.prog.info? 3).map (fun i => (i.size, i.bytes, zeroFits i)) = some (1, 8, true) := by kernel_rfl
theorem appV_ints {H : Heap} {b : Nat} {o xs : List Int} (hb : H[b]? = some (bI o)) (hlen : o.length + xs.length ≤ 1000) (hx : xs ≠ []) :
    appV H 1 8 (.sl b 0 o.length none o.length 1) (xs.map encI) = some (.sl b 0 (o.length + xs.length) none (o.length + xs.length) 1, H.set b (bI (o ++ xs))) := by
  have hbl : ∀ l : List Int, bndL (l.map encI) = 0 := by
    intro l
    induction l with
    | nil => rfl
    | cons a l ih => simp only [List.map_cons, bndL, ih, encI, bnd]; rfl
  have hne : xs.map encI ≠ [] := by simpa using hx
  simp only [appV, if_neg hne, hb, List.length_map, hbl]
  rw [if_pos ⟨trivial, trivial, trivial, by rw [show roomMax = 70368744177664 from rfl]; omega⟩, if_pos ⟨trivial, trivial, trivial⟩]
  simp only [bI, List.map_append, Nat.max_zero]
theorem set_self' {H : Heap} {b : Nat} {B : Blk} (hb : H[b]? = some B) : H.set b B = H := by
  apply List.ext_getElem?
  intro k
  rw [List.getElem?_set]
  by_cases e : b = k
  · subst e; rw [if_pos rfl, if_pos (lt_of_get hb), hb]
  · rw [if_neg e]
theorem app_sq {H : Heap} {b : Nat} {x : HV} {o xs : List Int} (hb : H[b]? = some (bI o)) (hs : srcOf H x = some (xs.map encI, 1)) (hlen : o.length + xs.length ≤ 1000) :
    builtinV Try.prog .append [24, 24] [.sl b 0 o.length none o.length 1, x] H = some (.sl b 0 (o.length + xs.length) none (o.length + xs.length) 1, H.set b (bI (o ++ xs))) := by
  have hi := info3b
  cases hinf : Try.prog.info? 3 with
  | none => rw [hinf] at hi; cases hi
  | some inf =>
    rw [hinf] at hi
    simp only [Option.map, Option.some.injEq, Prod.mk.injEq] at hi
    obtain ⟨e1, e2, e3⟩ := hi
    simp only [builtinV, u24b, hinf, hs, e1, e2, e3]
    rw [if_pos ⟨.inl trivial, by omega, trivial⟩]
    by_cases hx : xs = []
    · subst hx
      simp only [List.map_nil, appV, if_true, List.length_nil, Nat.add_zero, List.append_nil, set_self' hb]
    · exact appV_ints hb hlen hx
theorem src_sl {H : Heap} {b off len tot : Nat} {o : List Int} (hb : H[b]? = some (bI o)) (ht : o.length = tot) (h : off + len ≤ tot) : srcOf H (.sl b off len none tot 1) = some (((o.drop off).take len).map encI, 1) := by
  simp only [srcOf]
  split
  · rename_i h0
    subst h0
    simp
  · simp only [view, hb, List.length_map, ht]
    rw [if_pos ⟨trivial, by omega, trivial⟩]
    simp [List.map_take, List.map_drop]
def dsIns (t : Int) : List Int → List Int
  | [] => [t]
  | a :: l => if t ≤ a then a :: dsIns t l else t :: a :: l
def dsAcc : List Int → List Int → List Int
  | acc, [] => acc
  | acc, t :: l => dsAcc (dsIns t acc) l
theorem dsIns_len (t : Int) : ∀ l : List Int, (dsIns t l).length = l.length + 1
  | [] => rfl
  | a :: l => by
    rw [dsIns]
    split
    · simp [dsIns_len t l]
    · rfl
theorem dsIns_at (t : Int) : ∀ (l : List Int) (p : Nat), p ≤ l.length → (∀ i, i < p → t ≤ l.getD i 0) → (p < l.length → ¬ t ≤ l.getD p 0) → dsIns t l = l.take p ++ [t] ++ l.drop p
  | [], p, h, _, _ => by simp [dsIns]
  | a :: l, 0, _, _, h => by
    have h := h (by simp)
    simp only [List.getD_cons_zero] at h
    rw [dsIns, if_neg h]; simp
  | a :: l, p + 1, h0, h1, h2 => by
    have ha := h1 0 (by omega)
    simp only [List.getD_cons_zero] at ha
    rw [dsIns, if_pos ha, dsIns_at t l p (by simpa using h0) (fun i hi => by simpa using h1 (i + 1) (by omega)) (fun hp => by simpa using h2 (by simpa using hp))]
    simp
def RT (n : Int) (l : List (Int × Int)) (T : Int → Int → Int) (x w : Int) : Prop :=
  ∀ H, CallsTo (P := Try.prog) (pol := polN) 57 [.int .i64 n, .imm .arg 2 (l.map encP), .int .i64 x, .int .i64 w] H (.int .i64 (T x w)) H
abbrev rtE (n : Int) (lc : List HV) (x w : Int) (r8 : Int) (v9 v10 v11 v12 v13 v14 v15 v16 : HV) : Env := env57 (.int .i64 n) (.imm .arg 2 lc) (.int .i64 x) (.int .i64 w) (.int .i64 r8) v9 v10 v11 v12 v13 v14 v15 v16
section
variable {n : Int} {lc : List HV} {x w : Int}
theorem rt_scan {tb nbk m i : Nat} {q : Int} {o : List Int} {H : Heap} (ho : H[tb]? = some (bI o)) (h1000 : o.length ≤ 1000) : ∀ d j, j + d = o.length → (∀ i, i < j → q ≤ o.getD i 0) →
    ∃ p : Nat, RunsTo Try.prog polN 57 (sub [1, 1, 1, 0, 1, 0, 0, 1, 0, 0, 1, 1, 1, 0, 0] B57) (rtE n lc x w 0 (.sl tb 0 o.length none o.length 1) (.sl nbk 0 m none m 1) (.int .i64 (i : Int)) (.int .i64 q) (.int .i64 (j : Int)) .undef .undef .undef) H
      (.exit 2) (polN.keys 57) (rtE n lc x w 0 (.sl tb 0 o.length none o.length 1) (.sl nbk 0 m none m 1) (.int .i64 (i : Int)) (.int .i64 q) (.int .i64 (p : Int)) .undef .undef .undef) H ∧ p ≤ o.length ∧ dsIns q o = o.take p ++ [q] ++ o.drop p := by
  intro d
  induction d with
  | zero =>
    intro j hj h
    have hj : j = o.length := by omega
    exact ⟨j, RunsTo.loop_out (rt_l_2 0 n lc x w H tb o.length nbk m i q j (by omega)) (by simp) (by kernel_rfl) (by kernel_rfl), by omega, dsIns_at q o j (by omega) h (fun hp => by omega)⟩
  | succ d ih =>
    intro j hj h
    by_cases c : q ≤ o.getD j 0
    · have s := rt_l_0 0 n lc x w H tb o.length nbk m i q j _ (by omega) (gi2 (by omega)) (gl2 ho rfl (by omega)) c
      rw [wrap_succ (by omega)] at s
      obtain ⟨p, r, h1, h2⟩ := ih (j + 1) (by omega) (fun i hi => by
        by_cases e : i = j
        · rw [e]; exact c
        · exact h i (by omega))
      exact ⟨p, RunsTo.loop s (by kernel_rfl) (gc_eq _ rfl) r rfl (by kernel_rfl) (by kernel_rfl), h1, h2⟩
    · have s := rt_l_1 0 n lc x w H tb o.length nbk m i q j _ (by omega) (gi2 (by omega)) (gl2 ho rfl (by omega)) c
      exact ⟨j, RunsTo.loop_out s (by simp) (by kernel_rfl) (by kernel_rfl), by omega, dsIns_at q o j (by omega) h (fun _ => c)⟩
end
section
variable {n : Int} {lc : List HV} {x w : Int}
theorem slV_hi {b m j : Nat} (h : j ≤ m) : sliceV Try.prog 24 (.sl b 0 m none m 1) none (some (.int .i64 (j : Int))) none = some (.sl b 0 j none m 1) := by
  have hb0 : boundV (some (.int .i64 (j : Int))) = some (some j) := by simp [boundV]
  have hbn : boundV none = some none := rfl
  simp only [sliceV, hb0, hbn, u24b, z3b, if_true, Option.getD, Option.map]
  rw [if_pos (by omega)]
  simp
end
section
variable {n : Int} {lc : List HV} {x w : Int}
theorem slV_lo {b m j : Nat} (h : j ≤ m) : sliceV Try.prog 24 (.sl b 0 m none m 1) (some (.int .i64 (j : Int))) none none = some (.sl b j (m - j) none m 1) := by
  have hb0 : boundV (some (.int .i64 (j : Int))) = some (some j) := by simp [boundV]
  have hbn : boundV none = some none := rfl
  simp only [sliceV, hb0, hbn, u24b, z3b, if_true, Option.getD, Option.map]
  rw [if_pos (by omega)]
  simp
end
section
variable {n : Int} {lc : List HV} {x w : Int}
theorem rt_ins {tb nbk m i p : Nat} {q : Int} {o : List Int} {H : Heap} (ho : H[tb]? = some (bI o)) (h100 : o.length ≤ 100) (hp : p ≤ o.length) (hd : dsIns q o = o.take p ++ [q] ++ o.drop p) :
    RunsTo Try.prog polN 57 (sub [1, 1, 1, 0, 1, 0, 0, 1, 0, 0, 1, 1, 1, 1] B57) (rtE n lc x w 0 (.sl tb 0 o.length none o.length 1) (.sl nbk 0 m none m 1) (.int .i64 (i : Int)) (.int .i64 q) (.int .i64 (p : Int)) .undef .undef .undef) H
      .normal (polN.keys 57) (rtE n lc x w 0 (.sl H.length 0 (o.length + 1) none (o.length + 1) 1) (.sl nbk 0 m none m 1) (.int .i64 (i : Int)) (.int .i64 q) (.int .i64 (p : Int)) (.sl H.length 0 (p + 1) none (p + 1) 1) .undef .undef) (H ++ [bI (dsIns q o)]) := by
  have htl := lt_of_get ho
  have hap : ∀ xs : List Int, (H ++ [bI xs])[tb]? = some (bI o) := fun xs => by rw [List.getElem?_append_left htl]; exact ho
  have hsl : ∀ xs : List Int, (H ++ [bI xs])[H.length]? = some (bI xs) := fun xs => by rw [List.getElem?_append_right (Nat.le_refl _)]; simp
  have hst : ∀ xs ys : List Int, (H ++ [bI xs]).set H.length (bI ys) = H ++ [bI ys] := fun xs ys => by rw [List.set_append_right _ _ (Nat.le_refl _)]; simp
  have g2 := app_sq (H := H ++ [bI []]) (b := H.length) (x := .sl tb 0 p none o.length 1) (o := []) (xs := o.take p) (hsl []) (by
    have := src_sl (H := H ++ [bI []]) (off := 0) (len := p) (hap []) rfl (by omega)
    rw [List.drop_zero] at this; exact this) (by simp; omega)
  have hl1 : (o.take p).length = p := by simp; omega
  rw [hst, List.nil_append, hl1, List.length_nil, Nat.zero_add] at g2
  have g3 := appV_ints (H := H ++ [bI (o.take p)]) (b := H.length) (o := o.take p) (xs := [q]) (hsl _) (by simp; omega) (by simp)
  rw [hst, hl1] at g3
  have hl2 : (o.take p ++ [q]).length = p + 1 := by simp; omega
  have g5 := app_sq (H := H ++ [bI (o.take p ++ [q])]) (b := H.length) (x := .sl tb p (o.length - p) none o.length 1) (o := o.take p ++ [q]) (xs := o.drop p) (hsl _) (by
    have := src_sl (H := H ++ [bI (o.take p ++ [q])]) (off := p) (len := o.length - p) (hap _) rfl (by omega)
    have e : (o.drop p).take (o.length - p) = o.drop p := List.take_of_length_le (by simp)
    rw [e] at this; exact this) (by simp; omega)
  have hl3 : p + 1 + (o.drop p).length = o.length + 1 := by simp; omega
  rw [hst, hl2, hl3, ← hd] at g5
  exact rt_m_0 0 n lc x w H tb o.length nbk m i q p H.length _ _ _ _ rfl (slV_hi hp) g2 g3 (slV_lo hp) g5
end
section
variable {n : Int} {l : List (Int × Int)} {T : Int → Int → Int} {x w : Int} {R : List Int}
theorem rt_loop (hm : R.length ≤ 50) (hT : ∀ u, u ∈ keep w R → RT n l T u x) : ∀ d i (o : List Int) (tb : Nat) (H : Heap), i + d = R.length → o.length ≤ i → H[1]? = some (bI R) → H[tb]? = some (bI o) →
    ∃ (tb' : Nat) (H' : Heap), RunsTo Try.prog polN 57 (sub [1, 1, 1, 0, 1, 0] B57) (rtE n (l.map encP) x w 0 (.sl tb 0 o.length none o.length 1) (.sl 1 0 R.length none R.length 1) (.int .i64 (i : Int)) .undef .undef .undef .undef .undef) H
      (.exit 0) (polN.keys 57) (rtE n (l.map encP) x w 0 (.sl tb' 0 (dsAcc o ((keep w (R.drop i)).map fun u => T u x)).length none (dsAcc o ((keep w (R.drop i)).map fun u => T u x)).length 1) (.sl 1 0 R.length none R.length 1) (.int .i64 (R.length : Int)) .undef .undef .undef .undef .undef) H' ∧
      H'[tb']? = some (bI (dsAcc o ((keep w (R.drop i)).map fun u => T u x))) ∧ (dsAcc o ((keep w (R.drop i)).map fun u => T u x)).length ≤ R.length := by
  intro d
  induction d with
  | zero =>
    intro i o tb H hi hoi h1 ho
    have hi : i = R.length := by omega
    subst hi
    rw [List.drop_length]
    exact ⟨tb, H, RunsTo.loop_out (RunsTo.seq_out (rt_e_1 0 n (l.map encP) x w H tb o.length 1 R.length R.length (by omega)) (by simp) (c := sub [1, 1, 1, 0, 1, 0, 0] B57) (b := sub [1, 1, 1, 0, 1, 0, 0, 1] B57) (by kernel_rfl)) (by simp) (by kernel_rfl) (by kernel_rfl), ho, hoi⟩
  | succ d ih =>
    intro i o tb H hi hoi h1 ho
    have hiR : i < R.length := by omega
    have hg : R[i] = R.getD i 0 := by simp [List.getD, List.getElem?_eq_getElem hiR]
    have e := rt_e_0 0 n (l.map encP) x w H tb o.length 1 R.length i (by omega)
    have hdr : R.drop i = R.getD i 0 :: R.drop (i + 1) := by rw [List.drop_eq_getElem_cons hiR, hg]
    by_cases c : R.getD i 0 = w
    · have f := rt_f_0 0 n (l.map encP) x w H tb o.length 1 R.length i _ (gi2 (by omega)) (gl2 h1 rfl (by omega)) c
      have nn := rt_n_0 0 n (l.map encP) x w H tb o.length 1 R.length i .undef .undef .undef
      rw [wrap_succ (by omega)] at nn
      have hk : keep w (R.drop i) = keep w (R.drop (i + 1)) := by rw [hdr]; simp only [keep, List.filter_cons, decide_eq_true c, Bool.not_true, Bool.false_eq_true, if_false]
      obtain ⟨tb', H', r, h2, h3⟩ := ih (i + 1) o tb H (by omega) (by omega) h1 ho
      rw [hk]
      have t1 := RunsTo.seq_out f (by simp) (c := sub [1, 1, 1, 0, 1, 0, 0, 1, 0, 0] B57) (b := sub [1, 1, 1, 0, 1, 0, 0, 1, 0, 0, 1] B57) (by kernel_rfl)
      have t2 := RunsTo.seq (RunsTo.block_exit (c := sub [1, 1, 1, 0, 1, 0, 0, 1, 0] B57) t1 (by kernel_rfl)) nn (c := sub [1, 1, 1, 0, 1, 0, 0, 1] B57) (by kernel_rfl) (by kernel_rfl)
      have t3 := RunsTo.seq e t2 (c := sub [1, 1, 1, 0, 1, 0, 0] B57) (by kernel_rfl) (by kernel_rfl)
      exact ⟨tb', H', RunsTo.loop t3 (by kernel_rfl) (gc_eq _ rfl) r rfl (by kernel_rfl) (by kernel_rfl), h2, h3⟩
    · have hmem : R.getD i 0 ∈ keep w R := by
        rw [keep, List.mem_filter]
        exact ⟨by rw [← hg]; exact List.getElem_mem hiR, by simp only [decide_eq_false c, Bool.not_false]⟩
      obtain ⟨N, hN⟩ := hT _ hmem H
      have f := rt_f_1 0 n (l.map encP) x w H tb o.length 1 R.length i _ (gi2 (by omega)) (gl2 h1 rfl (by omega)) c
      have g := rt_g_0 N n (l.map encP) x w H tb o.length 1 R.length i _ _ H (gi2 (by omega)) (gl2 h1 rfl (by omega)) (fun kf hk => hN (kf + 1) (by omega))
      have hh := rt_h_0 0 n (l.map encP) x w H tb o.length 1 R.length i (T (R.getD i 0) x)
      obtain ⟨p, rs, hp, hd⟩ := rt_scan (n := n) (lc := l.map encP) (x := x) (w := w) (nbk := 1) (m := R.length) (i := i) (q := T (R.getD i 0) x) ho (by omega) o.length 0 (by omega) (fun i hi => by omega)
      have ri := rt_ins (n := n) (lc := l.map encP) (x := x) (w := w) (nbk := 1) (m := R.length) (i := i) ho (by omega) hp hd
      have nn := rt_n_0 0 n (l.map encP) x w (H ++ [bI (dsIns (T (R.getD i 0) x) o)]) H.length (o.length + 1) 1 R.length i (.int .i64 (T (R.getD i 0) x)) (.int .i64 (p : Int)) (.sl H.length 0 (p + 1) none (p + 1) 1)
      rw [wrap_succ (by omega)] at nn
      have hk : (keep w (R.drop i)).map (fun u => T u x) = T (R.getD i 0) x :: (keep w (R.drop (i + 1))).map (fun u => T u x) := by
        rw [hdr]; simp only [keep, List.filter_cons, decide_eq_false c, Bool.not_false, if_true, List.map_cons]
      obtain ⟨tb', H', r, h2, h3⟩ := ih (i + 1) (dsIns (T (R.getD i 0) x) o) H.length (H ++ [bI (dsIns (T (R.getD i 0) x) o)]) (by omega) (by rw [dsIns_len]; omega) (by rw [List.getElem?_append_left (lt_of_get h1)]; exact h1) (by rw [List.getElem?_append_right (Nat.le_refl _)]; simp)
      rw [hk, dsAcc]
      rw [dsIns_len] at r
      have t0 := RunsTo.seq (RunsTo.block_exit (c := sub [1, 1, 1, 0, 1, 0, 0, 1, 0, 0, 1, 1, 1, 0] B57) rs (by kernel_rfl)) ri (c := sub [1, 1, 1, 0, 1, 0, 0, 1, 0, 0, 1, 1, 1] B57) (by kernel_rfl) (by kernel_rfl)
      have t1 := RunsTo.seq hh t0 (c := sub [1, 1, 1, 0, 1, 0, 0, 1, 0, 0, 1, 1] B57) (by kernel_rfl) (by kernel_rfl)
      have t2 := RunsTo.seq g t1 (c := sub [1, 1, 1, 0, 1, 0, 0, 1, 0, 0, 1] B57) (by kernel_rfl) (by kernel_rfl)
      have t3 := RunsTo.seq f t2 (c := sub [1, 1, 1, 0, 1, 0, 0, 1, 0, 0] B57) (by kernel_rfl) (by kernel_rfl)
      have t4 := RunsTo.seq (RunsTo.block_normal (i := 1) (c := sub [1, 1, 1, 0, 1, 0, 0, 1, 0] B57) t3 (by kernel_rfl)) nn (c := sub [1, 1, 1, 0, 1, 0, 0, 1] B57) (by kernel_rfl) (by kernel_rfl)
      have t5 := RunsTo.seq e t4 (c := sub [1, 1, 1, 0, 1, 0, 0] B57) (by kernel_rfl) (by kernel_rfl)
      exact ⟨tb', H', RunsTo.loop t5 (by kernel_rfl) (gc_all (by simp only [bndE, bnd, bndL, List.length_append, List.length_singleton]; omega)) r rfl (by kernel_rfl) (by kernel_rfl), h2, h3⟩
end
section
variable {n : Int} {l : List (Int × Int)} {T : Int → Int → Int} {x w : Int} {R : List Int}
theorem rt_best {o : List Int} {tb : Nat} {H : Heap} {lc : List HV} (ho : H[tb]? = some (bI o)) (hB : ∀ t, t ∈ o → 0 ≤ t ∧ t ≤ 100000) (hm : o.length ≤ 100) : ∀ d i bx, i + d = o.length →
    RunsTo Try.prog polN 57 (sub [1, 1, 1, 1, 1, 0, 1, 0] B57) (rtE n lc x w 0 (.sl tb 0 o.length none o.length 1) .undef .undef .undef .undef .undef (.int .i64 bx) (.int .i64 (i : Int))) H
      (.exit 4) (polN.keys 57) (rtE n lc x w 0 (.sl tb 0 o.length none o.length 1) .undef .undef .undef .undef .undef (.int .i64 (bestGo i bx (o.drop i))) (.int .i64 (o.length : Int))) H := by
  intro d
  induction d with
  | zero =>
    intro i bx hi
    have hi : i = o.length := by omega
    subst hi
    rw [List.drop_length]
    exact RunsTo.loop_out (rt_q_1 0 n lc x w H tb o.length o.length bx (by omega)) (by simp) (by kernel_rfl) (by kernel_rfl)
  | succ d ih =>
    intro i bx hi
    have hio : i < o.length := by omega
    have hg : o[i] = o.getD i 0 := by simp [List.getD, List.getElem?_eq_getElem hio]
    have hb := hB (o.getD i 0) (by rw [← hg]; exact List.getElem_mem hio)
    have s := rt_q_0 0 n lc x w H tb o.length i bx _ (by omega) (gi2 hio) (gl2 ho rfl hio)
    have w1 : IntKind.i64.wrap (((i : Nat) : Int) + 1) = (i : Int) + 1 := by rw [wrapI64]; omega
    have w2 : IntKind.i64.wrap ((i : Int) + 1 + o.getD i 0) = (i : Int) + 1 + o.getD i 0 := by rw [wrapI64]; omega
    rw [w1, w2] at s
    have r := ih (i + 1) (max bx ((i : Int) + 1 + o.getD i 0)) (by omega)
    rw [List.drop_eq_getElem_cons hio, bestGo, hg]
    exact RunsTo.loop s (by kernel_rfl) (gc_eq _ rfl) r rfl (by kernel_rfl) (by kernel_rfl)
end
section
variable {n : Int} {l : List (Int × Int)} {T : Int → Int → Int} {x w : Int} {R : List Int}
theorem dsIns_mem {t u : Int} : ∀ {l : List Int}, u ∈ dsIns t l ↔ u = t ∨ u ∈ l
  | [] => by simp [dsIns]
  | a :: l => by
    rw [dsIns]
    split
    · simp only [List.mem_cons, dsIns_mem (l := l)]
      exact ⟨fun h => by rcases h with h | h | h <;> simp [h], fun h => by rcases h with h | h | h <;> simp [h]⟩
    · simp
end
section
variable {n : Int} {l : List (Int × Int)} {T : Int → Int → Int} {x w : Int} {R : List Int}
theorem dsAcc_mem {u : Int} : ∀ {l acc : List Int}, u ∈ dsAcc acc l ↔ u ∈ acc ∨ u ∈ l
  | [], acc => by simp [dsAcc]
  | t :: l, acc => by
    rw [dsAcc, dsAcc_mem (l := l), dsIns_mem]
    simp only [List.mem_cons]
    exact ⟨fun h => by rcases h with (h | h) | h <;> simp [h], fun h => by rcases h with h | h | h <;> simp [h]⟩
end
section
variable {n : Int} {l : List (Int × Int)} {T : Int → Int → Int} {x w : Int} {R : List Int}
def dsort (l : List Int) : List Int := dsAcc [] l
end
section
variable {n : Int} {l : List (Int × Int)} {T : Int → Int → Int} {x w : Int} {R : List Int}
theorem rt_step (hn : (0 ≤ n ∧ n ≤ 1000) ∧ l.length ≤ 1000) (hv : (l.all fun p => decide ((0 ≤ p.1 ∧ p.1 < n) ∧ (0 ≤ p.2 ∧ p.2 < n))) = true) (hR : nbrs n.toNat l x = R) (hm : R.length ≤ 50) (hT : ∀ u, u ∈ keep w R → RT n l T u x) (hB : ∀ u, u ∈ keep w R → 0 ≤ T u x ∧ T u x ≤ 100000)
    (hrec : T x w = bestGo 0 0 (dsort ((keep w R).map fun u => T u x))) : RT n l T x w := by
  intro H
  have a := rt_a_0 0 n (l.map encP) x w []
  have b := rt_b_0 0 n (l.map encP) x w [] 0 [bI []] rfl
  have c51 : ∀ kf, callN Try.prog polN (kf + 1) 51 [.int .i64 n, .imm .arg 2 (l.map encP), .int .i64 x] [bI []] = some (.sl 1 0 R.length none R.length 1, [bI [], bI R]) := fun kf => by
    rw [prim_call (pol := polN) (g := 51) (F := nbrs51) (by kernel_rfl) (rs := [.int .i64 n, .imm .arg 2 (l.map encP), .int .i64 x]) (by
      have ha : toArg [bI []] 6 (.imm .arg 2 (l.map encP)) = some (.imm .arg 2 (l.map encP)) := by
        show argP (.imm .arg 2 (l.map encP)) = _
        simp only [argP, argP_pairs]
      simp only [mapO, ha]; rfl) (res := .own 1 (R.map encI)) (by
      simp only [nbrs51, mapO_map decP_enc]
      rw [if_pos ⟨hn, hv⟩, hR]), recv_ints]
    rfl
  have c := rt_c_0 0 n (l.map encP) x w [bI []] 0 1 R.length [bI [], bI R] c51
  have d := rt_d_0 0 n (l.map encP) x w [bI [], bI R] 0 0 1 R.length
  obtain ⟨tb, H', r, ho, hlen⟩ := rt_loop (n := n) (l := l) (T := T) (x := x) (w := w) hm hT R.length 0 [] 0 [bI [], bI R] (by omega) (by simp) rfl rfl
  rw [List.drop_zero] at r ho hlen
  have hE : dsAcc [] ((keep w R).map fun u => T u x) = dsort ((keep w R).map fun u => T u x) := rfl
  rw [hE] at r ho hlen
  have hB2 : ∀ t, t ∈ dsort ((keep w R).map fun u => T u x) → 0 ≤ t ∧ t ≤ 100000 := by
    intro t ht
    rw [dsort, dsAcc_mem] at ht
    rcases ht with ht | ht
    · cases ht
    · obtain ⟨u, hu, rfl⟩ := List.mem_map.1 ht
      exact hB u hu
  generalize dsort ((keep w R).map fun u => T u x) = o at r ho hlen hB2 hrec
  have e := rt_o_0 0 n (l.map encP) x w H' tb o.length 1 R.length (.int .i64 (R.length : Int))
  have f := rt_p_0 0 n (l.map encP) x w H' tb o.length 1 R.length (.int .i64 (R.length : Int)) 0
  have g := rt_best (n := n) (lc := l.map encP) (x := x) (w := w) ho hB2 (by omega) o.length 0 0 (by omega)
  rw [List.drop_zero, ← hrec] at g
  have z := rt_z_0 0 n (l.map encP) x w H' tb o.length o.length (T x w)
  have g' := RunsTo.loop_in (e0 := rtE n (l.map encP) x w 0 (.sl tb 0 o.length none o.length 1) (.sl 1 0 R.length none R.length 1) (.int .i64 (R.length : Int)) .undef .undef .undef (.int .i64 0) (.int .i64 0)) g (b := sub [1, 1, 1, 1, 1, 0, 1, 0, 0] B57) (by kernel_rfl) (by kernel_rfl) (by kernel_rfl)
  have t1 := RunsTo.seq f (RunsTo.block_exit (c := sub [1, 1, 1, 1, 1, 0, 1] B57) g' (by kernel_rfl)) (c := sub [1, 1, 1, 1, 1, 0] B57) (by kernel_rfl) (by kernel_rfl)
  have t2 := RunsTo.seq e (RunsTo.seq t1 z (c := sub [1, 1, 1, 1, 1] B57) (by kernel_rfl) (by kernel_rfl)) (c := sub [1, 1, 1, 1] B57) (by kernel_rfl) (by kernel_rfl)
  have t3 := RunsTo.seq d (RunsTo.block_exit (c := sub [1, 1, 1, 0, 1] B57) r (by kernel_rfl)) (c := sub [1, 1, 1, 0] B57) (by kernel_rfl) (by kernel_rfl)
  have t4 := RunsTo.seq c (RunsTo.seq t3 t2 (c := sub [1, 1, 1] B57) (by kernel_rfl) (by kernel_rfl)) (c := sub [1, 1] B57) (by kernel_rfl) (by kernel_rfl)
  have t5 := RunsTo.seq a (RunsTo.seq b t4 (c := sub [1] B57) (by kernel_rfl) (by kernel_rfl)) (c := B57) (by kernel_rfl) (by kernel_rfl)
  exact CallsTo.pure (P := Try.prog) (pol := polN) (g := 57) (fn := Try.f57) (cd := B57) (rs := [.int .i64 n, .imm .arg 2 (l.map encP), .int .i64 x, .int .i64 w]) (v := .int .i64 (T x w)) (r := .int .i64 (T x w)) (by kernel_rfl) (by kernel_rfl) (by kernel_rfl) (by kernel_rfl) (by kernel_rfl) (by
      have ha : toArg H 6 (.imm .arg 2 (l.map encP)) = some (.imm .arg 2 (l.map encP)) := by
        show argP (.imm .arg 2 (l.map encP)) = _
        simp only [argP, argP_pairs]
      simp only [mapO, ha]; rfl) t5 (by kernel_rfl) (by simp) (by simp only [resultsV, res57, mapO, resultV]; rfl) rfl
end
end Go.Proofs.Ytmhfkhlamnapdaa
end
section
open Go Go.HL
namespace Go.Proofs.Ytmhfkhlamnapdaa
def tmF (row : Int → List Int) : Nat → Int → Int → Int
  | 0, _, _ => 0
  | k + 1, v, w => bestGo 0 0 (dsort ((keep w (row v)).map fun u => tmF row k u v))
def Fl (l : List Int) : Prop := l.Pairwise fun a b => b ≤ a
theorem dsIns_perm (t : Int) : ∀ l : List Int, (dsIns t l).Perm (t :: l)
  | [] => .refl _
  | a :: l => by
    rw [dsIns]
    split
    · exact ((dsIns_perm t l).cons a).trans (.swap _ _ _)
    · exact .refl _
theorem dsIns_fl (t : Int) : ∀ {l : List Int}, Fl l → Fl (dsIns t l)
  | [], _ => by simp [dsIns, Fl]
  | a :: l, h => by
    rw [dsIns]
    obtain ⟨h1, h2⟩ := List.pairwise_cons.1 h
    split
    · rename_i hta
      refine List.pairwise_cons.2 ⟨fun b hb => ?_, dsIns_fl t h2⟩
      rcases dsIns_mem.1 hb with rfl | hb
      · exact hta
      · exact h1 b hb
    · rename_i hta
      refine List.pairwise_cons.2 ⟨fun b hb => ?_, h⟩
      rcases List.mem_cons.1 hb with rfl | hb
      · omega
      · have := h1 b hb; omega
theorem dsAcc_ok : ∀ (l acc : List Int), Fl acc → (dsAcc acc l).Perm (acc ++ l) ∧ Fl (dsAcc acc l)
  | [], acc, h => by simp [dsAcc, h]
  | t :: l, acc, h => by
    rw [dsAcc]
    obtain ⟨h1, h2⟩ := dsAcc_ok l (dsIns t acc) (dsIns_fl t h)
    refine ⟨h1.trans (((dsIns_perm t acc).append_right l).trans ?_), h2⟩
    exact (List.perm_middle (a := t) (l₁ := acc) (l₂ := l)).symm
theorem dsort_perm (l : List Int) : (dsort l).Perm l := (dsAcc_ok l [] List.Pairwise.nil).1
theorem dsort_fl (l : List Int) : Fl (dsort l) := (dsAcc_ok l [] List.Pairwise.nil).2
theorem fl_eq {l l' : List Int} (h : Fl l) (h' : Fl l') (hp : l.Perm l') : l = l' :=
  List.Perm.eq_of_pairwise (le := fun a b => b ≤ a) (fun a b _ _ h1 h2 => by omega) h h' hp
theorem dsort_eq {l l' : List Int} (hp : l.Perm l') : dsort l = dsort l' := fl_eq (dsort_fl l) (dsort_fl l') (((dsort_perm l).trans hp).trans (dsort_perm l').symm)
theorem fl_dsort {l l' : List Int} (h : Fl l) (hp : l.Perm l') : l = dsort l' := fl_eq h (dsort_fl l') (hp.trans (dsort_perm l').symm)
theorem stable_dsort (f : Int → Int) (l : List Int) : (stable f l.length l).map f = dsort (l.map f) := by
  obtain ⟨h1, h2⟩ := stable_ok f (n := l.length) (l := l) rfl
  refine fl_dsort ?_ (h1.map f)
  unfold Fl
  rw [List.pairwise_iff_getElem]
  intro i j hi hj hij
  have hl := stable_len f l.length l
  rw [List.length_map] at hi hj
  have := h2 i j (Nat.zero_le _) hij (by omega)
  simpa [List.getD, List.getElem?_eq_getElem hi, List.getElem?_eq_getElem hj] using this
theorem bestGo_bd {B : Int} : ∀ (l : List Int) (i : Nat) (mo : Int), (∀ t, t ∈ l → 0 ≤ t ∧ t ≤ B) → 0 ≤ mo → mo ≤ bestGo i mo l ∧ bestGo i mo l ≤ max mo ((i : Int) + l.length + B)
  | [], i, mo, _, h0 => by rw [bestGo]; omega
  | t :: l, i, mo, h, h0 => by
    have ht := h t (by simp)
    have := bestGo_bd (B := B) l (i + 1) (max mo ((i : Int) + 1 + t)) (fun t ht => h t (by simp [ht])) (by omega)
    rw [bestGo]
    simp only [List.length_cons]
    omega
theorem keep_len (w : Int) (l : List Int) : (keep w l).length ≤ l.length := List.length_filter_le _ _
theorem tmF_bd {row : Int → List Int} {M : Nat} (hr : ∀ v, (row v).length ≤ M) : ∀ (k : Nat) (v w : Int), 0 ≤ tmF row k v w ∧ tmF row k v w ≤ (M * k : Nat)
  | 0, v, w => by simp [tmF]
  | k + 1, v, w => by
    rw [tmF]
    have := bestGo_bd (B := ((M * k : Nat) : Int)) (dsort ((keep w (row v)).map fun u => tmF row k u v)) 0 0 (fun t ht => by
      rw [(dsort_perm _).mem_iff, List.mem_map] at ht
      obtain ⟨u, _, rfl⟩ := ht
      exact tmF_bd hr k u v) (by omega)
    have hl : (dsort ((keep w (row v)).map fun u => tmF row k u v)).length ≤ M := by
      rw [(dsort_perm _).length_eq, List.length_map]
      have := keep_len w (row v); have := hr v; omega
    rw [Nat.mul_add]
    omega
structure Msr (row : Int → List Int) (G : Int → Int → Prop) (μ : Int → Int → Nat) : Prop where
  step : ∀ v w, G v w → ∀ u, u ∈ keep w (row v) → G u v ∧ μ u v < μ v w
theorem tmF_fuel {row : Int → List Int} {G : Int → Int → Prop} {μ : Int → Int → Nat} (hM : Msr row G μ) : ∀ (k : Nat) (v w : Int), G v w → μ v w < k → tmF row k v w = tmF row (k + 1) v w
  | 0, _, _, _, h => by omega
  | k + 1, v, w, hG, h => by
    rw [tmF, tmF]
    congr 2
    refine List.map_congr_left fun u hu => ?_
    obtain ⟨h1, h2⟩ := hM.step v w hG u hu
    exact tmF_fuel hM k u v h1 (by omega)
def tm (row : Int → List Int) (v w : Int) : Int := tmF row 200 v w
theorem tm_rec {row : Int → List Int} {G : Int → Int → Prop} {μ : Int → Int → Nat} (hM : Msr row G μ) {v w : Int} (hG : G v w) (h : μ v w ≤ 150) : tm row v w = bestGo 0 0 (dsort ((keep w (row v)).map fun u => tm row u v)) := by
  have e : tm row v w = bestGo 0 0 (dsort ((keep w (row v)).map fun u => tmF row 199 u v)) := rfl
  have e2 : ((keep w (row v)).map fun u => tmF row 199 u v) = (keep w (row v)).map fun u => tm row u v := List.map_congr_left fun u hu => by
    obtain ⟨h1, h2⟩ := hM.step v w hG u hu
    exact tmF_fuel hM 199 u v h1 (by omega)
  rw [e, e2]
theorem tm_bd {row : Int → List Int} (hr : ∀ v, (row v).length ≤ 39) (v w : Int) : 0 ≤ tm row v w ∧ tm row v w ≤ 100000 := by
  have := tmF_bd hr 200 v w
  unfold tm
  omega
theorem timeOk_all {adj : List (List Nat)} {row : Int → List Int} {G : Int → Int → Prop} {μ : Int → Int → Nat} (hM : Msr row G μ) (hrow : ∀ v, (row v).length ≤ 39)
    (hA : ∀ v w, G v w → ∃ (a : Nat) (r : List Nat), v = (a : Int) ∧ adj[a]? = some r ∧ rowI r = row v) : ∀ (k : Nat) (v w : Int), G v w → μ v w < k → k ≤ 150 → TimeOk adj (tm row) adj.length v w
  | 0, _, _, _, h, _ => by omega
  | k + 1, v, w, hG, h, hk => by
    obtain ⟨a, r, rfl, h1, h2⟩ := hA v w hG
    have hl : r.length ≤ 39 := by have := hrow a; rw [← h2] at this; simpa [rowI] using this
    refine time_step (r := r) rfl h1 hl (fun u hu => ?_) (fun u _ => tm_bd hrow u a) ?_
    · rw [h2] at hu
      obtain ⟨h3, h4⟩ := hM.step _ _ hG u hu
      exact timeOk_all hM hrow hA k u a h3 (by omega) (by omega)
    · rw [stable_dsort, h2]
      exact tm_rec hM hG (by omega)
theorem rt_all {n : Int} {l : List (Int × Int)} {G : Int → Int → Prop} {μ : Int → Int → Nat} (hn : (0 ≤ n ∧ n ≤ 1000) ∧ l.length ≤ 1000) (hv : (l.all fun p => decide ((0 ≤ p.1 ∧ p.1 < n) ∧ (0 ≤ p.2 ∧ p.2 < n))) = true)
    (hM : Msr (nbrs n.toNat l) G μ) (hrow : ∀ v, (nbrs n.toNat l v).length ≤ 39) : ∀ (k : Nat) (v w : Int), G v w → μ v w < k → k ≤ 150 → RT n l (tm (nbrs n.toNat l)) v w
  | 0, _, _, _, h, _ => by omega
  | k + 1, v, w, hG, h, hk => by
    refine rt_step (R := nbrs n.toNat l v) hn hv rfl (by have := hrow v; omega) (fun u hu => ?_) (fun u _ => tm_bd hrow u v) (tm_rec hM hG (by omega))
    obtain ⟨h3, h4⟩ := hM.step _ _ hG u hu
    exact rt_all hn hv hM hrow k u v h3 (by omega) (by omega)
end Go.Proofs.Ytmhfkhlamnapdaa
end
section
open Go Go.HL
namespace Go.Proofs.Ytmhfkhlamnapdaa
set_option maxRecDepth 100000
noncomputable def B30 : Code := Try.f30.body.getD .skip
abbrev env30 (v0 v1 v2 v3 v8 v9 v10 v11 v12 v13 v14 v15 v16 v17 : HV) : Env := [(0, v0), (1, v1), (2, v2), (3, v3), (8, v8), (9, v9), (10, v10), (11, v11), (12, v12), (13, v13), (14, v14), (15, v15), (16, v16), (17, v17)]
theorem cp_a_0 (n : Int) (lc : List HV) (x : Int) (rds : List HV) : RunsTo Try.prog polY 30 (sub [0] B30) [(0, .i n), (1, .imm .arg 2 lc), (2, .i x), (3, .imm .arg 1 rds)] [] .normal (polY.keys 30) (env30 (.i n) (.imm .arg 2 lc) (.i x) (.imm .arg 1 rds) (.bool false) .undef .undef .undef .undef .undef .undef .undef .undef .undef) [] :=
  RunsTo.hin 0 60 [] fun kf hk => ⟨_, by kernel_rfl, .nil⟩
theorem cp_b_0 (n : Int) (lc : List HV) (x : Int) (rds : List HV) (m : Nat)(g0 : makeV Try.prog false 43 (.i n) (.i n) [] = some (.sl 0 0 m (some m) m 1, [.arr 1 (List.replicate m (.bool false)) true 0])) : RunsTo Try.prog polY 30 (sub [1, 0] B30) (env30 (.i n) (.imm .arg 2 lc) (.i x) (.imm .arg 1 rds) (.bool false) .undef .undef .undef .undef .undef .undef .undef .undef .undef) [] .normal (polY.keys 30) (env30 (.i n) (.imm .arg 2 lc) (.i x) (.imm .arg 1 rds) (.bool false) (.sl 0 0 m (some m) m 1) .undef .undef .undef .undef .undef .undef .undef .undef) [.arr 1 (List.replicate m (.bool false)) true 0] :=
  RunsTo.hin 0 60 [⟨1, 1, .sl 0 0 m (some m) m 1, [.arr 1 (List.replicate m (.bool false)) true 0]⟩] fun kf hk => ⟨_, by kernel_rfl, (oC (g0) .nil)⟩
theorem cp_c_0 (n : Int) (lc : List HV) (x : Int) (rds : List HV) (m : Nat) (kn : List HV) (el0 : List HV) (g0 : idxV Try.prog 43 (.sl 0 0 m (some m) m 1) (.i x) = some (.ptr 0 ((x).toNat) 0 m)) (g1 : storeV Try.prog [.arr 1 kn true 0] 4 (.ptr 0 ((x).toNat) 0 m) (.bool true) = some [.arr 1 el0 true 0]) : RunsTo Try.prog polY 30 (sub [1, 1, 0] B30) (env30 (.i n) (.imm .arg 2 lc) (.i x) (.imm .arg 1 rds) (.bool false) (.sl 0 0 m (some m) m 1) .undef .undef .undef .undef .undef .undef .undef .undef) [.arr 1 kn true 0] .normal (polY.keys 30) (env30 (.i n) (.imm .arg 2 lc) (.i x) (.imm .arg 1 rds) (.bool false) (.sl 0 0 m (some m) m 1) .undef .undef .undef .undef .undef .undef .undef .undef) [.arr 1 el0 true 0] :=
  RunsTo.hin 0 60 [⟨2, 2, .ptr 0 ((x).toNat) 0 m, [.arr 1 kn true 0]⟩, ⟨2, 3, .tuple [], [.arr 1 el0 true 0]⟩] fun kf hk => ⟨_, by kernel_rfl, (oP [.arr 1 kn true 0] g0 (oS g1 .nil))⟩
theorem cp_d_0 (n : Int) (lc : List HV) (x : Int) (rds : List HV) (m : Nat) (kn : List HV) : RunsTo Try.prog polY 30 (sub [1, 1, 1, 0] B30) (env30 (.i n) (.imm .arg 2 lc) (.i x) (.imm .arg 1 rds) (.bool false) (.sl 0 0 m (some m) m 1) .undef .undef .undef .undef .undef .undef .undef .undef) [.arr 1 kn true 0] .normal (polY.keys 30) (env30 (.i n) (.imm .arg 2 lc) (.i x) (.imm .arg 1 rds) (.bool false) (.sl 0 0 m (some m) m 1) (.i 1) .undef .undef .undef .undef .undef .undef .undef) [.arr 1 kn true 0] :=
  RunsTo.hin 0 60 [] fun kf hk => ⟨_, by kernel_rfl, .nil⟩
theorem cp_e_0 (n : Int) (lc : List HV) (x : Int) (rds : List HV) (m : Nat) (kn : List HV) (q : Nat) : RunsTo Try.prog polY 30 (sub [1, 1, 1, 1, 0, 0] B30) (env30 (.i n) (.imm .arg 2 lc) (.i x) (.imm .arg 1 rds) (.bool false) (.sl 0 0 m (some m) m 1) (.i (q : Int)) .undef .undef .undef .undef .undef .undef .undef) [.arr 1 kn true 0] .normal (polY.keys 30) (env30 (.i n) (.imm .arg 2 lc) (.i x) (.imm .arg 1 rds) (.bool false) (.sl 0 0 m (some m) m 1) (.i (q : Int)) (.i 0) .undef .undef .undef .undef .undef .undef) [.arr 1 kn true 0] :=
  RunsTo.hin 0 60 [] fun kf hk => ⟨_, by kernel_rfl, .nil⟩
theorem cp_f_0 (n : Int) (lc : List HV) (x : Int) (rds : List HV) (m : Nat) (kn : List HV) (q : Nat) (i : Nat)(g0 : (i : Int) < (rds.length : Int)) : RunsTo Try.prog polY 30 (sub [1, 1, 1, 1, 0, 1, 0, 0, 0] B30) (env30 (.i n) (.imm .arg 2 lc) (.i x) (.imm .arg 1 rds) (.bool false) (.sl 0 0 m (some m) m 1) (.i (q : Int)) (.i (i : Int)) .undef .undef .undef .undef .undef .undef) [.arr 1 kn true 0] .normal (polY.keys 30) (env30 (.i n) (.imm .arg 2 lc) (.i x) (.imm .arg 1 rds) (.bool false) (.sl 0 0 m (some m) m 1) (.i (q : Int)) (.i (i : Int)) .undef .undef .undef .undef .undef .undef) [.arr 1 kn true 0] :=
  RunsTo.hin 0 60 [⟨5, 3, .bool true, [.arr 1 kn true 0]⟩] fun kf hk => ⟨_, by kernel_rfl, (oB [.arr 1 kn true 0] (decide_eq_true g0) .nil)⟩
theorem cp_f_1 (n : Int) (lc : List HV) (x : Int) (rds : List HV) (m : Nat) (kn : List HV) (q : Nat) (i : Nat)(g0 : ¬ ((i : Int) < (rds.length : Int))) : RunsTo Try.prog polY 30 (sub [1, 1, 1, 1, 0, 1, 0, 0, 0] B30) (env30 (.i n) (.imm .arg 2 lc) (.i x) (.imm .arg 1 rds) (.bool false) (.sl 0 0 m (some m) m 1) (.i (q : Int)) (.i (i : Int)) .undef .undef .undef .undef .undef .undef) [.arr 1 kn true 0] (.exit 0) (polY.keys 30) (env30 (.i n) (.imm .arg 2 lc) (.i x) (.imm .arg 1 rds) (.bool false) (.sl 0 0 m (some m) m 1) (.i (q : Int)) (.i (i : Int)) .undef .undef .undef .undef .undef .undef) [.arr 1 kn true 0] :=
  RunsTo.hin 0 60 [⟨5, 3, .bool false, [.arr 1 kn true 0]⟩] fun kf hk => ⟨_, by kernel_rfl, (oB [.arr 1 kn true 0] (decide_eq_false g0) .nil)⟩
theorem cp_g_0 (n : Int) (lc : List HV) (x : Int) (rds : List HV) (m : Nat) (kn : List HV) (q : Nat) (i : Nat)(g0 : makeV Try.prog false 43 (.i n) (.i n) [.arr 1 kn true 0] = some (.sl 1 0 m (some m) m 1, [.arr 1 kn true 0, .arr 1 (List.replicate m (.bool false)) true 0])) : RunsTo Try.prog polY 30 (sub [1, 1, 1, 1, 0, 1, 0, 0, 1, 0, 0, 0] B30) (env30 (.i n) (.imm .arg 2 lc) (.i x) (.imm .arg 1 rds) (.bool false) (.sl 0 0 m (some m) m 1) (.i (q : Int)) (.i (i : Int)) .undef .undef .undef .undef .undef .undef) [.arr 1 kn true 0] .normal (polY.keys 30) (env30 (.i n) (.imm .arg 2 lc) (.i x) (.imm .arg 1 rds) (.bool false) (.sl 0 0 m (some m) m 1) (.i (q : Int)) (.i (i : Int)) (.sl 1 0 m (some m) m 1) .undef .undef .undef .undef .undef) [.arr 1 kn true 0, .arr 1 (List.replicate m (.bool false)) true 0] :=
  RunsTo.hin 0 60 [⟨7, 1, .sl 1 0 m (some m) m 1, [.arr 1 kn true 0, .arr 1 (List.replicate m (.bool false)) true 0]⟩] fun kf hk => ⟨_, by kernel_rfl, (oC (g0) .nil)⟩
theorem cp_h_0 (n : Int) (lc : List HV) (x : Int) (rds : List HV) (m : Nat) (kn : List HV) (q : Nat) (i : Nat) (bz : List HV) (l0 : List HV) (g0 : idxV Try.prog 44 (.imm .arg 1 rds) (.i (i : Int)) = some (.vptr (.imm .arg 2 l0))) : RunsTo Try.prog polY 30 (sub [1, 1, 1, 1, 0, 1, 0, 0, 1, 0, 0, 1, 0] B30) (env30 (.i n) (.imm .arg 2 lc) (.i x) (.imm .arg 1 rds) (.bool false) (.sl 0 0 m (some m) m 1) (.i (q : Int)) (.i (i : Int)) (.sl 1 0 m (some m) m 1) .undef .undef .undef .undef .undef) [.arr 1 kn true 0, .arr 1 bz true 0] .normal (polY.keys 30) (env30 (.i n) (.imm .arg 2 lc) (.i x) (.imm .arg 1 rds) (.bool false) (.sl 0 0 m (some m) m 1) (.i (q : Int)) (.i (i : Int)) (.sl 1 0 m (some m) m 1) (.imm .arg 2 l0) .undef .undef .undef .undef) [.arr 1 kn true 0, .arr 1 bz true 0] :=
  RunsTo.hin 0 60 [⟨8, 2, .vptr (.imm .arg 2 l0), [.arr 1 kn true 0, .arr 1 bz true 0]⟩] fun kf hk => ⟨_, by kernel_rfl, (oP [.arr 1 kn true 0, .arr 1 bz true 0] g0 .nil)⟩
theorem cp_i_0 (n : Int) (lc : List HV) (x : Int) (rds : List HV) (m : Nat) (kn : List HV) (q : Nat) (i : Nat) (bz : List HV) (r : List HV) : RunsTo Try.prog polY 30 (sub [1, 1, 1, 1, 0, 1, 0, 0, 1, 0, 0, 1, 1, 0, 0] B30) (env30 (.i n) (.imm .arg 2 lc) (.i x) (.imm .arg 1 rds) (.bool false) (.sl 0 0 m (some m) m 1) (.i (q : Int)) (.i (i : Int)) (.sl 1 0 m (some m) m 1) (.imm .arg 2 r) .undef .undef .undef .undef) [.arr 1 kn true 0, .arr 1 bz true 0] .normal (polY.keys 30) (env30 (.i n) (.imm .arg 2 lc) (.i x) (.imm .arg 1 rds) (.bool false) (.sl 0 0 m (some m) m 1) (.i (q : Int)) (.i (i : Int)) (.sl 1 0 m (some m) m 1) (.imm .arg 2 r) (.i 0) .undef .undef .undef) [.arr 1 kn true 0, .arr 1 bz true 0] :=
  RunsTo.hin 0 60 [] fun kf hk => ⟨_, by kernel_rfl, .nil⟩
theorem cp_l_0 (n : Int) (lc : List HV) (x : Int) (rds : List HV) (m : Nat) (kn : List HV) (q : Nat) (i : Nat) (bz : List HV) (r : List HV) (j : Nat) (x0 : Int) (x1 : Int) (x2 : Int) (x3 : Int) (g0 : (j : Int) < (r.length : Int)) (g1 : idxV Try.prog 22 (.imm .arg 2 r) (.i (j : Int)) = some (.vptr (.agg [.i x0, .i x1]))) (g2 : idxV Try.prog 22 (.imm .arg 2 r) (.i (j : Int)) = some (.vptr (.agg [.i x2, .i x3]))) (g3 : x0 < 0) : RunsTo Try.prog polY 30 (sub [1, 1, 1, 1, 0, 1, 0, 0, 1, 0, 0, 1, 1, 0, 1, 0, 0] B30) (env30 (.i n) (.imm .arg 2 lc) (.i x) (.imm .arg 1 rds) (.bool false) (.sl 0 0 m (some m) m 1) (.i (q : Int)) (.i (i : Int)) (.sl 1 0 m (some m) m 1) (.imm .arg 2 r) (.i (j : Int)) .undef .undef .undef) [.arr 1 kn true 0, .arr 1 bz true 0] .ret (polY.keys 30) (env30 (.i n) (.imm .arg 2 lc) (.i x) (.imm .arg 1 rds) (.bool false) (.sl 0 0 m (some m) m 1) (.i (q : Int)) (.i (i : Int)) (.sl 1 0 m (some m) m 1) (.imm .arg 2 r) (.i (j : Int)) (.i x0) (.i x3) .undef) [.arr 1 kn true 0, .arr 1 bz true 0] :=
  RunsTo.hin 0 60 [⟨10, 3, .bool true, [.arr 1 kn true 0, .arr 1 bz true 0]⟩, ⟨12, 2, .vptr (.agg [.i x0, .i x1]), [.arr 1 kn true 0, .arr 1 bz true 0]⟩, ⟨12, 7, .vptr (.agg [.i x2, .i x3]), [.arr 1 kn true 0, .arr 1 bz true 0]⟩, ⟨13, 1, .bool true, [.arr 1 kn true 0, .arr 1 bz true 0]⟩] fun kf hk => ⟨_, by kernel_rfl, (oB [.arr 1 kn true 0, .arr 1 bz true 0] (decide_eq_true g0) (oP [.arr 1 kn true 0, .arr 1 bz true 0] g1 (oP [.arr 1 kn true 0, .arr 1 bz true 0] g2 (oB [.arr 1 kn true 0, .arr 1 bz true 0] (decide_eq_true g3) .nil))))⟩
theorem cp_l_1 (n : Int) (lc : List HV) (x : Int) (rds : List HV) (m : Nat) (kn : List HV) (q : Nat) (i : Nat) (bz : List HV) (r : List HV) (j : Nat) (x0 : Int) (x1 : Int) (x2 : Int) (x3 : Int) (g0 : (j : Int) < (r.length : Int)) (g1 : idxV Try.prog 22 (.imm .arg 2 r) (.i (j : Int)) = some (.vptr (.agg [.i x0, .i x1]))) (g2 : idxV Try.prog 22 (.imm .arg 2 r) (.i (j : Int)) = some (.vptr (.agg [.i x2, .i x3]))) (g3 : ¬ (x0 < 0)) (g4 : n ≤ x0) : RunsTo Try.prog polY 30 (sub [1, 1, 1, 1, 0, 1, 0, 0, 1, 0, 0, 1, 1, 0, 1, 0, 0] B30) (env30 (.i n) (.imm .arg 2 lc) (.i x) (.imm .arg 1 rds) (.bool false) (.sl 0 0 m (some m) m 1) (.i (q : Int)) (.i (i : Int)) (.sl 1 0 m (some m) m 1) (.imm .arg 2 r) (.i (j : Int)) .undef .undef .undef) [.arr 1 kn true 0, .arr 1 bz true 0] .ret (polY.keys 30) (env30 (.i n) (.imm .arg 2 lc) (.i x) (.imm .arg 1 rds) (.bool false) (.sl 0 0 m (some m) m 1) (.i (q : Int)) (.i (i : Int)) (.sl 1 0 m (some m) m 1) (.imm .arg 2 r) (.i (j : Int)) (.i x0) (.i x3) .undef) [.arr 1 kn true 0, .arr 1 bz true 0] :=
  RunsTo.hin 0 60 [⟨10, 3, .bool true, [.arr 1 kn true 0, .arr 1 bz true 0]⟩, ⟨12, 2, .vptr (.agg [.i x0, .i x1]), [.arr 1 kn true 0, .arr 1 bz true 0]⟩, ⟨12, 7, .vptr (.agg [.i x2, .i x3]), [.arr 1 kn true 0, .arr 1 bz true 0]⟩, ⟨13, 1, .bool false, [.arr 1 kn true 0, .arr 1 bz true 0]⟩, ⟨13, 5, .bool true, [.arr 1 kn true 0, .arr 1 bz true 0]⟩] fun kf hk => ⟨_, by kernel_rfl, (oB [.arr 1 kn true 0, .arr 1 bz true 0] (decide_eq_true g0) (oP [.arr 1 kn true 0, .arr 1 bz true 0] g1 (oP [.arr 1 kn true 0, .arr 1 bz true 0] g2 (oB [.arr 1 kn true 0, .arr 1 bz true 0] (decide_eq_false g3) (oB [.arr 1 kn true 0, .arr 1 bz true 0] (decide_eq_true g4) .nil)))))⟩
theorem cp_l_2 (n : Int) (lc : List HV) (x : Int) (rds : List HV) (m : Nat) (kn : List HV) (q : Nat) (i : Nat) (bz : List HV) (r : List HV) (j : Nat) (x0 : Int) (x1 : Int) (x2 : Int) (x3 : Int) (g0 : (j : Int) < (r.length : Int)) (g1 : idxV Try.prog 22 (.imm .arg 2 r) (.i (j : Int)) = some (.vptr (.agg [.i x0, .i x1]))) (g2 : idxV Try.prog 22 (.imm .arg 2 r) (.i (j : Int)) = some (.vptr (.agg [.i x2, .i x3]))) (g3 : ¬ (x0 < 0)) (g4 : ¬ (n ≤ x0)) (g5 : x3 < 0) : RunsTo Try.prog polY 30 (sub [1, 1, 1, 1, 0, 1, 0, 0, 1, 0, 0, 1, 1, 0, 1, 0, 0] B30) (env30 (.i n) (.imm .arg 2 lc) (.i x) (.imm .arg 1 rds) (.bool false) (.sl 0 0 m (some m) m 1) (.i (q : Int)) (.i (i : Int)) (.sl 1 0 m (some m) m 1) (.imm .arg 2 r) (.i (j : Int)) .undef .undef .undef) [.arr 1 kn true 0, .arr 1 bz true 0] .ret (polY.keys 30) (env30 (.i n) (.imm .arg 2 lc) (.i x) (.imm .arg 1 rds) (.bool false) (.sl 0 0 m (some m) m 1) (.i (q : Int)) (.i (i : Int)) (.sl 1 0 m (some m) m 1) (.imm .arg 2 r) (.i (j : Int)) (.i x0) (.i x3) .undef) [.arr 1 kn true 0, .arr 1 bz true 0] :=
  RunsTo.hin 0 60 [⟨10, 3, .bool true, [.arr 1 kn true 0, .arr 1 bz true 0]⟩, ⟨12, 2, .vptr (.agg [.i x0, .i x1]), [.arr 1 kn true 0, .arr 1 bz true 0]⟩, ⟨12, 7, .vptr (.agg [.i x2, .i x3]), [.arr 1 kn true 0, .arr 1 bz true 0]⟩, ⟨13, 1, .bool false, [.arr 1 kn true 0, .arr 1 bz true 0]⟩, ⟨13, 5, .bool false, [.arr 1 kn true 0, .arr 1 bz true 0]⟩, ⟨13, 9, .bool true, [.arr 1 kn true 0, .arr 1 bz true 0]⟩] fun kf hk => ⟨_, by kernel_rfl, (oB [.arr 1 kn true 0, .arr 1 bz true 0] (decide_eq_true g0) (oP [.arr 1 kn true 0, .arr 1 bz true 0] g1 (oP [.arr 1 kn true 0, .arr 1 bz true 0] g2 (oB [.arr 1 kn true 0, .arr 1 bz true 0] (decide_eq_false g3) (oB [.arr 1 kn true 0, .arr 1 bz true 0] (decide_eq_false g4) (oB [.arr 1 kn true 0, .arr 1 bz true 0] (decide_eq_true g5) .nil))))))⟩
theorem cp_l_3 (n : Int) (lc : List HV) (x : Int) (rds : List HV) (m : Nat) (kn : List HV) (q : Nat) (i : Nat) (bz : List HV) (r : List HV) (j : Nat) (x0 : Int) (x1 : Int) (x2 : Int) (x3 : Int) (g0 : (j : Int) < (r.length : Int)) (g1 : idxV Try.prog 22 (.imm .arg 2 r) (.i (j : Int)) = some (.vptr (.agg [.i x0, .i x1]))) (g2 : idxV Try.prog 22 (.imm .arg 2 r) (.i (j : Int)) = some (.vptr (.agg [.i x2, .i x3]))) (g3 : ¬ (x0 < 0)) (g4 : ¬ (n ≤ x0)) (g5 : ¬ (x3 < 0)) (g6 : n ≤ x3) : RunsTo Try.prog polY 30 (sub [1, 1, 1, 1, 0, 1, 0, 0, 1, 0, 0, 1, 1, 0, 1, 0, 0] B30) (env30 (.i n) (.imm .arg 2 lc) (.i x) (.imm .arg 1 rds) (.bool false) (.sl 0 0 m (some m) m 1) (.i (q : Int)) (.i (i : Int)) (.sl 1 0 m (some m) m 1) (.imm .arg 2 r) (.i (j : Int)) .undef .undef .undef) [.arr 1 kn true 0, .arr 1 bz true 0] .ret (polY.keys 30) (env30 (.i n) (.imm .arg 2 lc) (.i x) (.imm .arg 1 rds) (.bool false) (.sl 0 0 m (some m) m 1) (.i (q : Int)) (.i (i : Int)) (.sl 1 0 m (some m) m 1) (.imm .arg 2 r) (.i (j : Int)) (.i x0) (.i x3) .undef) [.arr 1 kn true 0, .arr 1 bz true 0] :=
  RunsTo.hin 0 60 [⟨10, 3, .bool true, [.arr 1 kn true 0, .arr 1 bz true 0]⟩, ⟨12, 2, .vptr (.agg [.i x0, .i x1]), [.arr 1 kn true 0, .arr 1 bz true 0]⟩, ⟨12, 7, .vptr (.agg [.i x2, .i x3]), [.arr 1 kn true 0, .arr 1 bz true 0]⟩, ⟨13, 1, .bool false, [.arr 1 kn true 0, .arr 1 bz true 0]⟩, ⟨13, 5, .bool false, [.arr 1 kn true 0, .arr 1 bz true 0]⟩, ⟨13, 9, .bool false, [.arr 1 kn true 0, .arr 1 bz true 0]⟩, ⟨13, 14, .bool true, [.arr 1 kn true 0, .arr 1 bz true 0]⟩] fun kf hk => ⟨_, by kernel_rfl, (oB [.arr 1 kn true 0, .arr 1 bz true 0] (decide_eq_true g0) (oP [.arr 1 kn true 0, .arr 1 bz true 0] g1 (oP [.arr 1 kn true 0, .arr 1 bz true 0] g2 (oB [.arr 1 kn true 0, .arr 1 bz true 0] (decide_eq_false g3) (oB [.arr 1 kn true 0, .arr 1 bz true 0] (decide_eq_false g4) (oB [.arr 1 kn true 0, .arr 1 bz true 0] (decide_eq_false g5) (oB [.arr 1 kn true 0, .arr 1 bz true 0] (decide_eq_true g6) .nil)))))))⟩
theorem cp_l_4 (n : Int) (lc : List HV) (x : Int) (rds : List HV) (m : Nat) (kn : List HV) (q : Nat) (i : Nat) (bz : List HV) (r : List HV) (j : Nat) (x0 : Int) (x1 : Int) (x2 : Int) (x3 : Int) (g0 : (j : Int) < (r.length : Int)) (g1 : idxV Try.prog 22 (.imm .arg 2 r) (.i (j : Int)) = some (.vptr (.agg [.i x0, .i x1]))) (g2 : idxV Try.prog 22 (.imm .arg 2 r) (.i (j : Int)) = some (.vptr (.agg [.i x2, .i x3]))) (g3 : ¬ (x0 < 0)) (g4 : ¬ (n ≤ x0)) (g5 : ¬ (x3 < 0)) (g6 : ¬ (n ≤ x3)) (g7 : idxV Try.prog 43 (.sl 0 0 m (some m) m 1) (.i x0) = some (.ptr 0 ((x0).toNat) 0 m)) (g8 : loadV Try.prog [.arr 1 kn true 0, .arr 1 bz true 0] 4 (.ptr 0 ((x0).toNat) 0 m) = some (.bool true)) (g9 : idxV Try.prog 43 (.sl 0 0 m (some m) m 1) (.i x3) = some (.ptr 0 ((x3).toNat) 0 m)) (g10 : loadV Try.prog [.arr 1 kn true 0, .arr 1 bz true 0] 4 (.ptr 0 ((x3).toNat) 0 m) = some (.bool true)) : RunsTo Try.prog polY 30 (sub [1, 1, 1, 1, 0, 1, 0, 0, 1, 0, 0, 1, 1, 0, 1, 0, 0] B30) (env30 (.i n) (.imm .arg 2 lc) (.i x) (.imm .arg 1 rds) (.bool false) (.sl 0 0 m (some m) m 1) (.i (q : Int)) (.i (i : Int)) (.sl 1 0 m (some m) m 1) (.imm .arg 2 r) (.i (j : Int)) .undef .undef .undef) [.arr 1 kn true 0, .arr 1 bz true 0] .ret (polY.keys 30) (env30 (.i n) (.imm .arg 2 lc) (.i x) (.imm .arg 1 rds) (.bool false) (.sl 0 0 m (some m) m 1) (.i (q : Int)) (.i (i : Int)) (.sl 1 0 m (some m) m 1) (.imm .arg 2 r) (.i (j : Int)) (.i x0) (.i x3) .undef) [.arr 1 kn true 0, .arr 1 bz true 0] :=
  RunsTo.hin 0 60 [⟨10, 3, .bool true, [.arr 1 kn true 0, .arr 1 bz true 0]⟩, ⟨12, 2, .vptr (.agg [.i x0, .i x1]), [.arr 1 kn true 0, .arr 1 bz true 0]⟩, ⟨12, 7, .vptr (.agg [.i x2, .i x3]), [.arr 1 kn true 0, .arr 1 bz true 0]⟩, ⟨13, 1, .bool false, [.arr 1 kn true 0, .arr 1 bz true 0]⟩, ⟨13, 5, .bool false, [.arr 1 kn true 0, .arr 1 bz true 0]⟩, ⟨13, 9, .bool false, [.arr 1 kn true 0, .arr 1 bz true 0]⟩, ⟨13, 14, .bool false, [.arr 1 kn true 0, .arr 1 bz true 0]⟩, ⟨13, 19, .ptr 0 ((x0).toNat) 0 m, [.arr 1 kn true 0, .arr 1 bz true 0]⟩, ⟨13, 20, .bool true, [.arr 1 kn true 0, .arr 1 bz true 0]⟩, ⟨13, 26, .ptr 0 ((x3).toNat) 0 m, [.arr 1 kn true 0, .arr 1 bz true 0]⟩, ⟨13, 27, .bool true, [.arr 1 kn true 0, .arr 1 bz true 0]⟩] fun kf hk => ⟨_, by kernel_rfl, (oB [.arr 1 kn true 0, .arr 1 bz true 0] (decide_eq_true g0) (oP [.arr 1 kn true 0, .arr 1 bz true 0] g1 (oP [.arr 1 kn true 0, .arr 1 bz true 0] g2 (oB [.arr 1 kn true 0, .arr 1 bz true 0] (decide_eq_false g3) (oB [.arr 1 kn true 0, .arr 1 bz true 0] (decide_eq_false g4) (oB [.arr 1 kn true 0, .arr 1 bz true 0] (decide_eq_false g5) (oB [.arr 1 kn true 0, .arr 1 bz true 0] (decide_eq_false g6) (oP [.arr 1 kn true 0, .arr 1 bz true 0] g7 (oP [.arr 1 kn true 0, .arr 1 bz true 0] g8 (oP [.arr 1 kn true 0, .arr 1 bz true 0] g9 (oP [.arr 1 kn true 0, .arr 1 bz true 0] g10 .nil)))))))))))⟩
theorem cp_l_5 (n : Int) (lc : List HV) (x : Int) (rds : List HV) (m : Nat) (kn : List HV) (q : Nat) (i : Nat) (bz : List HV) (r : List HV) (j : Nat) (x0 : Int) (x1 : Int) (x2 : Int) (x3 : Int) (g0 : (j : Int) < (r.length : Int)) (g1 : idxV Try.prog 22 (.imm .arg 2 r) (.i (j : Int)) = some (.vptr (.agg [.i x0, .i x1]))) (g2 : idxV Try.prog 22 (.imm .arg 2 r) (.i (j : Int)) = some (.vptr (.agg [.i x2, .i x3]))) (g3 : ¬ (x0 < 0)) (g4 : ¬ (n ≤ x0)) (g5 : ¬ (x3 < 0)) (g6 : ¬ (n ≤ x3)) (g7 : idxV Try.prog 43 (.sl 0 0 m (some m) m 1) (.i x0) = some (.ptr 0 ((x0).toNat) 0 m)) (g8 : loadV Try.prog [.arr 1 kn true 0, .arr 1 bz true 0] 4 (.ptr 0 ((x0).toNat) 0 m) = some (.bool true)) (g9 : idxV Try.prog 43 (.sl 0 0 m (some m) m 1) (.i x3) = some (.ptr 0 ((x3).toNat) 0 m)) (g10 : loadV Try.prog [.arr 1 kn true 0, .arr 1 bz true 0] 4 (.ptr 0 ((x3).toNat) 0 m) = some (.bool false)) (g11 : idxV Try.prog 43 (.sl 1 0 m (some m) m 1) (.i x0) = some (.ptr 1 ((x0).toNat) 0 m)) (g12 : loadV Try.prog [.arr 1 kn true 0, .arr 1 bz true 0] 4 (.ptr 1 ((x0).toNat) 0 m) = some (.bool true)) : RunsTo Try.prog polY 30 (sub [1, 1, 1, 1, 0, 1, 0, 0, 1, 0, 0, 1, 1, 0, 1, 0, 0] B30) (env30 (.i n) (.imm .arg 2 lc) (.i x) (.imm .arg 1 rds) (.bool false) (.sl 0 0 m (some m) m 1) (.i (q : Int)) (.i (i : Int)) (.sl 1 0 m (some m) m 1) (.imm .arg 2 r) (.i (j : Int)) .undef .undef .undef) [.arr 1 kn true 0, .arr 1 bz true 0] .ret (polY.keys 30) (env30 (.i n) (.imm .arg 2 lc) (.i x) (.imm .arg 1 rds) (.bool false) (.sl 0 0 m (some m) m 1) (.i (q : Int)) (.i (i : Int)) (.sl 1 0 m (some m) m 1) (.imm .arg 2 r) (.i (j : Int)) (.i x0) (.i x3) .undef) [.arr 1 kn true 0, .arr 1 bz true 0] :=
  RunsTo.hin 0 60 [⟨10, 3, .bool true, [.arr 1 kn true 0, .arr 1 bz true 0]⟩, ⟨12, 2, .vptr (.agg [.i x0, .i x1]), [.arr 1 kn true 0, .arr 1 bz true 0]⟩, ⟨12, 7, .vptr (.agg [.i x2, .i x3]), [.arr 1 kn true 0, .arr 1 bz true 0]⟩, ⟨13, 1, .bool false, [.arr 1 kn true 0, .arr 1 bz true 0]⟩, ⟨13, 5, .bool false, [.arr 1 kn true 0, .arr 1 bz true 0]⟩, ⟨13, 9, .bool false, [.arr 1 kn true 0, .arr 1 bz true 0]⟩, ⟨13, 14, .bool false, [.arr 1 kn true 0, .arr 1 bz true 0]⟩, ⟨13, 19, .ptr 0 ((x0).toNat) 0 m, [.arr 1 kn true 0, .arr 1 bz true 0]⟩, ⟨13, 20, .bool true, [.arr 1 kn true 0, .arr 1 bz true 0]⟩, ⟨13, 26, .ptr 0 ((x3).toNat) 0 m, [.arr 1 kn true 0, .arr 1 bz true 0]⟩, ⟨13, 27, .bool false, [.arr 1 kn true 0, .arr 1 bz true 0]⟩, ⟨13, 32, .ptr 1 ((x0).toNat) 0 m, [.arr 1 kn true 0, .arr 1 bz true 0]⟩, ⟨13, 33, .bool true, [.arr 1 kn true 0, .arr 1 bz true 0]⟩] fun kf hk => ⟨_, by kernel_rfl, (oB [.arr 1 kn true 0, .arr 1 bz true 0] (decide_eq_true g0) (oP [.arr 1 kn true 0, .arr 1 bz true 0] g1 (oP [.arr 1 kn true 0, .arr 1 bz true 0] g2 (oB [.arr 1 kn true 0, .arr 1 bz true 0] (decide_eq_false g3) (oB [.arr 1 kn true 0, .arr 1 bz true 0] (decide_eq_false g4) (oB [.arr 1 kn true 0, .arr 1 bz true 0] (decide_eq_false g5) (oB [.arr 1 kn true 0, .arr 1 bz true 0] (decide_eq_false g6) (oP [.arr 1 kn true 0, .arr 1 bz true 0] g7 (oP [.arr 1 kn true 0, .arr 1 bz true 0] g8 (oP [.arr 1 kn true 0, .arr 1 bz true 0] g9 (oP [.arr 1 kn true 0, .arr 1 bz true 0] g10 (oP [.arr 1 kn true 0, .arr 1 bz true 0] g11 (oP [.arr 1 kn true 0, .arr 1 bz true 0] g12 .nil)))))))))))))⟩
theorem cp_l_6 (n : Int) (lc : List HV) (x : Int) (rds : List HV) (m : Nat) (kn : List HV) (q : Nat) (i : Nat) (bz : List HV) (r : List HV) (j : Nat) (x0 : Int) (x1 : Int) (x2 : Int) (x3 : Int) (g0 : (j : Int) < (r.length : Int)) (g1 : idxV Try.prog 22 (.imm .arg 2 r) (.i (j : Int)) = some (.vptr (.agg [.i x0, .i x1]))) (g2 : idxV Try.prog 22 (.imm .arg 2 r) (.i (j : Int)) = some (.vptr (.agg [.i x2, .i x3]))) (g3 : ¬ (x0 < 0)) (g4 : ¬ (n ≤ x0)) (g5 : ¬ (x3 < 0)) (g6 : ¬ (n ≤ x3)) (g7 : idxV Try.prog 43 (.sl 0 0 m (some m) m 1) (.i x0) = some (.ptr 0 ((x0).toNat) 0 m)) (g8 : loadV Try.prog [.arr 1 kn true 0, .arr 1 bz true 0] 4 (.ptr 0 ((x0).toNat) 0 m) = some (.bool true)) (g9 : idxV Try.prog 43 (.sl 0 0 m (some m) m 1) (.i x3) = some (.ptr 0 ((x3).toNat) 0 m)) (g10 : loadV Try.prog [.arr 1 kn true 0, .arr 1 bz true 0] 4 (.ptr 0 ((x3).toNat) 0 m) = some (.bool false)) (g11 : idxV Try.prog 43 (.sl 1 0 m (some m) m 1) (.i x0) = some (.ptr 1 ((x0).toNat) 0 m)) (g12 : loadV Try.prog [.arr 1 kn true 0, .arr 1 bz true 0] 4 (.ptr 1 ((x0).toNat) 0 m) = some (.bool false)) (g13 : idxV Try.prog 43 (.sl 1 0 m (some m) m 1) (.i x3) = some (.ptr 1 ((x3).toNat) 0 m)) (g14 : loadV Try.prog [.arr 1 kn true 0, .arr 1 bz true 0] 4 (.ptr 1 ((x3).toNat) 0 m) = some (.bool true)) : RunsTo Try.prog polY 30 (sub [1, 1, 1, 1, 0, 1, 0, 0, 1, 0, 0, 1, 1, 0, 1, 0, 0] B30) (env30 (.i n) (.imm .arg 2 lc) (.i x) (.imm .arg 1 rds) (.bool false) (.sl 0 0 m (some m) m 1) (.i (q : Int)) (.i (i : Int)) (.sl 1 0 m (some m) m 1) (.imm .arg 2 r) (.i (j : Int)) .undef .undef .undef) [.arr 1 kn true 0, .arr 1 bz true 0] .ret (polY.keys 30) (env30 (.i n) (.imm .arg 2 lc) (.i x) (.imm .arg 1 rds) (.bool false) (.sl 0 0 m (some m) m 1) (.i (q : Int)) (.i (i : Int)) (.sl 1 0 m (some m) m 1) (.imm .arg 2 r) (.i (j : Int)) (.i x0) (.i x3) .undef) [.arr 1 kn true 0, .arr 1 bz true 0] :=
  RunsTo.hin 0 60 [⟨10, 3, .bool true, [.arr 1 kn true 0, .arr 1 bz true 0]⟩, ⟨12, 2, .vptr (.agg [.i x0, .i x1]), [.arr 1 kn true 0, .arr 1 bz true 0]⟩, ⟨12, 7, .vptr (.agg [.i x2, .i x3]), [.arr 1 kn true 0, .arr 1 bz true 0]⟩, ⟨13, 1, .bool false, [.arr 1 kn true 0, .arr 1 bz true 0]⟩, ⟨13, 5, .bool false, [.arr 1 kn true 0, .arr 1 bz true 0]⟩, ⟨13, 9, .bool false, [.arr 1 kn true 0, .arr 1 bz true 0]⟩, ⟨13, 14, .bool false, [.arr 1 kn true 0, .arr 1 bz true 0]⟩, ⟨13, 19, .ptr 0 ((x0).toNat) 0 m, [.arr 1 kn true 0, .arr 1 bz true 0]⟩, ⟨13, 20, .bool true, [.arr 1 kn true 0, .arr 1 bz true 0]⟩, ⟨13, 26, .ptr 0 ((x3).toNat) 0 m, [.arr 1 kn true 0, .arr 1 bz true 0]⟩, ⟨13, 27, .bool false, [.arr 1 kn true 0, .arr 1 bz true 0]⟩, ⟨13, 32, .ptr 1 ((x0).toNat) 0 m, [.arr 1 kn true 0, .arr 1 bz true 0]⟩, ⟨13, 33, .bool false, [.arr 1 kn true 0, .arr 1 bz true 0]⟩, ⟨13, 38, .ptr 1 ((x3).toNat) 0 m, [.arr 1 kn true 0, .arr 1 bz true 0]⟩, ⟨13, 39, .bool true, [.arr 1 kn true 0, .arr 1 bz true 0]⟩] fun kf hk => ⟨_, by kernel_rfl, (oB [.arr 1 kn true 0, .arr 1 bz true 0] (decide_eq_true g0) (oP [.arr 1 kn true 0, .arr 1 bz true 0] g1 (oP [.arr 1 kn true 0, .arr 1 bz true 0] g2 (oB [.arr 1 kn true 0, .arr 1 bz true 0] (decide_eq_false g3) (oB [.arr 1 kn true 0, .arr 1 bz true 0] (decide_eq_false g4) (oB [.arr 1 kn true 0, .arr 1 bz true 0] (decide_eq_false g5) (oB [.arr 1 kn true 0, .arr 1 bz true 0] (decide_eq_false g6) (oP [.arr 1 kn true 0, .arr 1 bz true 0] g7 (oP [.arr 1 kn true 0, .arr 1 bz true 0] g8 (oP [.arr 1 kn true 0, .arr 1 bz true 0] g9 (oP [.arr 1 kn true 0, .arr 1 bz true 0] g10 (oP [.arr 1 kn true 0, .arr 1 bz true 0] g11 (oP [.arr 1 kn true 0, .arr 1 bz true 0] g12 (oP [.arr 1 kn true 0, .arr 1 bz true 0] g13 (oP [.arr 1 kn true 0, .arr 1 bz true 0] g14 .nil)))))))))))))))⟩
theorem cp_l_7 (n : Int) (lc : List HV) (x : Int) (rds : List HV) (m : Nat) (kn : List HV) (q : Nat) (i : Nat) (bz : List HV) (r : List HV) (j : Nat) (x0 : Int) (x1 : Int) (x2 : Int) (x3 : Int) (el0 : List HV) (el1 : List HV) (g0 : (j : Int) < (r.length : Int)) (g1 : idxV Try.prog 22 (.imm .arg 2 r) (.i (j : Int)) = some (.vptr (.agg [.i x0, .i x1]))) (g2 : idxV Try.prog 22 (.imm .arg 2 r) (.i (j : Int)) = some (.vptr (.agg [.i x2, .i x3]))) (g3 : ¬ (x0 < 0)) (g4 : ¬ (n ≤ x0)) (g5 : ¬ (x3 < 0)) (g6 : ¬ (n ≤ x3)) (g7 : idxV Try.prog 43 (.sl 0 0 m (some m) m 1) (.i x0) = some (.ptr 0 ((x0).toNat) 0 m)) (g8 : loadV Try.prog [.arr 1 kn true 0, .arr 1 bz true 0] 4 (.ptr 0 ((x0).toNat) 0 m) = some (.bool true)) (g9 : idxV Try.prog 43 (.sl 0 0 m (some m) m 1) (.i x3) = some (.ptr 0 ((x3).toNat) 0 m)) (g10 : loadV Try.prog [.arr 1 kn true 0, .arr 1 bz true 0] 4 (.ptr 0 ((x3).toNat) 0 m) = some (.bool false)) (g11 : idxV Try.prog 43 (.sl 1 0 m (some m) m 1) (.i x0) = some (.ptr 1 ((x0).toNat) 0 m)) (g12 : loadV Try.prog [.arr 1 kn true 0, .arr 1 bz true 0] 4 (.ptr 1 ((x0).toNat) 0 m) = some (.bool false)) (g13 : idxV Try.prog 43 (.sl 1 0 m (some m) m 1) (.i x3) = some (.ptr 1 ((x3).toNat) 0 m)) (g14 : loadV Try.prog [.arr 1 kn true 0, .arr 1 bz true 0] 4 (.ptr 1 ((x3).toNat) 0 m) = some (.bool false)) (g15 : ∀ kf, callN Try.prog polY (kf + 1) 53 [.imm .arg 2 lc, .i x0, .i x3] [.arr 1 kn true 0, .arr 1 bz true 0] = some (.bool true, [.arr 1 kn true 0, .arr 1 bz true 0])) (g16 : idxV Try.prog 43 (.sl 1 0 m (some m) m 1) (.i x0) = some (.ptr 1 ((x0).toNat) 0 m)) (g17 : storeV Try.prog [.arr 1 kn true 0, .arr 1 bz true 0] 4 (.ptr 1 ((x0).toNat) 0 m) (.bool true) = some [.arr 1 kn true 0, .arr 1 el0 true 0]) (g18 : idxV Try.prog 43 (.sl 1 0 m (some m) m 1) (.i x3) = some (.ptr 1 ((x3).toNat) 0 m)) (g19 : storeV Try.prog [.arr 1 kn true 0, .arr 1 el0 true 0] 4 (.ptr 1 ((x3).toNat) 0 m) (.bool true) = some [.arr 1 kn true 0, .arr 1 el1 true 0]) : RunsTo Try.prog polY 30 (sub [1, 1, 1, 1, 0, 1, 0, 0, 1, 0, 0, 1, 1, 0, 1, 0, 0] B30) (env30 (.i n) (.imm .arg 2 lc) (.i x) (.imm .arg 1 rds) (.bool false) (.sl 0 0 m (some m) m 1) (.i (q : Int)) (.i (i : Int)) (.sl 1 0 m (some m) m 1) (.imm .arg 2 r) (.i (j : Int)) .undef .undef .undef) [.arr 1 kn true 0, .arr 1 bz true 0] .normal (polY.keys 30) (env30 (.i n) (.imm .arg 2 lc) (.i x) (.imm .arg 1 rds) (.bool false) (.sl 0 0 m (some m) m 1) (.i (q : Int)) (.i (i : Int)) (.sl 1 0 m (some m) m 1) (.imm .arg 2 r) (.i (IntKind.i64.wrap ((j : Int) + 1))) (.i x0) (.i x3) .undef) [.arr 1 kn true 0, .arr 1 el1 true 0] :=
  RunsTo.hin 0 60 [⟨10, 3, .bool true, [.arr 1 kn true 0, .arr 1 bz true 0]⟩, ⟨12, 2, .vptr (.agg [.i x0, .i x1]), [.arr 1 kn true 0, .arr 1 bz true 0]⟩, ⟨12, 7, .vptr (.agg [.i x2, .i x3]), [.arr 1 kn true 0, .arr 1 bz true 0]⟩, ⟨13, 1, .bool false, [.arr 1 kn true 0, .arr 1 bz true 0]⟩, ⟨13, 5, .bool false, [.arr 1 kn true 0, .arr 1 bz true 0]⟩, ⟨13, 9, .bool false, [.arr 1 kn true 0, .arr 1 bz true 0]⟩, ⟨13, 14, .bool false, [.arr 1 kn true 0, .arr 1 bz true 0]⟩, ⟨13, 19, .ptr 0 ((x0).toNat) 0 m, [.arr 1 kn true 0, .arr 1 bz true 0]⟩, ⟨13, 20, .bool true, [.arr 1 kn true 0, .arr 1 bz true 0]⟩, ⟨13, 26, .ptr 0 ((x3).toNat) 0 m, [.arr 1 kn true 0, .arr 1 bz true 0]⟩, ⟨13, 27, .bool false, [.arr 1 kn true 0, .arr 1 bz true 0]⟩, ⟨13, 32, .ptr 1 ((x0).toNat) 0 m, [.arr 1 kn true 0, .arr 1 bz true 0]⟩, ⟨13, 33, .bool false, [.arr 1 kn true 0, .arr 1 bz true 0]⟩, ⟨13, 38, .ptr 1 ((x3).toNat) 0 m, [.arr 1 kn true 0, .arr 1 bz true 0]⟩, ⟨13, 39, .bool false, [.arr 1 kn true 0, .arr 1 bz true 0]⟩, ⟨13, 45, .bool true, [.arr 1 kn true 0, .arr 1 bz true 0]⟩, ⟨15, 2, .ptr 1 ((x0).toNat) 0 m, [.arr 1 kn true 0, .arr 1 bz true 0]⟩, ⟨15, 3, .tuple [], [.arr 1 kn true 0, .arr 1 el0 true 0]⟩, ⟨16, 2, .ptr 1 ((x3).toNat) 0 m, [.arr 1 kn true 0, .arr 1 el0 true 0]⟩, ⟨16, 3, .tuple [], [.arr 1 kn true 0, .arr 1 el1 true 0]⟩] fun kf hk => ⟨_, by kernel_rfl, (oB [.arr 1 kn true 0, .arr 1 bz true 0] (decide_eq_true g0) (oP [.arr 1 kn true 0, .arr 1 bz true 0] g1 (oP [.arr 1 kn true 0, .arr 1 bz true 0] g2 (oB [.arr 1 kn true 0, .arr 1 bz true 0] (decide_eq_false g3) (oB [.arr 1 kn true 0, .arr 1 bz true 0] (decide_eq_false g4) (oB [.arr 1 kn true 0, .arr 1 bz true 0] (decide_eq_false g5) (oB [.arr 1 kn true 0, .arr 1 bz true 0] (decide_eq_false g6) (oP [.arr 1 kn true 0, .arr 1 bz true 0] g7 (oP [.arr 1 kn true 0, .arr 1 bz true 0] g8 (oP [.arr 1 kn true 0, .arr 1 bz true 0] g9 (oP [.arr 1 kn true 0, .arr 1 bz true 0] g10 (oP [.arr 1 kn true 0, .arr 1 bz true 0] g11 (oP [.arr 1 kn true 0, .arr 1 bz true 0] g12 (oP [.arr 1 kn true 0, .arr 1 bz true 0] g13 (oP [.arr 1 kn true 0, .arr 1 bz true 0] g14 (oC (g15 kf) (oP [.arr 1 kn true 0, .arr 1 bz true 0] g16 (oS g17 (oP [.arr 1 kn true 0, .arr 1 el0 true 0] g18 (oS g19 .nil))))))))))))))))))))⟩
theorem cp_l_8 (n : Int) (lc : List HV) (x : Int) (rds : List HV) (m : Nat) (kn : List HV) (q : Nat) (i : Nat) (bz : List HV) (r : List HV) (j : Nat) (x0 : Int) (x1 : Int) (x2 : Int) (x3 : Int) (g0 : (j : Int) < (r.length : Int)) (g1 : idxV Try.prog 22 (.imm .arg 2 r) (.i (j : Int)) = some (.vptr (.agg [.i x0, .i x1]))) (g2 : idxV Try.prog 22 (.imm .arg 2 r) (.i (j : Int)) = some (.vptr (.agg [.i x2, .i x3]))) (g3 : ¬ (x0 < 0)) (g4 : ¬ (n ≤ x0)) (g5 : ¬ (x3 < 0)) (g6 : ¬ (n ≤ x3)) (g7 : idxV Try.prog 43 (.sl 0 0 m (some m) m 1) (.i x0) = some (.ptr 0 ((x0).toNat) 0 m)) (g8 : loadV Try.prog [.arr 1 kn true 0, .arr 1 bz true 0] 4 (.ptr 0 ((x0).toNat) 0 m) = some (.bool true)) (g9 : idxV Try.prog 43 (.sl 0 0 m (some m) m 1) (.i x3) = some (.ptr 0 ((x3).toNat) 0 m)) (g10 : loadV Try.prog [.arr 1 kn true 0, .arr 1 bz true 0] 4 (.ptr 0 ((x3).toNat) 0 m) = some (.bool false)) (g11 : idxV Try.prog 43 (.sl 1 0 m (some m) m 1) (.i x0) = some (.ptr 1 ((x0).toNat) 0 m)) (g12 : loadV Try.prog [.arr 1 kn true 0, .arr 1 bz true 0] 4 (.ptr 1 ((x0).toNat) 0 m) = some (.bool false)) (g13 : idxV Try.prog 43 (.sl 1 0 m (some m) m 1) (.i x3) = some (.ptr 1 ((x3).toNat) 0 m)) (g14 : loadV Try.prog [.arr 1 kn true 0, .arr 1 bz true 0] 4 (.ptr 1 ((x3).toNat) 0 m) = some (.bool false)) (g15 : ∀ kf, callN Try.prog polY (kf + 1) 53 [.imm .arg 2 lc, .i x0, .i x3] [.arr 1 kn true 0, .arr 1 bz true 0] = some (.bool false, [.arr 1 kn true 0, .arr 1 bz true 0])) : RunsTo Try.prog polY 30 (sub [1, 1, 1, 1, 0, 1, 0, 0, 1, 0, 0, 1, 1, 0, 1, 0, 0] B30) (env30 (.i n) (.imm .arg 2 lc) (.i x) (.imm .arg 1 rds) (.bool false) (.sl 0 0 m (some m) m 1) (.i (q : Int)) (.i (i : Int)) (.sl 1 0 m (some m) m 1) (.imm .arg 2 r) (.i (j : Int)) .undef .undef .undef) [.arr 1 kn true 0, .arr 1 bz true 0] .ret (polY.keys 30) (env30 (.i n) (.imm .arg 2 lc) (.i x) (.imm .arg 1 rds) (.bool false) (.sl 0 0 m (some m) m 1) (.i (q : Int)) (.i (i : Int)) (.sl 1 0 m (some m) m 1) (.imm .arg 2 r) (.i (j : Int)) (.i x0) (.i x3) .undef) [.arr 1 kn true 0, .arr 1 bz true 0] :=
  RunsTo.hin 0 60 [⟨10, 3, .bool true, [.arr 1 kn true 0, .arr 1 bz true 0]⟩, ⟨12, 2, .vptr (.agg [.i x0, .i x1]), [.arr 1 kn true 0, .arr 1 bz true 0]⟩, ⟨12, 7, .vptr (.agg [.i x2, .i x3]), [.arr 1 kn true 0, .arr 1 bz true 0]⟩, ⟨13, 1, .bool false, [.arr 1 kn true 0, .arr 1 bz true 0]⟩, ⟨13, 5, .bool false, [.arr 1 kn true 0, .arr 1 bz true 0]⟩, ⟨13, 9, .bool false, [.arr 1 kn true 0, .arr 1 bz true 0]⟩, ⟨13, 14, .bool false, [.arr 1 kn true 0, .arr 1 bz true 0]⟩, ⟨13, 19, .ptr 0 ((x0).toNat) 0 m, [.arr 1 kn true 0, .arr 1 bz true 0]⟩, ⟨13, 20, .bool true, [.arr 1 kn true 0, .arr 1 bz true 0]⟩, ⟨13, 26, .ptr 0 ((x3).toNat) 0 m, [.arr 1 kn true 0, .arr 1 bz true 0]⟩, ⟨13, 27, .bool false, [.arr 1 kn true 0, .arr 1 bz true 0]⟩, ⟨13, 32, .ptr 1 ((x0).toNat) 0 m, [.arr 1 kn true 0, .arr 1 bz true 0]⟩, ⟨13, 33, .bool false, [.arr 1 kn true 0, .arr 1 bz true 0]⟩, ⟨13, 38, .ptr 1 ((x3).toNat) 0 m, [.arr 1 kn true 0, .arr 1 bz true 0]⟩, ⟨13, 39, .bool false, [.arr 1 kn true 0, .arr 1 bz true 0]⟩, ⟨13, 45, .bool false, [.arr 1 kn true 0, .arr 1 bz true 0]⟩] fun kf hk => ⟨_, by kernel_rfl, (oB [.arr 1 kn true 0, .arr 1 bz true 0] (decide_eq_true g0) (oP [.arr 1 kn true 0, .arr 1 bz true 0] g1 (oP [.arr 1 kn true 0, .arr 1 bz true 0] g2 (oB [.arr 1 kn true 0, .arr 1 bz true 0] (decide_eq_false g3) (oB [.arr 1 kn true 0, .arr 1 bz true 0] (decide_eq_false g4) (oB [.arr 1 kn true 0, .arr 1 bz true 0] (decide_eq_false g5) (oB [.arr 1 kn true 0, .arr 1 bz true 0] (decide_eq_false g6) (oP [.arr 1 kn true 0, .arr 1 bz true 0] g7 (oP [.arr 1 kn true 0, .arr 1 bz true 0] g8 (oP [.arr 1 kn true 0, .arr 1 bz true 0] g9 (oP [.arr 1 kn true 0, .arr 1 bz true 0] g10 (oP [.arr 1 kn true 0, .arr 1 bz true 0] g11 (oP [.arr 1 kn true 0, .arr 1 bz true 0] g12 (oP [.arr 1 kn true 0, .arr 1 bz true 0] g13 (oP [.arr 1 kn true 0, .arr 1 bz true 0] g14 (oC (g15 kf) .nil))))))))))))))))⟩
theorem cp_l_9 (n : Int) (lc : List HV) (x : Int) (rds : List HV) (m : Nat) (kn : List HV) (q : Nat) (i : Nat) (bz : List HV) (r : List HV) (j : Nat) (x0 : Int) (x1 : Int) (x2 : Int) (x3 : Int) (g0 : (j : Int) < (r.length : Int)) (g1 : idxV Try.prog 22 (.imm .arg 2 r) (.i (j : Int)) = some (.vptr (.agg [.i x0, .i x1]))) (g2 : idxV Try.prog 22 (.imm .arg 2 r) (.i (j : Int)) = some (.vptr (.agg [.i x2, .i x3]))) (g3 : ¬ (x0 < 0)) (g4 : ¬ (n ≤ x0)) (g5 : ¬ (x3 < 0)) (g6 : ¬ (n ≤ x3)) (g7 : idxV Try.prog 43 (.sl 0 0 m (some m) m 1) (.i x0) = some (.ptr 0 ((x0).toNat) 0 m)) (g8 : loadV Try.prog [.arr 1 kn true 0, .arr 1 bz true 0] 4 (.ptr 0 ((x0).toNat) 0 m) = some (.bool false)) : RunsTo Try.prog polY 30 (sub [1, 1, 1, 1, 0, 1, 0, 0, 1, 0, 0, 1, 1, 0, 1, 0, 0] B30) (env30 (.i n) (.imm .arg 2 lc) (.i x) (.imm .arg 1 rds) (.bool false) (.sl 0 0 m (some m) m 1) (.i (q : Int)) (.i (i : Int)) (.sl 1 0 m (some m) m 1) (.imm .arg 2 r) (.i (j : Int)) .undef .undef .undef) [.arr 1 kn true 0, .arr 1 bz true 0] .ret (polY.keys 30) (env30 (.i n) (.imm .arg 2 lc) (.i x) (.imm .arg 1 rds) (.bool false) (.sl 0 0 m (some m) m 1) (.i (q : Int)) (.i (i : Int)) (.sl 1 0 m (some m) m 1) (.imm .arg 2 r) (.i (j : Int)) (.i x0) (.i x3) .undef) [.arr 1 kn true 0, .arr 1 bz true 0] :=
  RunsTo.hin 0 60 [⟨10, 3, .bool true, [.arr 1 kn true 0, .arr 1 bz true 0]⟩, ⟨12, 2, .vptr (.agg [.i x0, .i x1]), [.arr 1 kn true 0, .arr 1 bz true 0]⟩, ⟨12, 7, .vptr (.agg [.i x2, .i x3]), [.arr 1 kn true 0, .arr 1 bz true 0]⟩, ⟨13, 1, .bool false, [.arr 1 kn true 0, .arr 1 bz true 0]⟩, ⟨13, 5, .bool false, [.arr 1 kn true 0, .arr 1 bz true 0]⟩, ⟨13, 9, .bool false, [.arr 1 kn true 0, .arr 1 bz true 0]⟩, ⟨13, 14, .bool false, [.arr 1 kn true 0, .arr 1 bz true 0]⟩, ⟨13, 19, .ptr 0 ((x0).toNat) 0 m, [.arr 1 kn true 0, .arr 1 bz true 0]⟩, ⟨13, 20, .bool false, [.arr 1 kn true 0, .arr 1 bz true 0]⟩] fun kf hk => ⟨_, by kernel_rfl, (oB [.arr 1 kn true 0, .arr 1 bz true 0] (decide_eq_true g0) (oP [.arr 1 kn true 0, .arr 1 bz true 0] g1 (oP [.arr 1 kn true 0, .arr 1 bz true 0] g2 (oB [.arr 1 kn true 0, .arr 1 bz true 0] (decide_eq_false g3) (oB [.arr 1 kn true 0, .arr 1 bz true 0] (decide_eq_false g4) (oB [.arr 1 kn true 0, .arr 1 bz true 0] (decide_eq_false g5) (oB [.arr 1 kn true 0, .arr 1 bz true 0] (decide_eq_false g6) (oP [.arr 1 kn true 0, .arr 1 bz true 0] g7 (oP [.arr 1 kn true 0, .arr 1 bz true 0] g8 .nil)))))))))⟩
theorem cp_l_10 (n : Int) (lc : List HV) (x : Int) (rds : List HV) (m : Nat) (kn : List HV) (q : Nat) (i : Nat) (bz : List HV) (r : List HV) (j : Nat)(g0 : ¬ ((j : Int) < (r.length : Int))) : RunsTo Try.prog polY 30 (sub [1, 1, 1, 1, 0, 1, 0, 0, 1, 0, 0, 1, 1, 0, 1, 0, 0] B30) (env30 (.i n) (.imm .arg 2 lc) (.i x) (.imm .arg 1 rds) (.bool false) (.sl 0 0 m (some m) m 1) (.i (q : Int)) (.i (i : Int)) (.sl 1 0 m (some m) m 1) (.imm .arg 2 r) (.i (j : Int)) .undef .undef .undef) [.arr 1 kn true 0, .arr 1 bz true 0] (.exit 2) (polY.keys 30) (env30 (.i n) (.imm .arg 2 lc) (.i x) (.imm .arg 1 rds) (.bool false) (.sl 0 0 m (some m) m 1) (.i (q : Int)) (.i (i : Int)) (.sl 1 0 m (some m) m 1) (.imm .arg 2 r) (.i (j : Int)) .undef .undef .undef) [.arr 1 kn true 0, .arr 1 bz true 0] :=
  RunsTo.hin 0 60 [⟨10, 3, .bool false, [.arr 1 kn true 0, .arr 1 bz true 0]⟩] fun kf hk => ⟨_, by kernel_rfl, (oB [.arr 1 kn true 0, .arr 1 bz true 0] (decide_eq_false g0) .nil)⟩
theorem cp_m_0 (n : Int) (lc : List HV) (x : Int) (rds : List HV) (m : Nat) (kn : List HV) (q : Nat) (i : Nat) (bz : List HV) (r : List HV) (j : Nat) : RunsTo Try.prog polY 30 (sub [1, 1, 1, 1, 0, 1, 0, 0, 1, 0, 0, 1, 1, 1, 0] B30) (env30 (.i n) (.imm .arg 2 lc) (.i x) (.imm .arg 1 rds) (.bool false) (.sl 0 0 m (some m) m 1) (.i (q : Int)) (.i (i : Int)) (.sl 1 0 m (some m) m 1) (.imm .arg 2 r) (.i (j : Int)) .undef .undef .undef) [.arr 1 kn true 0, .arr 1 bz true 0] .normal (polY.keys 30) (env30 (.i n) (.imm .arg 2 lc) (.i x) (.imm .arg 1 rds) (.bool false) (.sl 0 0 m (some m) m 1) (.i (q : Int)) (.i (i : Int)) (.sl 1 0 m (some m) m 1) (.imm .arg 2 r) (.i (j : Int)) .undef .undef (.i 0)) [.arr 1 kn true 0, .arr 1 bz true 0] :=
  RunsTo.hin 0 60 [] fun kf hk => ⟨_, by kernel_rfl, .nil⟩
theorem cp_n_0 (n : Int) (lc : List HV) (x : Int) (rds : List HV) (m : Nat) (kn : List HV) (q : Nat) (i : Nat) (bz : List HV) (r : List HV) (j : Nat) (x0 : Int) (x1 : Int) (el0 : List HV) (g0 : (j : Int) < (r.length : Int)) (g1 : idxV Try.prog 22 (.imm .arg 2 r) (.i (j : Int)) = some (.vptr (.agg [.i x0, .i x1]))) (g2 : idxV Try.prog 43 (.sl 0 0 m (some m) m 1) (.i x1) = some (.ptr 0 ((x1).toNat) 0 m)) (g3 : storeV Try.prog [.arr 1 kn true 0, .arr 1 bz true 0] 4 (.ptr 0 ((x1).toNat) 0 m) (.bool true) = some [.arr 1 el0 true 0, .arr 1 bz true 0]) : RunsTo Try.prog polY 30 (sub [1, 1, 1, 1, 0, 1, 0, 0, 1, 0, 0, 1, 1, 1, 1, 0, 0] B30) (env30 (.i n) (.imm .arg 2 lc) (.i x) (.imm .arg 1 rds) (.bool false) (.sl 0 0 m (some m) m 1) (.i (q : Int)) (.i (i : Int)) .undef (.imm .arg 2 r) .undef .undef .undef (.i (j : Int))) [.arr 1 kn true 0, .arr 1 bz true 0] .normal (polY.keys 30) (env30 (.i n) (.imm .arg 2 lc) (.i x) (.imm .arg 1 rds) (.bool false) (.sl 0 0 m (some m) m 1) (.i (IntKind.i64.wrap ((q : Int) + 1))) (.i (i : Int)) .undef (.imm .arg 2 r) .undef .undef .undef (.i (IntKind.i64.wrap ((j : Int) + 1)))) [.arr 1 el0 true 0, .arr 1 bz true 0] :=
  RunsTo.hin 0 60 [⟨18, 3, .bool true, [.arr 1 kn true 0, .arr 1 bz true 0]⟩, ⟨20, 3, .vptr (.agg [.i x0, .i x1]), [.arr 1 kn true 0, .arr 1 bz true 0]⟩, ⟨20, 6, .ptr 0 ((x1).toNat) 0 m, [.arr 1 kn true 0, .arr 1 bz true 0]⟩, ⟨20, 7, .tuple [], [.arr 1 el0 true 0, .arr 1 bz true 0]⟩] fun kf hk => ⟨_, by kernel_rfl, (oB [.arr 1 kn true 0, .arr 1 bz true 0] (decide_eq_true g0) (oP [.arr 1 kn true 0, .arr 1 bz true 0] g1 (oP [.arr 1 kn true 0, .arr 1 bz true 0] g2 (oS g3 .nil))))⟩
theorem cp_n_1 (n : Int) (lc : List HV) (x : Int) (rds : List HV) (m : Nat) (kn : List HV) (q : Nat) (i : Nat) (bz : List HV) (r : List HV) (j : Nat)(g0 : ¬ ((j : Int) < (r.length : Int))) : RunsTo Try.prog polY 30 (sub [1, 1, 1, 1, 0, 1, 0, 0, 1, 0, 0, 1, 1, 1, 1, 0, 0] B30) (env30 (.i n) (.imm .arg 2 lc) (.i x) (.imm .arg 1 rds) (.bool false) (.sl 0 0 m (some m) m 1) (.i (q : Int)) (.i (i : Int)) .undef (.imm .arg 2 r) .undef .undef .undef (.i (j : Int))) [.arr 1 kn true 0, .arr 1 bz true 0] (.exit 4) (polY.keys 30) (env30 (.i n) (.imm .arg 2 lc) (.i x) (.imm .arg 1 rds) (.bool false) (.sl 0 0 m (some m) m 1) (.i (q : Int)) (.i (i : Int)) .undef (.imm .arg 2 r) .undef .undef .undef (.i (j : Int))) [.arr 1 kn true 0, .arr 1 bz true 0] :=
  RunsTo.hin 0 60 [⟨18, 3, .bool false, [.arr 1 kn true 0, .arr 1 bz true 0]⟩] fun kf hk => ⟨_, by kernel_rfl, (oB [.arr 1 kn true 0, .arr 1 bz true 0] (decide_eq_false g0) .nil)⟩
theorem cp_o_0 (n : Int) (lc : List HV) (x : Int) (rds : List HV) (m : Nat) (kn : List HV) (q : Nat) (i : Nat) (bz : List HV) (r : List HV) (j : Nat) : RunsTo Try.prog polY 30 (sub [1, 1, 1, 1, 0, 1, 0, 0, 1, 1] B30) (env30 (.i n) (.imm .arg 2 lc) (.i x) (.imm .arg 1 rds) (.bool false) (.sl 0 0 m (some m) m 1) (.i (q : Int)) (.i (i : Int)) .undef (.imm .arg 2 r) .undef .undef .undef (.i (j : Int))) [.arr 1 kn true 0, .arr 1 bz true 0] .normal (polY.keys 30) (env30 (.i n) (.imm .arg 2 lc) (.i x) (.imm .arg 1 rds) (.bool false) (.sl 0 0 m (some m) m 1) (.i (q : Int)) (.i (IntKind.i64.wrap ((i : Int) + 1))) .undef (.imm .arg 2 r) .undef .undef .undef (.i (j : Int))) [.arr 1 kn true 0, .arr 1 bz true 0] :=
  RunsTo.hin 0 60 [] fun kf hk => ⟨_, by kernel_rfl, .nil⟩
theorem cp_z_0 (n : Int) (lc : List HV) (x : Int) (rds : List HV) (m : Nat) (kn : List HV) (q : Nat) (i : Nat)(g0 : (q : Int) = n) : RunsTo Try.prog polY 30 (sub [1, 1, 1, 1, 1] B30) (env30 (.i n) (.imm .arg 2 lc) (.i x) (.imm .arg 1 rds) (.bool false) (.sl 0 0 m (some m) m 1) (.i (q : Int)) (.i (i : Int)) .undef .undef .undef .undef .undef .undef) [.arr 1 kn true 0] .ret (polY.keys 30) (env30 (.i n) (.imm .arg 2 lc) (.i x) (.imm .arg 1 rds) (.bool true) (.sl 0 0 m (some m) m 1) (.i (q : Int)) (.i (i : Int)) .undef .undef .undef .undef .undef .undef) [.arr 1 kn true 0] :=
  RunsTo.hin 0 60 [⟨22, 2, .bool true, [.arr 1 kn true 0]⟩] fun kf hk => ⟨_, by kernel_rfl, (oB [.arr 1 kn true 0] (decide_eq_true g0) .nil)⟩
theorem cp_z_1 (n : Int) (lc : List HV) (x : Int) (rds : List HV) (m : Nat) (kn : List HV) (q : Nat) (i : Nat)(g0 : ¬ ((q : Int) = n)) : RunsTo Try.prog polY 30 (sub [1, 1, 1, 1, 1] B30) (env30 (.i n) (.imm .arg 2 lc) (.i x) (.imm .arg 1 rds) (.bool false) (.sl 0 0 m (some m) m 1) (.i (q : Int)) (.i (i : Int)) .undef .undef .undef .undef .undef .undef) [.arr 1 kn true 0] .ret (polY.keys 30) (env30 (.i n) (.imm .arg 2 lc) (.i x) (.imm .arg 1 rds) (.bool false) (.sl 0 0 m (some m) m 1) (.i (q : Int)) (.i (i : Int)) .undef .undef .undef .undef .undef .undef) [.arr 1 kn true 0] :=
  RunsTo.hin 0 60 [⟨22, 2, .bool false, [.arr 1 kn true 0]⟩] fun kf hk => ⟨_, by kernel_rfl, (oB [.arr 1 kn true 0] (decide_eq_false g0) .nil)⟩
end Go.Proofs.Ytmhfkhlamnapdaa
end
section
open Go Go.HL
namespace Go.Proofs.Ytmhfkhlamnapdaa
def inR (m : Nat) (v : Int) : Bool := decide (0 ≤ v ∧ v < (m : Int))
def nrR (m : Nat) (l : List (Int × Int)) (a b : Int) : Bool := inR m a && (inR m b && l.any (isNear a b))
structure MB (m : Nat) (K : List Bool) (s : List Int) : Prop where
  len : K.length = m
  eq : ∀ y, y < m → (bitAt K y = true ↔ (y : Int) ∈ s)
theorem ins_mem {x y : Int} {s : List Int} : y ∈ ins x s ↔ y = x ∨ y ∈ s := by
  unfold ins
  split
  · rename_i h
    constructor
    · exact .inr
    · rintro (rfl | h2)
      · exact h
      · exact h2
  · simp [or_comm]
theorem MB.set {m : Nat} {K : List Bool} {s : List Int} (h : MB m K s) {y : Nat} (hy : y < m) : MB m (K.set y true) (ins (y : Int) s) := by
  refine ⟨by simp [h.len], fun z hz => ?_⟩
  rw [bitAt_set _ _ _ _ (by rw [h.len]; exact hy), ins_mem]
  by_cases e : y = z
  · subst e; simp
  · rw [if_neg e, h.eq z hz]
    constructor
    · exact .inr
    · rintro (h1 | h1)
      · omega
      · exact h1
theorem MB.init (m : Nat) : MB m (List.replicate m false) [] := by
  refine ⟨by simp, fun y hy => ?_⟩
  have : bitAt (List.replicate m false) y = false := by
    unfold bitAt
    rw [List.getElem?_replicate]
    split <;> rfl
  rw [this]; simp
theorem z4c : tySize Try.prog 4 = some 1 := by kernel_rfl
theorem a4c : tyAgg Try.prog 4 = false := by kernel_rfl
theorem i4c : (Try.prog.underlying 4).isSome = true := by kernel_rfl
theorem u43c : Try.prog.underlying 43 = some (.slice 4) := by kernel_rfl
theorem load_b {H : Heap} {k : Nat} {K : List Bool} {m : Nat} (hm : K.length = m) (h : H[k]? = some (bF K)) {y : Nat} (hy : y < m) : loadV Try.prog H 4 (.ptr k y 0 m) = some (.bool (bitAt K y)) := by
  subst hm
  exact load_elem (b := k) h (by simp) (by rw [List.getElem?_map, List.getElem?_eq_getElem hy]; simp [bitAt, List.getElem?_eq_getElem hy]) rfl a4c i4c
theorem store_b {H : Heap} {k : Nat} {K : List Bool} {m : Nat} (hm : K.length = m) (h : H[k]? = some (bF K)) {y : Nat} (hy : y < m) (v : Bool) : storeV Try.prog H 4 (.ptr k y 0 m) (.bool v) = some (H.set k (bF (K.set y v))) := by
  subst hm
  have hi : (K.map HV.bool)[y]? = some (.bool K[y]) := by rw [List.getElem?_map, List.getElem?_eq_getElem hy]; rfl
  have := store_elem (P := Try.prog) (t := 4) (b := k) (tot := K.length) (v := .bool v) h (by simp) hi rfl (by intro cs h; cases h) z4c rfl rfl (by simp [bnd])
  rw [this]
  rw [bF, List.map_set]
theorem nb_false {b : Bool} (h : ¬ b = true) : b = false := by cases b <;> simp_all
abbrev cpE (m : Nat) (lc : List HV) (x : Int) (rds : List HV) (q : Nat) (v11 v12 v13 v14 v15 v16 v17 : HV) : Env :=
  env30 (.int .i64 (m : Int)) (.imm .arg 2 lc) (.int .i64 x) (.imm .arg 1 rds) (.bool false) (.sl 0 0 m (some m) m 1) (.int .i64 (q : Int)) v11 v12 v13 v14 v15 v16 v17
theorem y53 (l : List (Int × Int)) (hl : l.length ≤ 1000) (a b : Int) (t : Bool) (ht : l.any (isNear a b) = t) (H : Heap) : ∀ kf, callN Try.prog polY (kf + 1) 53 [.imm .arg 2 (l.map encP), .int .i64 a, .int .i64 b] H = some (.bool t, H) := fun kf => by
  rw [prim_call (pol := polY) (g := 53) (F := near53) (by kernel_rfl) (rs := [.imm .arg 2 (l.map encP), .int .i64 a, .int .i64 b]) (by simp only [mapO, arg_pairs']; rfl) (res := .bool t) (by simp only [near53, mapO_map decP_enc]; rw [if_pos hl, ht])]; rfl
theorem cp_calls (m : Nat) (hm : m ≤ 1000) (l : List (Int × Int)) (hl : l.length ≤ 1000) (x : Int) (rds : List HV) (q i : Nat) (K : List Bool) (kn : List Int) (hK : MB m K kn) (r : List (Int × Int)) (hr : r.length ≤ 1000) : ∀ (d j : Nat) (Z : List Bool) (bz : List Int), j + d = r.length → MB m Z bz →
    ∃ X E H', RunsTo Try.prog polY 30 (sub [1, 1, 1, 1, 0, 1, 0, 0, 1, 0, 0, 1, 1, 0, 1, 0] B30) (cpE m (l.map encP) x rds q (.int .i64 (i : Int)) (.sl 1 0 m (some m) m 1) (.imm .arg 2 (r.map encP)) (.int .i64 (j : Int)) .undef .undef .undef) [bF K, bF Z] X (polY.keys 30) E H' ∧
      ((rdGo (nrR m l) kn (r.drop j) bz = true ∧ X = .exit 2 ∧ ∃ Z', E = cpE m (l.map encP) x rds q (.int .i64 (i : Int)) (.sl 1 0 m (some m) m 1) (.imm .arg 2 (r.map encP)) (.int .i64 (r.length : Int)) .undef .undef .undef ∧ H' = [bF K, bF Z']) ∨
       (rdGo (nrR m l) kn (r.drop j) bz = false ∧ X = .ret ∧ E.get 8 = .bool false)) := by
  intro d
  induction d with
  | zero =>
    intro j Z bz hj hZ
    have hj : j = r.length := by omega
    subst hj
    have s1 := cp_l_10 (m : Int) (l.map encP) x rds m (K.map .bool) q i (Z.map .bool) (r.map encP) r.length (by simp)
    exact ⟨_, _, _, RunsTo.loop_out s1 (by simp) (by kernel_rfl) (by kernel_rfl), .inl ⟨by simp [rdGo], rfl, Z, rfl, rfl⟩⟩
  | succ d ih =>
    intro j Z bz hj hZ
    have hjl : j < r.length := by omega
    rw [List.drop_eq_getElem_cons hjl, rdGo]
    generalize hp : r[j] = p
    obtain ⟨a, b⟩ := p
    have g0 : (j : Int) < ((r.map encP).length : Int) := by simp; omega
    have g1 : idxV Try.prog 22 (.imm .arg 2 (r.map encP)) (.int .i64 (j : Int)) = some (.vptr (.agg [.int .i64 a, .int .i64 b])) := idx_imm u22 z33 (by omega) (by rw [Int.toNat_natCast, List.getElem?_map, List.getElem?_eq_getElem hjl, hp]; rfl)
    have bad : ∀ E, RunsTo Try.prog polY 30 (sub [1, 1, 1, 1, 0, 1, 0, 0, 1, 0, 0, 1, 1, 0, 1, 0, 0] B30) (cpE m (l.map encP) x rds q (.int .i64 (i : Int)) (.sl 1 0 m (some m) m 1) (.imm .arg 2 (r.map encP)) (.int .i64 (j : Int)) .undef .undef .undef) [bF K, bF Z] .ret (polY.keys 30) E [bF K, bF Z] → E.get 8 = .bool false → okC (nrR m l) kn bz (a, b) = false → _ := fun E t hE hf =>
      (⟨_, E, _, RunsTo.loop_out t (by simp) (by kernel_rfl) (by kernel_rfl), .inr ⟨by rw [hf, Bool.false_and], rfl, hE⟩⟩ : ∃ X E H', RunsTo Try.prog polY 30 (sub [1, 1, 1, 1, 0, 1, 0, 0, 1, 0, 0, 1, 1, 0, 1, 0] B30) (cpE m (l.map encP) x rds q (.int .i64 (i : Int)) (.sl 1 0 m (some m) m 1) (.imm .arg 2 (r.map encP)) (.int .i64 (j : Int)) .undef .undef .undef) [bF K, bF Z] X (polY.keys 30) E H' ∧
      ((((okC (nrR m l) kn bz (a, b) && rdGo (nrR m l) kn (r.drop (j + 1)) (ins (a, b).2 (ins (a, b).1 bz))) = true) ∧ X = .exit 2 ∧ ∃ Z', E = cpE m (l.map encP) x rds q (.int .i64 (i : Int)) (.sl 1 0 m (some m) m 1) (.imm .arg 2 (r.map encP)) (.int .i64 (r.length : Int)) .undef .undef .undef ∧ H' = [bF K, bF Z']) ∨
       (((okC (nrR m l) kn bz (a, b) && rdGo (nrR m l) kn (r.drop (j + 1)) (ins (a, b).2 (ins (a, b).1 bz))) = false) ∧ X = .ret ∧ E.get 8 = .bool false)))
    by_cases c1 : a < 0
    · exact bad _ (cp_l_0 (m : Int) (l.map encP) x rds m (K.map .bool) q i (Z.map .bool) (r.map encP) j a b a b g0 g1 g1 c1) rfl (by simp [okC, nrR, inR]; omega)
    · by_cases c2 : (m : Int) ≤ a
      · exact bad _ (cp_l_1 (m : Int) (l.map encP) x rds m (K.map .bool) q i (Z.map .bool) (r.map encP) j a b a b g0 g1 g1 c1 c2) rfl (by simp [okC, nrR, inR]; omega)
      · by_cases c3 : b < 0
        · exact bad _ (cp_l_2 (m : Int) (l.map encP) x rds m (K.map .bool) q i (Z.map .bool) (r.map encP) j a b a b g0 g1 g1 c1 c2 c3) rfl (by simp [okC, nrR, inR]; omega)
        · by_cases c4 : (m : Int) ≤ b
          · exact bad _ (cp_l_3 (m : Int) (l.map encP) x rds m (K.map .bool) q i (Z.map .bool) (r.map encP) j a b a b g0 g1 g1 c1 c2 c3 c4) rfl (by simp [okC, nrR, inR]; omega)
          · obtain ⟨u, rfl⟩ : ∃ u : Nat, a = (u : Int) := ⟨a.toNat, by omega⟩
            obtain ⟨v, rfl⟩ : ∃ v : Nat, b = (v : Int) := ⟨b.toNat, by omega⟩
            have hu : u < m := by omega
            have hv : v < m := by omega
            have ix : ∀ (k w : Nat), w < m → idxV Try.prog 43 (.sl k 0 m (some m) m 1) (.int .i64 ((w : Nat) : Int)) = some (.ptr k (((w : Nat) : Int).toNat) 0 m) := fun k w hw => idx_sl u43c z4c (by omega) (by omega)
            have lk : ∀ w, w < m → loadV Try.prog [bF K, bF Z] 4 (.ptr 0 (((w : Nat) : Int).toNat) 0 m) = some (.bool (bitAt K w)) := fun w hw => by rw [Int.toNat_natCast]; exact load_b hK.len rfl hw
            have lz : ∀ w, w < m → loadV Try.prog [bF K, bF Z] 4 (.ptr 1 (((w : Nat) : Int).toNat) 0 m) = some (.bool (bitAt Z w)) := fun w hw => by rw [Int.toNat_natCast]; exact load_b hZ.len rfl hw
            have k1 := lk u hu
            by_cases d1 : (u : Int) ∈ kn
            · rw [(hK.eq u hu).2 d1] at k1
              have k2 := lk v hv
              by_cases d2 : (v : Int) ∈ kn
              · rw [(hK.eq v hv).2 d2] at k2
                exact bad _ (cp_l_4 (m : Int) (l.map encP) x rds m (K.map .bool) q i (Z.map .bool) (r.map encP) j u v u v g0 g1 g1 c1 c2 c3 c4 (ix 0 u hu) k1 (ix 0 v hv) k2) rfl (by simp [okC, d2])
              · rw [nb_false (fun h => d2 ((hK.eq v hv).1 h))] at k2
                have z1 := lz u hu
                by_cases d3 : (u : Int) ∈ bz
                · rw [(hZ.eq u hu).2 d3] at z1
                  exact bad _ (cp_l_5 (m : Int) (l.map encP) x rds m (K.map .bool) q i (Z.map .bool) (r.map encP) j u v u v g0 g1 g1 c1 c2 c3 c4 (ix 0 u hu) k1 (ix 0 v hv) k2 (ix 1 u hu) z1) rfl (by simp [okC, d3])
                · rw [nb_false (fun h => d3 ((hZ.eq u hu).1 h))] at z1
                  have z2 := lz v hv
                  by_cases d4 : (v : Int) ∈ bz
                  · rw [(hZ.eq v hv).2 d4] at z2
                    exact bad _ (cp_l_6 (m : Int) (l.map encP) x rds m (K.map .bool) q i (Z.map .bool) (r.map encP) j u v u v g0 g1 g1 c1 c2 c3 c4 (ix 0 u hu) k1 (ix 0 v hv) k2 (ix 1 u hu) z1 (ix 1 v hv) z2) rfl (by simp [okC, d4])
                  · rw [nb_false (fun h => d4 ((hZ.eq v hv).1 h))] at z2
                    by_cases d5 : l.any (isNear (u : Int) (v : Int)) = true
                    · have hin : ∀ w, w < m → inR m ((w : Nat) : Int) = true := fun w hw => decide_eq_true ⟨by omega, by omega⟩
                      have hok : okC (nrR m l) kn bz ((u : Int), (v : Int)) = true := by
                        simp only [okC, nrR, hin u hu, hin v hv, d5, decide_eq_true d1, decide_eq_true d2, decide_eq_true d3, decide_eq_true d4, Bool.and_self]
                      rw [hok, Bool.true_and]
                      have st1 := store_b (H := [bF K, bF Z]) (k := 1) hZ.len rfl hu true
                      have hZ1 := hZ.set hu
                      have st2 := store_b (H := [bF K, bF (Z.set u true)]) (k := 1) hZ1.len rfl hv true
                      have hZ2 := hZ1.set hv
                      have s1 := cp_l_7 (m : Int) (l.map encP) x rds m (K.map .bool) q i (Z.map .bool) (r.map encP) j u v u v _ _ g0 g1 g1 c1 c2 c3 c4 (ix 0 u hu) k1 (ix 0 v hv) k2 (ix 1 u hu) z1 (ix 1 v hv) z2 (y53 l hl _ _ true d5 _) (ix 1 u hu) (by rw [Int.toNat_natCast]; exact st1) (ix 1 v hv) (by rw [Int.toNat_natCast]; exact st2)
                      rw [wrap_succ (by omega)] at s1
                      obtain ⟨X, E, H', r2, h2⟩ := ih (j + 1) ((Z.set u true).set v true) (ins (v : Int) (ins (u : Int) bz)) (by omega) hZ2
                      exact ⟨X, E, H', RunsTo.loop s1 (by kernel_rfl) (gc_same (by simp)) r2 rfl (by kernel_rfl) (by kernel_rfl), h2⟩
                    · exact bad _ (cp_l_8 (m : Int) (l.map encP) x rds m (K.map .bool) q i (Z.map .bool) (r.map encP) j u v u v g0 g1 g1 c1 c2 c3 c4 (ix 0 u hu) k1 (ix 0 v hv) k2 (ix 1 u hu) z1 (ix 1 v hv) z2 (y53 l hl _ _ false (nb_false d5) _)) rfl (by simp only [okC, nrR, nb_false d5, Bool.and_false, Bool.false_and])
            · rw [nb_false (fun h => d1 ((hK.eq u hu).1 h))] at k1
              exact bad _ (cp_l_9 (m : Int) (l.map encP) x rds m (K.map .bool) q i (Z.map .bool) (r.map encP) j u v u v g0 g1 g1 c1 c2 c3 c4 (ix 0 u hu) k1) rfl (by simp [okC, d1])
end Go.Proofs.Ytmhfkhlamnapdaa
end
