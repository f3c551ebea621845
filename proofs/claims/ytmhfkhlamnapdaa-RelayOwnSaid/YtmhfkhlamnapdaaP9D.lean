/- A part of the proof. -/
import Derived.Test.YtmhfkhlamnapdaaP9C
set_option linter.unusedVariables false
set_option linter.unusedSimpArgs false
section
open Go Go.HL
namespace Go.Proofs.Ytmhfkhlamnapdaa
theorem s46_ok {n : Nat} {l : List (Int × Int)} (hg : ((1 ≤ (n : Int) ∧ (n : Int) ≤ 30) ∧ (l.length : Int) = (n : Int) - 1) ∧ l.all (validB (n : Int)) = true) (b : Bool) (hb : farOk (adjOf n l) = b) : ∀ kf, callN Try.prog polS (kf + 1) 46 [.int .i64 (n : Int), .imm .arg 2 (l.map encP)] [] = some (.tuple [TV n, .bool b], [.arr 1 ((adjOf n l).map rowO) true 0, .map [] [] 0]) := fun kf => by
  have hl : (adjOf n l).length = n := (adjOf_inv (List.all_eq_true.1 hg.2)).len
  rw [prim_call (pol := polS) (g := 46) (F := newTree46) (by kernel_rfl) (rs := [.int .i64 (n : Int), .imm .arg 2 (l.map encP)]) (by simp only [mapO, arg_pairs']; rfl) (res := .tuple [treeV (adjOf n l), .bool b]) (by simp only [newTree46, mapO_map decP_enc]; rw [newTreeF, if_pos hg, Int.toNat_natCast, hb])]
  have hno := rowO_any (adjOf n l)
  simp only [recv, recvVals, recvVal, treeV, recvCells, recvCell, hno, List.length_map, hl]
  rfl
theorem s46_bad {n : Int} {l : List (Int × Int)} (hg : ¬ (((1 ≤ n ∧ n ≤ 30) ∧ (l.length : Int) = n - 1) ∧ l.all (validB n) = true)) : ∀ kf, callN Try.prog polS (kf + 1) 46 [.int .i64 n, .imm .arg 2 (l.map encP)] [] = some (.tuple [.agg [.sl 0 0 0 none 0 0, .nilmap], .bool false], [.arr 0 [] true 0]) := fun kf => by
  rw [prim_call (pol := polS) (g := 46) (F := newTree46) (by kernel_rfl) (rs := [.int .i64 n, .imm .arg 2 (l.map encP)]) (by simp only [mapO, arg_pairs']; rfl) (res := .tuple [.agg [.own 0 [], .nilmap], .bool false]) (by simp only [newTree46, mapO_map decP_enc]; rw [newTreeF, if_neg hg])]
  rfl
theorem same_rows (adj : List (List Nat)) : sameH [.arr 1 (adj.map rowO) true 0] [.arr 1 (adj.map rowO) true 0] = true := same_arr fun v hv => by
  obtain ⟨r, _, rfl⟩ := List.mem_map.1 hv
  have : sameL (r.map encN) (r.map encN) = true := sameL_all fun v hv => by
    obtain ⟨k, _, rfl⟩ := List.mem_map.1 hv
    simp [encN, encI, same]
  simp [rowO, same, this]
theorem mem_start (adj : List (List Nat)) (T : Int → Int → Int) : Mem adj T [.arr 1 (adj.map rowO) true 0, .map [] [] 0] := by
  refine ⟨rfl, ⟨[], rfl⟩, ?_, by simp [mxs, Blk.mx]⟩
  have := same_rows adj
  simp only [sameH, Bool.and_eq_true] at this ⊢
  simp [this.1.1.1.2, sameL]
section
variable {adj : List (List Nat)} {T : Int → Int → Int} {n : Nat}
theorem Gr.cut_set {H H0 : Heap} (h : Gr adj T H H0) (h2 : 2 ≤ H.length) {k : Nat} (hk : 2 ≤ k ∧ k < H.length) (l : List Int) {r : Nat} (hr : r ≤ H.length) :
    Mem adj T (gc H.length r (H0.set k (bI l))) ∧ (gc H.length r (H0.set k (bI l))).length = H.length ∧ (gc H.length r (H0.set k (bI l)))[k]? = some (bI l) ∧ ∀ j, j ≠ 1 → j ≠ k → (gc H.length r (H0.set k (bI l)))[j]? = H[j]? := by
  have hG : Gr adj T (H.set k (bI l)) (H0.set k (bI l)) := by
    refine ⟨h.mem.set hk.1 (same_bI l) (Nat.zero_le _), by simp [h.len], fun j h1 hj => ?_, ?_⟩
    · rw [List.length_set] at hj
      rw [List.getElem?_set, List.getElem?_set]
      have := h.len
      by_cases e : k = j
      · rw [if_pos e, if_pos e, if_pos (by omega), if_pos (by omega)]
      · rw [if_neg e, if_neg e]; exact h.same j h1 hj
    · rw [List.length_set, mxs_le]
      intro B hB
      rcases List.mem_or_eq_of_mem_set hB with hB | rfl
      · exact mxs_le.1 h.mx B hB
      · exact Nat.zero_le _
  have hc := hG.cut (r := r) (by rw [List.length_set]; exact h2) (by rw [List.length_set]; exact hr)
  rw [List.length_set] at hc
  obtain ⟨c1, c2, c3⟩ := hc
  refine ⟨c1, c2, ?_, fun j h1 hj => ?_⟩
  · rw [c3 k (by omega)]; exact List.getElem?_set_self hk.2
  · rw [c3 j h1, List.getElem?_set_ne (fun e => hj e.symm)]
end
section
variable {adj : List (List Nat)} {T : Int → Int → Int} {n : Nat}
structure CM (adj : List (List Nat)) (T : Int → Int → Int) (n : Nat) (ts o : List Int) (H : Heap) : Prop where
  mem : Mem adj T H
  len : H.length = 5
  t : H[2]? = some (boxT n)
  ts : H[3]? = some (bI ts)
  o : H[4]? = some (bI o)
end
section
variable {adj : List (List Nat)} {T : Int → Int → Int} {n : Nat}
abbrev ceE (n : Int) (lc : List HV) (k i : Nat) : Env := env17 (.int .i64 n) (.imm .arg 2 lc) (.imm .lit 1 []) (.int .i64 0) (.int .i64 0) (.ptr 2 0 0 1) .undef (.sl 3 0 k none k 1) (.sl 4 0 0 none 0 1) .undef .undef .undef .undef (.int .i64 n) (.int .i64 (i : Int)) .undef .undef .undef
end
section
variable {adj : List (List Nat)} {T : Int → Int → Int} {n : Nat}
theorem take_map_range (f : Nat → Int) {n i : Nat} (h : i < n) : ((List.range n).map f).take (i + 1) = ((List.range n).map f).take i ++ [f i] := by
  rw [List.take_add_one]
  simp [h]
end
section
variable {adj : List (List Nat)} {T : Int → Int → Int} {n : Nat}
theorem ce_loop1 {lc : List HV} (hn : n ≤ 30) (hT : ∀ i : Nat, i < n → TimeOk adj T n i (-1)) : ∀ d i H, i + d = n → CM adj T n (((List.range n).map fun i : Nat => T i (-1)).take i) [] H →
    ∃ H', RunsTo Try.prog polS 17 (sub [1, 1, 1, 1, 0, 1, 0] B17) (ceE n lc i i) H (.exit 0) (polS.keys 17) (ceE n lc n n) H' ∧ CM adj T n ((List.range n).map fun i : Nat => T i (-1)) [] H' := by
  intro d
  induction d with
  | zero =>
    intro i H hi hC
    have hi : i = n := by omega
    subst hi
    rw [List.take_of_length_le (by simp)] at hC
    exact ⟨H, RunsTo.loop_out (ce_l_1 0 (i : Int) lc i H i i (by omega)) (by simp) (by kernel_rfl) (by kernel_rfl), hC⟩
  | succ d ih =>
    intro i H hi hC
    obtain ⟨H0, hcl, hG⟩ := hT i (by omega) H hC.mem
    obtain ⟨N, hN⟩ := hcl.from
    have h3 : H0[3]? = some (bI (((List.range n).map fun i : Nat => T i (-1)).take i)) := by rw [hG.same 3 (by omega) (by rw [hC.len]; omega)]; exact hC.ts
    have hlen : (((List.range n).map fun i : Nat => T i (-1)).take i).length = i := by simp; omega
    have ha := appV_ints (xs := [T i (-1)]) h3 (by rw [hlen]; simp; omega) (by simp)
    rw [← take_map_range (fun i : Nat => T i (-1)) (by omega), hlen] at ha
    have s := ce_l_0 N (n : Int) lc n H i i (T i (-1)) H0 _ (by omega) (ld_T hC.t) hN ha
    rw [wrap_succ (by omega)] at s
    have hlt := hC.len
    obtain ⟨c1, c2, c3, c4⟩ := hG.cut_set (by omega) (k := 3) (by omega) (((List.range n).map fun i : Nat => T i (-1)).take (i + 1)) (r := bndE (ceE n lc (i + 1) (i + 1))) (by simp only [bndE, bnd]; omega)
    obtain ⟨H', r, hC'⟩ := ih (i + 1) _ (by omega) ⟨c1, by rw [c2]; exact hC.len, by rw [c4 2 (by omega) (by omega)]; exact hC.t, c3, by rw [c4 4 (by omega) (by omega)]; exact hC.o⟩
    exact ⟨H', RunsTo.loop s (by kernel_rfl) rfl r rfl (by kernel_rfl) (by kernel_rfl), hC'⟩
end
section
variable {adj : List (List Nat)} {T : Int → Int → Int} {n : Nat}
abbrev cmE (n : Int) (lc : List HV) (le : Int) (k i j : Nat) : Env := env17 (.int .i64 n) (.imm .arg 2 lc) (.imm .lit 1 []) (.int .i64 0) (.int .i64 0) .undef .undef .undef (.sl 4 0 j none j 1) .undef (.int .i64 le) .undef .undef .undef .undef (.sl 3 0 k none k 1) (.int .i64 (k : Int)) (.int .i64 (i : Int))
end
section
variable {adj : List (List Nat)} {T : Int → Int → Int} {n : Nat}
theorem ce_loop2 {lc : List HV} {m : Int} {le : Int} {ts : List Int} (hts : ts.length = n) (hn : n ≤ 30) : ∀ d i (o : List Int) H, i + d = n → o.length ≤ i → H[3]? = some (bI ts) → H[4]? = some (bI o) →
    ∃ H', RunsTo Try.prog polS 17 (sub [1, 1, 1, 1, 1, 1, 0, 1, 0] B17) (cmE m lc le n i o.length) H (.exit 2) (polS.keys 17) (cmE m lc le n n (o ++ sel le i (ts.drop i)).length) H' ∧ H'[4]? = some (bI (o ++ sel le i (ts.drop i))) := by
  intro d
  induction d with
  | zero =>
    intro i o H hi ho h3 h4
    have hi : i = n := by omega
    subst hi
    rw [List.drop_of_length_le (by omega), sel, List.append_nil]
    exact ⟨H, RunsTo.loop_out (ce_m_2 0 m lc 0 H i i o.length le (by omega)) (by simp) (by kernel_rfl) (by kernel_rfl), h4⟩
  | succ d ih =>
    intro i o H hi ho h3 h4
    have hit : i < ts.length := by omega
    rw [List.drop_eq_getElem_cons hit, sel, ← getD_at hit]
    by_cases c : ts.getD i 0 = le
    · rw [if_pos c]
      have ha := appV_ints (xs := [(i : Int)]) h4 (by simp; omega) (by simp)
      have s := ce_m_0 0 m lc 0 H n i o.length le _ _ (by omega) (gi2 (by omega)) (gl2 h3 hts (by omega)) c ha
      rw [wrap_succ (by omega)] at s
      obtain ⟨H', r, h5⟩ := ih (i + 1) (o ++ [(i : Int)]) (H.set 4 (bI (o ++ [(i : Int)]))) (by omega) (by simp; omega) (by rw [List.getElem?_set_ne (by omega)]; exact h3) (List.getElem?_set_self (lt_of_get h4))
      rw [List.append_assoc, List.singleton_append] at r h5
      rw [List.length_append, List.length_singleton] at r
      exact ⟨H', RunsTo.loop s (by kernel_rfl) (gc_eq _ (by simp)) r rfl (by kernel_rfl) (by kernel_rfl), h5⟩
    · rw [if_neg c]
      have s := ce_m_1 0 m lc 0 H n i o.length le _ (by omega) (gi2 (by omega)) (gl2 h3 hts (by omega)) c
      rw [wrap_succ (by omega)] at s
      obtain ⟨H', r, h5⟩ := ih (i + 1) o H (by omega) (by omega) h3 h4
      exact ⟨H', RunsTo.loop s (by kernel_rfl) (gc_eq _ rfl) r rfl (by kernel_rfl) (by kernel_rfl), h5⟩
end
def centersF (n : Int) (l : List (Int × Int)) : HV := if treeOk n l = true then .tuple [.own 1 ((sel (minL (timesL n.toNat l)) 0 (timesL n.toNat l)).map encI), .int .i64 (minL (timesL n.toNat l)), .int .i64 0] else .tuple [.own 1 [], .int .i64 0, .int .i64 2]
def centers17 : List HV → Option HV
  | [.int .i64 n, .imm .arg 2 lc] => match mapO decP lc with | some l => some (centersF n l) | none => none
  | _ => none
theorem centers17_ok : PrimOk Try.prog 17 centers17 := by
  refine primOk_pure (pol := polS) (fn := Try.f17) (cd := B17) follows_mixed soundS (by kernel_rfl) (by kernel_rfl) (fnok polS.prim _ _ (by kernel_rfl)) (by kernel_rfl) ?_
  intro args res h
  unfold centers17 at h
  split at h
  · rename_i n lc
    split at h
    · rename_i l hl
      cases h
      rw [mapO_inv decP_inv hl]
      have a := ce_a_0 0 n (l.map encP)
      by_cases hg : ((1 ≤ n ∧ n ≤ 30) ∧ (l.length : Int) = n - 1) ∧ l.all (validB n) = true
      · obtain ⟨m, rfl⟩ : ∃ m : Nat, n = (m : Int) := ⟨n.toNat, by omega⟩
        cases hb : farOk (adjOf m l) with
        | true =>
          have hok : treeOk (m : Int) l = true := by rw [treeOk, Bool.and_eq_true, decide_eq_true_eq]; exact ⟨hg, by rw [Int.toNat_natCast]; exact hb⟩
          have hF : centersF (m : Int) l = .tuple [.own 1 ((sel (minL (timesL m l)) 0 (timesL m l)).map encI), .int .i64 (minL (timesL m l)), .int .i64 0] := by rw [centersF, if_pos hok, Int.toNat_natCast]
          rw [hF]
          have b := ce_b_0 0 (m : Int) (l.map encP) m _ (s46_ok hg true hb)
          have c := ce_c_0 0 (m : Int) (l.map encP) m ((adjOf m l).map rowO)
          have d := ce_d_0 0 (m : Int) (l.map encP) m ((adjOf m l).map rowO)
          have hC : CM (adjOf m l) (tm (rowE l)) m [] [] [.arr 1 ((adjOf m l).map rowO) true 0, .map [] [] 0, boxT m, bI [], bI []] := by
            have h1 := ((mem_start (adjOf m l) (tm (rowE l))).app (same_T m) (by show 2 ≤ _; simp)).app (same_bI []) (Nat.zero_le _)
            have h2 := h1.app (same_bI []) (Nat.zero_le _)
            exact ⟨h2, rfl, rfl, rfl, rfl⟩
          have e := ce_e_0 0 (m : Int) (l.map encP) m [.arr 1 ((adjOf m l).map rowO) true 0, .map [] [] 0, boxT m, bI [], bI []]
          obtain ⟨H1, r1, hC1⟩ := ce_loop1 (lc := l.map encP) (n := m) (by omega) (fun i hi => (tree_time hok (x := (i : Int)) (by omega)).1) m 0 _ (by omega) (by rw [List.take_zero]; exact hC)
          have r1' := RunsTo.loop_in (e0 := env17 (.int .i64 (m : Int)) (.imm .arg 2 (l.map encP)) (.imm .lit 1 []) (.int .i64 0) (.int .i64 0) (.ptr 2 0 0 1) (.bool true) (.sl 3 0 0 none 0 1) (.sl 4 0 0 none 0 1) .undef .undef .undef .undef (.int .i64 (m : Int)) (.int .i64 0) .undef .undef .undef) r1 (b := sub [1, 1, 1, 1, 0, 1, 0, 0] B17) (by kernel_rfl) (by kernel_rfl) (by kernel_rfl)
          have htl : (timesL m l).length = m := by simp [timesL]
          obtain ⟨N, hN⟩ := (min_call (l := timesL m l) hC1.ts htl (by omega) (by omega)).from
          have f := ce_f_0 N (m : Int) (l.map encP) m H1 m m _ H1 hN
          have g := ce_g_0 0 (m : Int) (l.map encP) m H1 m m (minL (timesL m l))
          obtain ⟨H2, r2, h4⟩ := ce_loop2 (lc := l.map encP) (m := (m : Int)) (le := minL (timesL m l)) htl (by omega) m 0 [] H1 (by omega) (by simp) hC1.ts hC1.o
          rw [List.drop_zero, List.nil_append] at r2 h4
          have r2' := RunsTo.loop_in (e0 := env17 (.int .i64 (m : Int)) (.imm .arg 2 (l.map encP)) (.imm .lit 1 []) (.int .i64 0) (.int .i64 0) (.ptr 2 0 0 1) .undef (.sl 3 0 m none m 1) (.sl 4 0 0 none 0 1) .undef (.int .i64 (minL (timesL m l))) .undef .undef (.int .i64 (m : Int)) (.int .i64 (m : Int)) (.sl 3 0 m none m 1) (.int .i64 (m : Int)) (.int .i64 0)) r2 (b := sub [1, 1, 1, 1, 1, 1, 0, 1, 0, 0] B17) (by kernel_rfl) (by kernel_rfl) (by kernel_rfl)
          have z := ce_z_0 0 (m : Int) (l.map encP) m H2 m m (sel (minL (timesL m l)) 0 (timesL m l)).length (minL (timesL m l))
          have t1 := RunsTo.seq g (RunsTo.block_exit (c := sub [1, 1, 1, 1, 1, 1, 0, 1] B17) r2' (by kernel_rfl)) (c := sub [1, 1, 1, 1, 1, 1, 0] B17) (by kernel_rfl) (by kernel_rfl)
          have t2 := RunsTo.seq f (RunsTo.seq t1 z (c := sub [1, 1, 1, 1, 1, 1] B17) (by kernel_rfl) (by kernel_rfl)) (c := sub [1, 1, 1, 1, 1] B17) (by kernel_rfl) (by kernel_rfl)
          have t3 := RunsTo.seq e (RunsTo.block_exit (c := sub [1, 1, 1, 1, 0, 1] B17) r1' (by kernel_rfl)) (c := sub [1, 1, 1, 1, 0] B17) (by kernel_rfl) (by kernel_rfl)
          have t4 := RunsTo.seq d (RunsTo.seq t3 t2 (c := sub [1, 1, 1, 1] B17) (by kernel_rfl) (by kernel_rfl)) (c := sub [1, 1, 1] B17) (by kernel_rfl) (by kernel_rfl)
          have t5 := RunsTo.seq b (RunsTo.seq c t4 (c := sub [1, 1] B17) (by kernel_rfl) (by kernel_rfl)) (c := sub [1] B17) (by kernel_rfl) (by kernel_rfl)
          exact ⟨_, _, _, _, RunsTo.seq a t5 (c := B17) (by kernel_rfl) (by kernel_rfl), by simp, by simp only [resultsV, res17, mapO, resultV]; rfl, res_out h4 rfl [minL (timesL m l), 0]⟩
        | false =>
          have hok : ¬ treeOk (m : Int) l = true := by rw [treeOk, Bool.and_eq_true, Int.toNat_natCast, hb]; simp
          rw [centersF, if_neg hok]
          have b := ce_b_1 0 (m : Int) (l.map encP) m _ (s46_ok hg false hb)
          have c := ce_cf_0 0 (m : Int) (l.map encP) m ((adjOf m l).map rowO)
          have t1 := RunsTo.seq b (RunsTo.seq_out c (by simp) (c := sub [1, 1] B17) (b := sub [1, 1, 1] B17) (by kernel_rfl)) (c := sub [1] B17) (by kernel_rfl) (by kernel_rfl)
          exact ⟨_, _, _, _, RunsTo.seq a t1 (c := B17) (by kernel_rfl) (by kernel_rfl), by simp, by simp only [resultsV, res17, mapO, resultV]; rfl, rfl⟩
      · have hok : ¬ treeOk n l = true := by rw [treeOk, Bool.and_eq_true, decide_eq_true_eq]; exact fun h => hg h.1
        rw [centersF, if_neg hok]
        have b := ce_b_2 0 n (l.map encP) (s46_bad hg)
        have c := ce_cb_0 0 n (l.map encP)
        have t1 := RunsTo.seq b (RunsTo.seq_out c (by simp) (c := sub [1, 1] B17) (b := sub [1, 1, 1] B17) (by kernel_rfl)) (c := sub [1] B17) (by kernel_rfl) (by kernel_rfl)
        exact ⟨_, _, _, _, RunsTo.seq a t1 (c := B17) (by kernel_rfl) (by kernel_rfl), by simp, by simp only [resultsV, res17, mapO, resultV]; rfl, rfl⟩
    · cases h
  · cases h
end Go.Proofs.Ytmhfkhlamnapdaa
end
section
open Go Go.HL
namespace Go.Proofs.Ytmhfkhlamnapdaa
theorem res25 : Try.f25.results.toList = [.tmp 6, .tmp 7] := by kernel_rfl
def pfarF (n : Int) (l : List (Int × Int)) (x : Int) : List Int × Int := if treeOk n l = true ∧ (0 ≤ x ∧ x ≤ n - 1) then (farF (adjOf n.toNat l) x.toNat, 0) else ([], 2)
def far25 : List HV → Option HV
  | [.int .i64 n, .imm .arg 2 lc, .int .i64 x] => match mapO decP lc with | some l => some (.tuple [.own 1 ((pfarF n l x).1.map encI), .int .i64 (pfarF n l x).2]) | none => none
  | _ => none
theorem s49 (a b : Int) (H : Heap) (r : Bool) (h : decide (0 ≤ a ∧ a ≤ b) = r) : ∀ kf, callN Try.prog polS (kf + 1) 49 [.int .i64 a, .int .i64 0, .int .i64 b] H = some (.bool r, H) := fun kf => by
  rw [prim_call (pol := polS) (g := 49) (F := withinF) (by kernel_rfl) (rs := [.int .i64 a, .int .i64 0, .int .i64 b]) rfl (res := .bool r) (by rw [← h]; rfl)]; rfl
theorem s50 {n : Nat} {l : List (Int × Int)} (hn : n ≤ 30) (hl : l.length ≤ 40) (hv : ∀ p ∈ l, validB (n : Int) p = true) {x : Int} (hx : 0 ≤ x ∧ x < (n : Int)) : ∀ kf, callN Try.prog polS (kf + 1) 50 [TV n, .int .i64 x] [.arr 1 ((adjOf n l).map rowO) true 0, .map [] [] 0, boxT n] = some (.sl 3 0 n none n 1, [.arr 1 ((adjOf n l).map rowO) true 0, .map [] [] 0, boxT n, bI (farF (adjOf n l) x.toNat)]) := fun kf => by
  have hA := adjOf_inv hv
  have hrow : ∀ rs : List (List Nat), mapO (toArg [.arr 1 ((adjOf n l).map rowO) true 0, .map [] [] 0, boxT n] 4) (rs.map rowO) = some (rs.map encR) := by
    intro rs
    induction rs with
    | nil => rfl
    | cons r rs ih =>
      have e : toArg [.arr 1 ((adjOf n l).map rowO) true 0, .map [] [] 0, boxT n] 4 (rowO r) = some (encR r) := by
        show (match argPL (r.map encN) with | some l => some (HV.imm .arg 1 l) | none => none) = _
        rw [rowI_enc, argP_ints', encR, rowI_enc]
      simp only [List.map_cons, mapO, e, ih]
  have ha : toArg [.arr 1 ((adjOf n l).map rowO) true 0, .map [] [] 0, boxT n] 6 (TV n) = some (.agg [.imm .arg 1 ((adjOf n l).map encR), .imap .arg [] []]) := by
    have e : toArg [.arr 1 ((adjOf n l).map rowO) true 0, .map [] [] 0, boxT n] 6 (TV n) = match mapO (toArg [.arr 1 ((adjOf n l).map rowO) true 0, .map [] [] 0, boxT n] 5) [.sl 0 0 n none n 1, .map 1] with | some l => some (.agg l) | none => none := rfl
    have e1 : toArg [.arr 1 ((adjOf n l).map rowO) true 0, .map [] [] 0, boxT n] 5 (.sl 0 0 n none n 1) = some (.imm .arg 1 ((adjOf n l).map encR)) := by
      have e : toArg [.arr 1 ((adjOf n l).map rowO) true 0, .map [] [] 0, boxT n] 5 (.sl 0 0 n none n 1) = if n = 0 then some (.imm .arg 1 []) else match view [.arr 1 ((adjOf n l).map rowO) true 0, .map [] [] 0, boxT n] 0 0 n n 1 with | some l' => (match mapO (toArg [.arr 1 ((adjOf n l).map rowO) true 0, .map [] [] 0, boxT n] 4) l' with | some l => some (.imm .arg 1 l) | none => none) | none => none := rfl
      have hv : view [.arr 1 ((adjOf n l).map rowO) true 0, .map [] [] 0, boxT n] 0 0 n n 1 = some ((adjOf n l).map rowO) := by
        have h0 : ([.arr 1 ((adjOf n l).map rowO) true 0, .map [] [] 0, boxT n] : Heap)[0]? = some (.arr 1 ((adjOf n l).map rowO) true 0) := rfl
        simp only [view, h0, List.length_map, hA.len]
        rw [if_pos ⟨trivial, by omega, trivial⟩, List.drop_zero, List.take_of_length_le (by rw [List.length_map, hA.len]; omega)]
      rw [e, if_neg (by omega), hv]
      simp only [hrow]
    have e2 : toArg [.arr 1 ((adjOf n l).map rowO) true 0, .map [] [] 0, boxT n] 5 (.map 1) = some (.imap .arg [] []) := rfl
    rw [e]
    simp only [mapO, e1, e2]
  have hok : rowsOk (adjOf n l) = true := rowsOk_iff.2 fun r hr => by
    have := hA.row r hr
    rw [hA.len]
    exact ⟨by omega, this.2⟩
  rw [prim_call (pol := polS) (g := 50) (F := far50) (by kernel_rfl) (rs := [.agg [.imm .arg 1 ((adjOf n l).map encR), .imap .arg [] []], .int .i64 x]) (by simp only [mapO, ha]; rfl) (res := .own 1 ((farF (adjOf n l) x.toNat).map encI)) (by
    simp only [far50, mapO_map decR_enc]
    rw [if_pos ⟨⟨by rw [hA.len]; omega, hok⟩, hx.1, by rw [hA.len]; exact hx.2⟩]), recv_ints]
  have hlen : (farF (adjOf n l) x.toNat).length = n := by rw [farF, bfs_len]; exact hA.len
  rw [hlen]
  rfl
theorem far25_ok : PrimOk Try.prog 25 far25 := by
  refine primOk_pure (pol := polS) (fn := Try.f25) (cd := B25) follows_mixed soundS (by kernel_rfl) (by kernel_rfl) (fnok polS.prim _ _ (by kernel_rfl)) (by kernel_rfl) ?_
  intro args res h
  unfold far25 at h
  split at h
  · rename_i n lc x
    split at h
    · rename_i l hl
      cases h
      rw [mapO_inv decP_inv hl]
      have a := fr_a_0 0 n (l.map encP) x
      by_cases hg : ((1 ≤ n ∧ n ≤ 30) ∧ (l.length : Int) = n - 1) ∧ l.all (validB n) = true
      · obtain ⟨m, rfl⟩ : ∃ m : Nat, n = (m : Int) := ⟨n.toNat, by omega⟩
        have hw : IntKind.i64.wrap ((m : Int) - 1) = (m : Int) - 1 := by rw [wrapI64]; omega
        cases hb : farOk (adjOf m l) with
        | true =>
          have hok : treeOk (m : Int) l = true := by rw [treeOk, Bool.and_eq_true, decide_eq_true_eq]; exact ⟨hg, by rw [Int.toNat_natCast]; exact hb⟩
          have b := fr_b_0 0 (m : Int) (l.map encP) x m _ (s46_ok hg true hb)
          by_cases hx : 0 ≤ x ∧ x ≤ (m : Int) - 1
          · have hF : pfarF (m : Int) l x = (farF (adjOf m l) x.toNat, 0) := by rw [pfarF, if_pos ⟨hok, hx⟩, Int.toNat_natCast]
            rw [hF]
            have c := fr_c_0 0 (m : Int) (l.map encP) x m ((adjOf m l).map rowO) (by rw [hw]; exact s49 _ _ _ true (decide_eq_true hx))
            have z := fr_z_0 0 (m : Int) (l.map encP) x m ((adjOf m l).map rowO) _ _ (s50 (by omega) (by omega) (List.all_eq_true.1 hg.2) (by omega))
            have hlen : (farF (adjOf m l) x.toNat).length = m := by rw [farF, bfs_len]; exact (adjOf_inv (List.all_eq_true.1 hg.2)).len
            have t1 := RunsTo.seq c z (c := sub [1, 1] B25) (by kernel_rfl) (by kernel_rfl)
            have t2 := RunsTo.seq b t1 (c := sub [1] B25) (by kernel_rfl) (by kernel_rfl)
            exact ⟨_, _, _, _, RunsTo.seq a t2 (c := B25) (by kernel_rfl) (by kernel_rfl), by simp, by simp only [resultsV, res25, mapO, resultV]; rfl, res_out (b := 3) rfl hlen [0]⟩
          · have hF : pfarF (m : Int) l x = ([], 2) := by rw [pfarF, if_neg (fun h => hx h.2)]
            rw [hF]
            have c := fr_c_1 0 (m : Int) (l.map encP) x m ((adjOf m l).map rowO) (by rw [hw]; exact s49 _ _ _ false (decide_eq_false hx))
            have t2 := RunsTo.seq b (RunsTo.seq_out c (by simp) (c := sub [1, 1] B25) (b := sub [1, 1, 1] B25) (by kernel_rfl)) (c := sub [1] B25) (by kernel_rfl) (by kernel_rfl)
            exact ⟨_, _, _, _, RunsTo.seq a t2 (c := B25) (by kernel_rfl) (by kernel_rfl), by simp, by simp only [resultsV, res25, mapO, resultV]; rfl, rfl⟩
        | false =>
          have hok : ¬ treeOk (m : Int) l = true := by rw [treeOk, Bool.and_eq_true, Int.toNat_natCast, hb]; simp
          have hF : pfarF (m : Int) l x = ([], 2) := by rw [pfarF, if_neg (fun h => hok h.1)]
          rw [hF]
          have b := fr_b_1 0 (m : Int) (l.map encP) x m _ (s46_ok hg false hb)
          have c := fr_cf_0 0 (m : Int) (l.map encP) x m ((adjOf m l).map rowO)
          have t2 := RunsTo.seq b (RunsTo.seq_out c (by simp) (c := sub [1, 1] B25) (b := sub [1, 1, 1] B25) (by kernel_rfl)) (c := sub [1] B25) (by kernel_rfl) (by kernel_rfl)
          exact ⟨_, _, _, _, RunsTo.seq a t2 (c := B25) (by kernel_rfl) (by kernel_rfl), by simp, by simp only [resultsV, res25, mapO, resultV]; rfl, rfl⟩
      · have hok : ¬ treeOk n l = true := by rw [treeOk, Bool.and_eq_true, decide_eq_true_eq]; exact fun h => hg h.1
        have hF : pfarF n l x = ([], 2) := by rw [pfarF, if_neg (fun h => hok h.1)]
        rw [hF]
        have b := fr_b_2 0 n (l.map encP) x (s46_bad hg)
        have c := fr_cb_0 0 n (l.map encP) x
        have t2 := RunsTo.seq b (RunsTo.seq_out c (by simp) (c := sub [1, 1] B25) (b := sub [1, 1, 1] B25) (by kernel_rfl)) (c := sub [1] B25) (by kernel_rfl) (by kernel_rfl)
        exact ⟨_, _, _, _, RunsTo.seq a t2 (c := B25) (by kernel_rfl) (by kernel_rfl), by simp, by simp only [resultsV, res25, mapO, resultV]; rfl, rfl⟩
    · cases h
  · cases h
end Go.Proofs.Ytmhfkhlamnapdaa
end
section
open Go Go.HL
namespace Go.Proofs.Ytmhfkhlamnapdaa
def primT1 (g : FuncId) : Option (List HV → Option HV) := if g == 22 then some modF else none
def polT1 : Pol := { pol with prim := primT1 }
theorem primT1_ok (g : FuncId) (f : List HV → Option HV) (h : primT1 g = some f) : PrimOk Try.prog g f := by
  unfold primT1 at h
  split at h
  · rename_i hg; cases h; rw [eq_of_beq hg]; exact mod_ok
  · cases h
theorem soundT1 (n : Nat) : CallSound Try.prog (callN Try.prog polT1 n) := sound_prim primT1 primT1_ok n
end Go.Proofs.Ytmhfkhlamnapdaa
end
section
open Go Go.HL
namespace Go.Proofs.Ytmhfkhlamnapdaa
set_option maxRecDepth 100000
noncomputable def B23 : Code := Try.f23.body.getD .skip
abbrev env23 (v0 v1 v4 v5 v6 v7 : HV) : Env := [(0, v0), (1, v1), (4, v4), (5, v5), (6, v6), (7, v7)]
theorem tm_a_0 (la : List HV) (n : Int) : RunsTo Try.prog polT1 23 (sub [0] B23) [(0, .imm .arg 1 la), (1, .i n)] [] .normal (polT1.keys 23) (env23 (.imm .arg 1 la) (.i n) (.imm .lit 2 []) .undef .undef .undef) [] :=
  RunsTo.hin 0 60 [] fun kf hk => ⟨_, by kernel_rfl, .nil⟩
theorem tm_b_0 (la : List HV) (n : Int) : RunsTo Try.prog polT1 23 (sub [1, 0] B23) (env23 (.imm .arg 1 la) (.i n) (.imm .lit 2 []) .undef .undef .undef) [] .normal (polT1.keys 23) (env23 (.imm .arg 1 la) (.i n) (.imm .lit 2 []) (.sl 0 0 0 none 0 2) .undef .undef) [.arr 2 [] true 0] :=
  RunsTo.hin 0 60 [] fun kf hk => ⟨_, by kernel_rfl, .nil⟩
theorem tm_c_0 (la : List HV) (n : Int) (els : List HV) (p : Nat) : RunsTo Try.prog polT1 23 (sub [1, 1, 0, 0] B23) (env23 (.imm .arg 1 la) (.i n) (.imm .lit 2 []) (.sl 0 0 p none p 2) .undef .undef) [.arr 2 els true 0] .normal (polT1.keys 23) (env23 (.imm .arg 1 la) (.i n) (.imm .lit 2 []) (.sl 0 0 p none p 2) (.i 1) .undef) [.arr 2 els true 0] :=
  RunsTo.hin 0 60 [] fun kf hk => ⟨_, by kernel_rfl, .nil⟩
theorem tm_l_0 (la : List HV) (n : Int) (els : List HV) (p : Nat) (j : Nat) (x0 : Int) (r0 : Int) (g0 : (j : Int) < n) (g1 : (j : Int) < (la.length : Int)) (g2 : idxV Try.prog 24 (.imm .arg 1 la) (.i (j : Int)) = some (.vptr (.i x0))) (g3 : ∀ kf, callN Try.prog polT1 (kf + 1) 22 [.i x0, .i (j : Int)] [.arr 2 els true 0] = some (.i r0, [.arr 2 els true 0])) (g4 : appV [.arr 2 els true 0] 2 16 (.sl 0 0 p none p 2) [.agg [.i r0, .i (j : Int)]] = some (.sl 0 0 (p + 1) none (p + 1) 2, [.arr 2 (els ++ [.agg [.i r0, .i (j : Int)]]) true 0])) : RunsTo Try.prog polT1 23 (sub [1, 1, 0, 1, 0, 0] B23) (env23 (.imm .arg 1 la) (.i n) (.imm .lit 2 []) (.sl 0 0 p none p 2) (.i (j : Int)) .undef) [.arr 2 els true 0] .normal (polT1.keys 23) (env23 (.imm .arg 1 la) (.i n) (.imm .lit 2 []) (.sl 0 0 (p + 1) none (p + 1) 2) (.i (IntKind.i64.wrap ((j : Int) + 1))) (.i r0)) [.arr 2 (els ++ [.agg [.i r0, .i (j : Int)]]) true 0] :=
  RunsTo.hin 0 60 [⟨3, 2, .bool true, [.arr 2 els true 0]⟩, ⟨6, 3, .bool true, [.arr 2 els true 0]⟩, ⟨7, 2, .vptr (.i x0), [.arr 2 els true 0]⟩, ⟨7, 5, .i r0, [.arr 2 els true 0]⟩, ⟨8, 5, .sl 0 0 (p + 1) none (p + 1) 2, [.arr 2 (els ++ [.agg [.i r0, .i (j : Int)]]) true 0]⟩] fun kf hk => ⟨_, by kernel_rfl, (oB [.arr 2 els true 0] (decide_eq_true g0) (oB [.arr 2 els true 0] (decide_eq_true g1) (oP [.arr 2 els true 0] g2 (oC (g3 kf) (oC (g4) .nil)))))⟩
theorem tm_l_1 (la : List HV) (n : Int) (els : List HV) (p : Nat) (j : Nat)(g0 : (j : Int) < n) (g1 : ¬ ((j : Int) < (la.length : Int))) (g2 : appV [.arr 2 els true 0] 2 16 (.sl 0 0 p none p 2) [.agg [.i (IntKind.i64.wrap ((j : Int) - 1)), .i (j : Int)]] = some (.sl 0 0 (p + 1) none (p + 1) 2, [.arr 2 (els ++ [.agg [.i (IntKind.i64.wrap ((j : Int) - 1)), .i (j : Int)]]) true 0])) : RunsTo Try.prog polT1 23 (sub [1, 1, 0, 1, 0, 0] B23) (env23 (.imm .arg 1 la) (.i n) (.imm .lit 2 []) (.sl 0 0 p none p 2) (.i (j : Int)) .undef) [.arr 2 els true 0] .normal (polT1.keys 23) (env23 (.imm .arg 1 la) (.i n) (.imm .lit 2 []) (.sl 0 0 (p + 1) none (p + 1) 2) (.i (IntKind.i64.wrap ((j : Int) + 1))) (.i (IntKind.i64.wrap ((j : Int) - 1)))) [.arr 2 (els ++ [.agg [.i (IntKind.i64.wrap ((j : Int) - 1)), .i (j : Int)]]) true 0] :=
  RunsTo.hin 0 60 [⟨3, 2, .bool true, [.arr 2 els true 0]⟩, ⟨6, 3, .bool false, [.arr 2 els true 0]⟩, ⟨8, 5, .sl 0 0 (p + 1) none (p + 1) 2, [.arr 2 (els ++ [.agg [.i (IntKind.i64.wrap ((j : Int) - 1)), .i (j : Int)]]) true 0]⟩] fun kf hk => ⟨_, by kernel_rfl, (oB [.arr 2 els true 0] (decide_eq_true g0) (oB [.arr 2 els true 0] (decide_eq_false g1) (oC (g2) .nil)))⟩
theorem tm_l_2 (la : List HV) (n : Int) (els : List HV) (p : Nat) (j : Nat)(g0 : ¬ ((j : Int) < n)) : RunsTo Try.prog polT1 23 (sub [1, 1, 0, 1, 0, 0] B23) (env23 (.imm .arg 1 la) (.i n) (.imm .lit 2 []) (.sl 0 0 p none p 2) (.i (j : Int)) .undef) [.arr 2 els true 0] (.exit 0) (polT1.keys 23) (env23 (.imm .arg 1 la) (.i n) (.imm .lit 2 []) (.sl 0 0 p none p 2) (.i (j : Int)) .undef) [.arr 2 els true 0] :=
  RunsTo.hin 0 60 [⟨3, 2, .bool false, [.arr 2 els true 0]⟩] fun kf hk => ⟨_, by kernel_rfl, (oB [.arr 2 els true 0] (decide_eq_false g0) .nil)⟩
theorem tm_z_0 (la : List HV) (n : Int) (els : List HV) (p : Nat) (j : Nat) : RunsTo Try.prog polT1 23 (sub [1, 1, 1] B23) (env23 (.imm .arg 1 la) (.i n) (.imm .lit 2 []) (.sl 0 0 p none p 2) (.i (j : Int)) .undef) [.arr 2 els true 0] .ret (polT1.keys 23) (env23 (.imm .arg 1 la) (.i n) (.sl 0 0 p none p 2) (.sl 0 0 p none p 2) (.i (j : Int)) .undef) [.arr 2 els true 0] :=
  RunsTo.hin 0 60 [] fun kf hk => ⟨_, by kernel_rfl, .nil⟩
end Go.Proofs.Ytmhfkhlamnapdaa
end
section
open Go Go.HL
namespace Go.Proofs.Ytmhfkhlamnapdaa
def tameAt (l : List Int) (j : Nat) : Int := match l[j]? with | some x => modW x (j : Int) | none => (j : Int) - 1
def tameGo (l : List Int) : Nat → Nat → List (Int × Int) → List (Int × Int)
  | _, 0, acc => acc
  | j, d + 1, acc => tameGo l (j + 1) d (acc ++ [(tameAt l j, (j : Int))])
def tameL (l : List Int) (m : Nat) : List (Int × Int) := tameGo l 1 (m - 1) []
theorem u24t : Try.prog.underlying 24 = some (.slice 3) := by kernel_rfl
theorem z3t : tySize Try.prog 3 = some 1 := by kernel_rfl
abbrev tmE (la : List HV) (m : Nat) (p j : Nat) : Env := env23 (.imm .arg 1 la) (.int .i64 (m : Int)) (.imm .lit 2 []) (.sl 0 0 p none p 2) (.int .i64 (j : Int)) .undef
theorem tame_loop (l : List Int) (m : Nat) (hm : m ≤ 1000) : ∀ (d j : Nat) (acc : List (Int × Int)), j + d = m → 0 < j → acc.length ≤ j →
    RunsTo Try.prog polT1 23 (sub [1, 1, 0, 1, 0] B23) (tmE (l.map encI) m acc.length j) [bPs acc]
      (.exit 0) (polT1.keys 23) (tmE (l.map encI) m (tameGo l j d acc).length m) [bPs (tameGo l j d acc)] := by
  intro d
  induction d with
  | zero =>
    intro j acc hj h0 ha
    have hj : j = m := by omega
    subst hj
    exact RunsTo.loop_out (tm_l_2 (l.map encI) (j : Int) (acc.map encP) acc.length j (by omega)) (by simp) (by kernel_rfl) (by kernel_rfl)
  | succ d ih =>
    intro j acc hj h0 ha
    have h := ih (j + 1) (acc ++ [(tameAt l j, (j : Int))]) (by omega) (by omega) (by simp only [List.length_append, List.length_singleton]; omega)
    rw [show tameGo l j (d + 1) acc = tameGo l (j + 1) d (acc ++ [(tameAt l j, (j : Int))]) from rfl]
    have hap : ∀ y : Int, appV [bPs acc] 2 16 (.sl 0 0 acc.length none acc.length 2) [.agg [.int .i64 y, .int .i64 (j : Int)]] = some (.sl 0 0 (acc.length + 1) none (acc.length + 1) 2, [.arr 2 (acc.map encP ++ [.agg [.int .i64 y, .int .i64 (j : Int)]]) true 0]) := fun y =>
      app_sl (H := [bPs acc]) (k := 2) (bytes := 16) (b := 0) (n := acc.length) (mx := 0) (els := acc.map encP) (xs := [encP (y, (j : Int))]) rfl (by simp) (by simp) (by simp only [List.length_singleton, roomMax]; omega) rfl
    have e1 : ∀ y : Int, (acc ++ [(y, (j : Int))]).map encP = acc.map encP ++ [.agg [.int .i64 y, .int .i64 (j : Int)]] := fun y => by simp [encP]
    have e2 : ∀ y : Int, (acc ++ [(y, (j : Int))]).length = acc.length + 1 := fun y => by simp
    unfold bPs at h
    rw [e1, e2] at h
    by_cases hjl : j < l.length
    · have ga : (l.map encI)[j]? = some (encI l[j]) := by rw [List.getElem?_map, List.getElem?_eq_getElem hjl]; rfl
      have g1 : idxV Try.prog 24 (.imm .arg 1 (l.map encI)) (.int .i64 (j : Int)) = some (.vptr (.int .i64 l[j])) := idx_imm u24t z3t (by omega) (by rw [Int.toNat_natCast]; exact ga)
      have ht : tameAt l j = modW l[j] (j : Int) := by rw [tameAt, List.getElem?_eq_getElem hjl]
      rw [ht] at h ⊢
      have gm : ∀ (k : Nat), callN Try.prog polT1 (k + 1) 22 [.int .i64 l[j], .int .i64 (j : Int)] [bPs acc] = some (.int .i64 (modW l[j] (j : Int)), [bPs acc]) := fun k => by
        rw [prim_call (pol := polT1) (g := 22) (F := modF) (by kernel_rfl) (rs := [.int .i64 l[j], .int .i64 (j : Int)]) rfl (res := .int .i64 (modW l[j] (j : Int))) (by simp only [modF]; rw [if_pos ⟨by omega, by omega⟩])]; rfl
      have s1 := tm_l_0 (l.map encI) (m : Int) (acc.map encP) acc.length j _ _ (by omega) (by rw [List.length_map]; omega) g1 gm (hap _)
      rw [wrap_succ (by omega)] at s1
      exact RunsTo.loop s1 (by kernel_rfl) (gc_same (by simp)) h rfl (by kernel_rfl) (by kernel_rfl)
    · have ht : tameAt l j = (j : Int) - 1 := by rw [tameAt, List.getElem?_eq_none (by omega)]
      have hw : IntKind.i64.wrap ((j : Int) - 1) = (j : Int) - 1 := by rw [wrapI64]; omega
      rw [ht] at h ⊢
      have s1 := tm_l_1 (l.map encI) (m : Int) (acc.map encP) acc.length j (by omega) (by rw [List.length_map]; omega) (by rw [hw]; exact hap _)
      rw [hw, wrap_succ (by omega)] at s1
      exact RunsTo.loop s1 (by kernel_rfl) (gc_same (by simp)) h rfl (by kernel_rfl) (by kernel_rfl)
def tame23 : List HV → Option HV
  | [.imm .arg 1 la, .int .i64 n] => match mapO decI la with | some l => if 1 ≤ n ∧ n ≤ 1000 then some (.own 2 ((tameL l n.toNat).map encP)) else none | none => none
  | _ => none
theorem res23 : Try.f23.results.toList = [.tmp 4] := by kernel_rfl
theorem tame_ok : PrimOk Try.prog 23 tame23 := by
  refine primOk_pure (pol := polT1) (fn := Try.f23) (cd := B23) follows_mixed soundT1 (by kernel_rfl) (by kernel_rfl) (fnok polT1.prim _ _ (by kernel_rfl)) (by kernel_rfl) ?_
  intro args res h
  unfold tame23 at h
  split at h
  · rename_i la n
    split at h
    · rename_i l hl
      split at h
      · rename_i hn
        cases h
        rw [mapO_inv decI_inv hl]
        obtain ⟨m, rfl⟩ : ∃ m : Nat, n = (m : Int) := ⟨n.toNat, by omega⟩
        rw [Int.toNat_natCast]
        have a1 := tm_a_0 (l.map encI) (m : Int)
        have b1 := tm_b_0 (l.map encI) (m : Int)
        have c1 := tm_c_0 (l.map encI) (m : Int) [] 0
        have l1 := tame_loop l m (by omega) (m - 1) 1 [] (by omega) (by omega) (by simp)
        have z1 := tm_z_0 (l.map encI) (m : Int) ((tameL l m).map encP) (tameL l m).length m
        have t1 := RunsTo.seq c1 (RunsTo.block_exit (c := sub [1, 1, 0, 1] B23) l1 (by kernel_rfl)) (c := sub [1, 1, 0] B23) (by kernel_rfl) (by kernel_rfl)
        have t2 := RunsTo.seq t1 z1 (c := sub [1, 1] B23) (by kernel_rfl) (by kernel_rfl)
        have t3 := RunsTo.seq b1 t2 (c := sub [1] B23) (by kernel_rfl) (by kernel_rfl)
        have t4 := RunsTo.seq a1 t3 (c := B23) (by kernel_rfl) (by kernel_rfl)
        have hr := resCell_sl (H := [bPs (tameL l m)]) (no := [0]) (b := 0) (k := 2) (m := (tameL l m).length) (cap := none) (els := (tameL l m).map encP) rfl (by simp) (mapO_self (fun r => frz_pair r) _)
        have ho : ownedAll [bPs (tameL l m)] false (.sl 0 0 (tameL l m).length none (tameL l m).length 2) = [0] := rfl
        refine ⟨_, _, _, .sl 0 0 (tameL l m).length none (tameL l m).length 2, t4, by simp, by simp only [resultsV, res23]; rfl, ?_⟩
        show toRes _ false _ = _
        simp only [toRes, ho, List.nodup_cons, List.not_mem_nil, not_false_eq_true, List.nodup_nil, and_self, if_true, resVal, hr]
      · cases h
    · cases h
  · cases h
end Go.Proofs.Ytmhfkhlamnapdaa
end
section
open Go Go.HL
namespace Go.Proofs.Ytmhfkhlamnapdaa
set_option maxRecDepth 100000
noncomputable def B31 : Code := Try.f31.body.getD .skip
abbrev env31 (v0 v1 v2 v6 v7 v8 v9 v10 v11 : HV) : Env := [(0, v0), (1, v1), (2, v2), (6, v6), (7, v7), (8, v8), (9, v9), (10, v10), (11, v11)]
theorem sfd_a_0 (N : Nat) (n : Int) (lc : List HV) (x : Int) : RunsTo Try.prog polS 31 (sub [0] B31) [(0, .i n), (1, .imm .arg 2 lc), (2, .i x)] [] .normal (polS.keys 31) (env31 (.i n) (.imm .arg 2 lc) (.i x) (.imm .lit 1 []) (.i 0) .undef .undef .undef .undef) [] :=
  RunsTo.hin N 60 [] fun kf hk => ⟨_, by kernel_rfl, .nil⟩
theorem sfd_b_0 (N : Nat) (n : Int) (lc : List HV) (x : Int) (m : Nat) (rows : List HV) (g0 : ∀ kf, callN Try.prog polS (kf + 1) 46 [.i n, .imm .arg 2 lc] [] = some (.tuple [.agg [.sl 0 0 m none m 1, .map 1], .bool true], [.arr 1 rows true 0, .map [] [] 0])) : RunsTo Try.prog polS 31 (sub [1, 0] B31) (env31 (.i n) (.imm .arg 2 lc) (.i x) (.imm .lit 1 []) (.i 0) .undef .undef .undef .undef) [] .normal (polS.keys 31) (env31 (.i n) (.imm .arg 2 lc) (.i x) (.imm .lit 1 []) (.i 0) (.ptr 2 0 0 1) (.bool true) .undef .undef) [.arr 1 rows true 0, .map [] [] 0, .arr 2 [.agg [.sl 0 0 m none m 1, .map 1]] true 2] :=
  RunsTo.hin N 60 [⟨1, 2, .tuple [.agg [.sl 0 0 m none m 1, .map 1], .bool true], [.arr 1 rows true 0, .map [] [] 0]⟩] fun kf hk => ⟨_, by kernel_rfl, (oC (g0 kf) .nil)⟩
theorem sfd_b_1 (N : Nat) (n : Int) (lc : List HV) (x : Int) (m : Nat) (rows : List HV) (g0 : ∀ kf, callN Try.prog polS (kf + 1) 46 [.i n, .imm .arg 2 lc] [] = some (.tuple [.agg [.sl 0 0 m none m 1, .map 1], .bool false], [.arr 1 rows true 0, .map [] [] 0])) : RunsTo Try.prog polS 31 (sub [1, 0] B31) (env31 (.i n) (.imm .arg 2 lc) (.i x) (.imm .lit 1 []) (.i 0) .undef .undef .undef .undef) [] .normal (polS.keys 31) (env31 (.i n) (.imm .arg 2 lc) (.i x) (.imm .lit 1 []) (.i 0) (.ptr 2 0 0 1) (.bool false) .undef .undef) [.arr 1 rows true 0, .map [] [] 0, .arr 2 [.agg [.sl 0 0 m none m 1, .map 1]] true 2] :=
  RunsTo.hin N 60 [⟨1, 2, .tuple [.agg [.sl 0 0 m none m 1, .map 1], .bool false], [.arr 1 rows true 0, .map [] [] 0]⟩] fun kf hk => ⟨_, by kernel_rfl, (oC (g0 kf) .nil)⟩
theorem sfd_b_2 (N : Nat) (n : Int) (lc : List HV) (x : Int)(g0 : ∀ kf, callN Try.prog polS (kf + 1) 46 [.i n, .imm .arg 2 lc] [] = some (.tuple [.agg [.sl 0 0 0 none 0 0, .nilmap], .bool false], [.arr 0 [] true 0])) : RunsTo Try.prog polS 31 (sub [1, 0] B31) (env31 (.i n) (.imm .arg 2 lc) (.i x) (.imm .lit 1 []) (.i 0) .undef .undef .undef .undef) [] .normal (polS.keys 31) (env31 (.i n) (.imm .arg 2 lc) (.i x) (.imm .lit 1 []) (.i 0) (.ptr 1 0 0 1) (.bool false) .undef .undef) [.arr 0 [] true 0, .arr 2 [.agg [.sl 0 0 0 none 0 0, .nilmap]] true 1] :=
  RunsTo.hin N 60 [⟨1, 2, .tuple [.agg [.sl 0 0 0 none 0 0, .nilmap], .bool false], [.arr 0 [] true 0]⟩] fun kf hk => ⟨_, by kernel_rfl, (oC (g0 kf) .nil)⟩
theorem sfd_c_0 (N : Nat) (n : Int) (lc : List HV) (x : Int) (m : Nat) (rows : List HV)(g0 : ∀ kf, callN Try.prog polS (kf + 1) 49 [.i x, .i 0, .i (IntKind.i64.wrap (n - 1))] [.arr 1 rows true 0, .map [] [] 0, .arr 2 [.agg [.sl 0 0 m none m 1, .map 1]] true 2] = some (.bool true, [.arr 1 rows true 0, .map [] [] 0, .arr 2 [.agg [.sl 0 0 m none m 1, .map 1]] true 2])) : RunsTo Try.prog polS 31 (sub [1, 1, 0] B31) (env31 (.i n) (.imm .arg 2 lc) (.i x) (.imm .lit 1 []) (.i 0) (.ptr 2 0 0 1) (.bool true) .undef .undef) [.arr 1 rows true 0, .map [] [] 0, .arr 2 [.agg [.sl 0 0 m none m 1, .map 1]] true 2] .normal (polS.keys 31) (env31 (.i n) (.imm .arg 2 lc) (.i x) (.imm .lit 1 []) (.i 0) (.ptr 2 0 0 1) (.bool true) .undef .undef) [.arr 1 rows true 0, .map [] [] 0, .arr 2 [.agg [.sl 0 0 m none m 1, .map 1]] true 2] :=
  RunsTo.hin N 60 [⟨2, 6, .bool true, [.arr 1 rows true 0, .map [] [] 0, .arr 2 [.agg [.sl 0 0 m none m 1, .map 1]] true 2]⟩] fun kf hk => ⟨_, by kernel_rfl, (oC (g0 kf) .nil)⟩
theorem sfd_c_1 (N : Nat) (n : Int) (lc : List HV) (x : Int) (m : Nat) (rows : List HV)(g0 : ∀ kf, callN Try.prog polS (kf + 1) 49 [.i x, .i 0, .i (IntKind.i64.wrap (n - 1))] [.arr 1 rows true 0, .map [] [] 0, .arr 2 [.agg [.sl 0 0 m none m 1, .map 1]] true 2] = some (.bool false, [.arr 1 rows true 0, .map [] [] 0, .arr 2 [.agg [.sl 0 0 m none m 1, .map 1]] true 2])) : RunsTo Try.prog polS 31 (sub [1, 1, 0] B31) (env31 (.i n) (.imm .arg 2 lc) (.i x) (.imm .lit 1 []) (.i 0) (.ptr 2 0 0 1) (.bool true) .undef .undef) [.arr 1 rows true 0, .map [] [] 0, .arr 2 [.agg [.sl 0 0 m none m 1, .map 1]] true 2] .ret (polS.keys 31) (env31 (.i n) (.imm .arg 2 lc) (.i x) (.imm .lit 1 []) (.i 2) (.ptr 2 0 0 1) (.bool true) .undef .undef) [.arr 1 rows true 0, .map [] [] 0, .arr 2 [.agg [.sl 0 0 m none m 1, .map 1]] true 2] :=
  RunsTo.hin N 60 [⟨2, 6, .bool false, [.arr 1 rows true 0, .map [] [] 0, .arr 2 [.agg [.sl 0 0 m none m 1, .map 1]] true 2]⟩] fun kf hk => ⟨_, by kernel_rfl, (oC (g0 kf) .nil)⟩
theorem sfd_cf_0 (N : Nat) (n : Int) (lc : List HV) (x : Int) (m : Nat) (rows : List HV) : RunsTo Try.prog polS 31 (sub [1, 1, 0] B31) (env31 (.i n) (.imm .arg 2 lc) (.i x) (.imm .lit 1 []) (.i 0) (.ptr 2 0 0 1) (.bool false) .undef .undef) [.arr 1 rows true 0, .map [] [] 0, .arr 2 [.agg [.sl 0 0 m none m 1, .map 1]] true 2] .ret (polS.keys 31) (env31 (.i n) (.imm .arg 2 lc) (.i x) (.imm .lit 1 []) (.i 2) (.ptr 2 0 0 1) (.bool false) .undef .undef) [.arr 1 rows true 0, .map [] [] 0, .arr 2 [.agg [.sl 0 0 m none m 1, .map 1]] true 2] :=
  RunsTo.hin N 60 [] fun kf hk => ⟨_, by kernel_rfl, .nil⟩
theorem sfd_cb_0 (N : Nat) (n : Int) (lc : List HV) (x : Int) : RunsTo Try.prog polS 31 (sub [1, 1, 0] B31) (env31 (.i n) (.imm .arg 2 lc) (.i x) (.imm .lit 1 []) (.i 0) (.ptr 1 0 0 1) (.bool false) .undef .undef) [.arr 0 [] true 0, .arr 2 [.agg [.sl 0 0 0 none 0 0, .nilmap]] true 1] .ret (polS.keys 31) (env31 (.i n) (.imm .arg 2 lc) (.i x) (.imm .lit 1 []) (.i 2) (.ptr 1 0 0 1) (.bool false) .undef .undef) [.arr 0 [] true 0, .arr 2 [.agg [.sl 0 0 0 none 0 0, .nilmap]] true 1] :=
  RunsTo.hin N 60 [] fun kf hk => ⟨_, by kernel_rfl, .nil⟩
theorem sfd_d_0 (N : Nat) (n : Int) (lc : List HV) (x : Int) (m : Nat) (H : Heap) (ob bb sb : Nat) (t : Nat) (H0 : Heap) (H1 : Heap) (H2 : Heap) (H3 : Heap) (g0 : loadV Try.prog H 72 (.ptr 2 0 0 1) = some (.agg [.sl 0 0 m none m 1, .map 1])) (g1 : ∀ kf, N ≤ kf → callN Try.prog polS (kf + 1) 47 [.agg [.sl 0 0 m none m 1, .map 1], .i x, .i (-1)] H = some (.i (t : Int), H0)) (g2 : makeV Try.prog true 44 (.i (t : Int)) (.i (t : Int)) H0 = some (.sl ob 0 t (some t) t 1, H1)) (g3 : some (HV.ptr H1.length 0 0 1, H1 ++ [Blk.arr 1 [HV.sl (H1.length + 1) 0 0 none 0 1] true (H1.length + 2), Blk.arr 1 [] true 0]) = some (.ptr bb 0 0 1, H2)) (g4 : storeV Try.prog H2 44 (.ptr bb 0 0 1) (.sl ob 0 t (some t) t 1) = some H3) : RunsTo Try.prog polS 31 (sub [1, 1, 1, 0] B31) (env31 (.i n) (.imm .arg 2 lc) (.i x) (.imm .lit 1 []) (.i 0) (.ptr 2 0 0 1) (.bool true) .undef .undef) H .normal (polS.keys 31) (env31 (.i n) (.imm .arg 2 lc) (.i x) (.imm .lit 1 []) (.i 0) (.ptr 2 0 0 1) (.bool true) (.ptr bb 0 0 1) .undef) H3 :=
  RunsTo.hin N 60 [⟨4, 0, .agg [.sl 0 0 m none m 1, .map 1], H⟩, ⟨4, 2, .i (t : Int), H0⟩, ⟨4, 3, .sl ob 0 t (some t) t 1, H1⟩, ⟨4, 4, .ptr bb 0 0 1, H2⟩, ⟨4, 5, .tuple [], H3⟩] fun kf hk => ⟨_, by kernel_rfl, (oP H g0 (oC (g1 kf (by omega)) (oC (g2) (oC (g3) (oS g4 .nil)))))⟩
theorem sfd_e_0 (N : Nat) (n : Int) (lc : List HV) (x : Int) (m : Nat) (H : Heap) (ob bb sb : Nat) (t : Nat) (H0 : Heap) (g0 : some (newV (.nilFunc) H) = some (.ptr sb 0 0 1, H0)) : RunsTo Try.prog polS 31 (sub [1, 1, 1, 1, 0] B31) (env31 (.i n) (.imm .arg 2 lc) (.i x) (.imm .lit 1 []) (.i 0) (.ptr 2 0 0 1) (.bool true) (.ptr bb 0 0 1) .undef) H .normal (polS.keys 31) (env31 (.i n) (.imm .arg 2 lc) (.i x) (.imm .lit 1 []) (.i 0) (.ptr 2 0 0 1) (.bool true) (.ptr bb 0 0 1) (.ptr sb 0 0 1)) H0 :=
  RunsTo.hin N 60 [⟨5, 0, .ptr sb 0 0 1, H0⟩] fun kf hk => ⟨_, by kernel_rfl, (oC (g0) .nil)⟩
theorem sfd_f_0 (N : Nat) (n : Int) (lc : List HV) (x : Int) (m : Nat) (H : Heap) (ob bb sb : Nat) (t : Nat) (H0 : Heap) (g0 : storeV Try.prog H 82 (.ptr sb 0 0 1) (.func 54 [] [.ptr 2 0 0 1, .ptr bb 0 0 1, .ptr sb 0 0 1]) = some H0) : RunsTo Try.prog polS 31 (sub [1, 1, 1, 1, 1, 0] B31) (env31 (.i n) (.imm .arg 2 lc) (.i x) (.imm .lit 1 []) (.i 0) (.ptr 2 0 0 1) (.bool true) (.ptr bb 0 0 1) (.ptr sb 0 0 1)) H .normal (polS.keys 31) (env31 (.i n) (.imm .arg 2 lc) (.i x) (.imm .lit 1 []) (.i 0) (.ptr 2 0 0 1) (.bool true) (.ptr bb 0 0 1) (.ptr sb 0 0 1)) H0 :=
  RunsTo.hin N 60 [⟨6, 1, .tuple [], H0⟩] fun kf hk => ⟨_, by kernel_rfl, (oS g0 .nil)⟩
theorem sfd_g_0 (N : Nat) (n : Int) (lc : List HV) (x : Int) (m : Nat) (H : Heap) (ob bb sb : Nat) (t : Nat) (H0 : Heap) (g0 : loadV Try.prog H 82 (.ptr sb 0 0 1) = some (.func 54 [] [.ptr 2 0 0 1, .ptr bb 0 0 1, .ptr sb 0 0 1])) (g1 : ∀ kf, N ≤ kf → callN Try.prog polS (kf + 1) 54 [.i x, .i (-1), .i 0, .ptr 2 0 0 1, .ptr bb 0 0 1, .ptr sb 0 0 1] H = some (.tuple [], H0)) : RunsTo Try.prog polS 31 (sub [1, 1, 1, 1, 1, 1, 0] B31) (env31 (.i n) (.imm .arg 2 lc) (.i x) (.imm .lit 1 []) (.i 0) (.ptr 2 0 0 1) (.bool true) (.ptr bb 0 0 1) (.ptr sb 0 0 1)) H .normal (polS.keys 31) (env31 (.i n) (.imm .arg 2 lc) (.i x) (.imm .lit 1 []) (.i 0) (.ptr 2 0 0 1) (.bool true) (.ptr bb 0 0 1) (.ptr sb 0 0 1)) H0 :=
  RunsTo.hin N 60 [⟨7, 0, .func 54 [] [.ptr 2 0 0 1, .ptr bb 0 0 1, .ptr sb 0 0 1], H⟩, ⟨7, 2, .tuple [], H0⟩] fun kf hk => ⟨_, by kernel_rfl, (oP H g0 (oC (g1 kf (by omega)) .nil))⟩
theorem sfd_z_0 (N : Nat) (n : Int) (lc : List HV) (x : Int) (m : Nat) (H : Heap) (ob bb sb : Nat) (t : Nat)(g0 : loadV Try.prog H 44 (.ptr bb 0 0 1) = some (.sl ob 0 t (some t) t 1)) : RunsTo Try.prog polS 31 (sub [1, 1, 1, 1, 1, 1, 1] B31) (env31 (.i n) (.imm .arg 2 lc) (.i x) (.imm .lit 1 []) (.i 0) (.ptr 2 0 0 1) (.bool true) (.ptr bb 0 0 1) (.ptr sb 0 0 1)) H .ret (polS.keys 31) (env31 (.i n) (.imm .arg 2 lc) (.i x) (.sl ob 0 t (some t) t 1) (.i 0) (.ptr 2 0 0 1) (.bool true) (.ptr bb 0 0 1) (.ptr sb 0 0 1)) H :=
  RunsTo.hin N 60 [⟨8, 0, .sl ob 0 t (some t) t 1, H⟩] fun kf hk => ⟨_, by kernel_rfl, (oP H g0 .nil)⟩
end Go.Proofs.Ytmhfkhlamnapdaa
end
section
open Go Go.HL
namespace Go.Proofs.Ytmhfkhlamnapdaa
def prOf (ob j : Nat) (r : List (Int × Int)) : HV := .sl (ob + 1 + j) 0 r.length none r.length 2
def prsF (ob : Nat) (R : List (List (Int × Int))) : List HV := R.mapIdx (prOf ob)
theorem prsF_get (ob : Nat) (R : List (List (Int × Int))) (j : Nat) : (prsF ob R)[j]? = (R[j]?).map (prOf ob j) := by simp [prsF, List.getElem?_mapIdx]
theorem prsF_len (ob : Nat) (R : List (List (Int × Int))) : (prsF ob R).length = R.length := by simp [prsF]
theorem prsF_set (ob : Nat) (R : List (List (Int × Int))) (a : Nat) (r : List (Int × Int)) : (prsF ob R).set a (prOf ob a r) = prsF ob (R.set a r) := by
  apply List.ext_getElem?
  intro i
  rw [prsF_get, List.getElem?_set, List.getElem?_set, prsF_get, prsF_len]
  by_cases e : a = i
  · subst e
    by_cases h : a < R.length
    · simp [h]
    · simp [h]
  · simp [e]
structure SO (ob t : Nat) (R : List (List (Int × Int))) (H : Heap) : Prop where
  out : ∃ mx, mx ≤ ob + 1 + t ∧ H[ob]? = some (.arr 1 (prsF ob R) true mx)
  rows : ∀ j r, R[j]? = some r → H[ob + 1 + j]? = some (.arr 2 (r.map encP) true 0)
  len : R.length = t
theorem SO.row {ob t : Nat} {R : List (List (Int × Int))} {H : Heap} (h : SO ob t R H) {j : Nat} {r : List (Int × Int)} (hj : R[j]? = some r) : loadV Try.prog H 22 (.ptr ob j 0 t) = some (prOf ob j r) := by
  obtain ⟨mx, _, ho⟩ := h.out
  exact load_elem ho (by rw [prsF_len]; exact h.len.symm) (by rw [prsF_get, hj]; rfl) rfl (by kernel_rfl) (by kernel_rfl)
theorem z22sp : tySize Try.prog 22 = some 1 := by kernel_rfl
theorem same_prsF (ob : Nat) (R : List (List (Int × Int))) (w : Bool) (m : Nat) : sameH [.arr 1 (prsF ob R) w m] [.arr 1 (prsF ob R) w m] = true := same_arr fun v hv => by
  obtain ⟨i, hi⟩ := List.mem_iff_getElem?.1 hv
  rw [prsF_get] at hi
  cases h : R[i]? with
  | none => rw [h] at hi; cases hi
  | some r => rw [h] at hi; cases hi; simp [prOf, same]
theorem same_prsB (r : List (Int × Int)) : sameH [.arr 2 (r.map encP) true 0] [.arr 2 (r.map encP) true 0] = true := same_arr fun v hv => by
  obtain ⟨k, _, rfl⟩ := List.mem_map.1 hv
  exact same_encP k
theorem SO.push {adj : List (List Nat)} {T : Int → Int → Int} {ob t : Nat} {R : List (List (Int × Int))} {H : Heap} (h : SO ob t R H) (hM : Mem adj T H) (h2 : 2 ≤ ob) (hlen : ob + 1 + t ≤ H.length) {j : Nat} {r : List (Int × Int)} (hj : R[j]? = some r) (hr : r.length ≤ 100) (p : Int × Int) :
    ∃ H4 H5, appV H 2 16 (prOf ob j r) [encP p] = some (prOf ob j (r ++ [p]), H4) ∧ storeV Try.prog H4 22 (.ptr ob j 0 t) (prOf ob j (r ++ [p])) = some H5 ∧ SO ob t (R.set j (r ++ [p])) H5 ∧ Mem adj T H4 ∧ Mem adj T H5 ∧
      H5.length = H.length ∧ (∀ k, k ≠ ob + 1 + j → H4[k]? = H[k]?) ∧ ∀ k, (k < ob ∨ ob + t < k) → H5[k]? = H[k]? := by
  have hjt : j < t := by have := lt_of_get hj; rw [h.len] at this; exact this
  obtain ⟨mx, hmx, ho⟩ := h.out
  have hb := h.rows j r hj
  have hlt : ob + 1 + j < H.length := lt_of_get hb
  have hol : ob < H.length := lt_of_get ho
  have hap := app_sl (H := H) (k := 2) (bytes := 16) (b := ob + 1 + j) (n := r.length) (mx := 0) (els := r.map encP) (xs := [encP p]) hb (by simp) (by simp) (by simp only [List.length_singleton, roomMax]; omega) rfl
  have e1 : prOf ob j (r ++ [p]) = .sl (ob + 1 + j) 0 (r.length + 1) none (r.length + 1) 2 := by simp [prOf]
  have e2 : r.map encP ++ [encP p] = (r ++ [p]).map encP := by simp
  have hn4 : (H.set (ob + 1 + j) (.arr 2 ((r ++ [p]).map encP) true 0))[ob]? = some (.arr 1 (prsF ob R) true mx) := by rw [List.getElem?_set_ne (by omega)]; exact ho
  have hg : (prsF ob R)[j]? = some (prOf ob j r) := by rw [prsF_get, hj]; rfl
  have hst : storeV Try.prog (H.set (ob + 1 + j) (.arr 2 ((r ++ [p]).map encP) true 0)) 22 (.ptr ob j 0 t) (prOf ob j (r ++ [p])) = some ((H.set (ob + 1 + j) (.arr 2 ((r ++ [p]).map encP) true 0)).set ob (.arr 1 (prsF ob (R.set j (r ++ [p]))) true (max mx (ob + 1 + j + 1)))) := by
    have hc : cellsOf (prOf ob j r) = [prOf ob j r] := rfl
    have hc2 : cellsOf (prOf ob j (r ++ [p])) = [prOf ob j (r ++ [p])] := rfl
    have hcv : [prOf ob j (r ++ [p])].all cellV = true := rfl
    have hz := z22sp
    simp only [storeV, hn4, hg, hc, hc2, hcv, hz, prsF_len, h.len, List.length_singleton]
    rw [if_pos ⟨trivial, trivial⟩, if_pos ⟨by omega, trivial, by omega⟩, ← prsF_set]
    rfl
  have hM4 : Mem adj T (H.set (ob + 1 + j) (.arr 2 ((r ++ [p]).map encP) true 0)) := hM.set (by omega) (same_prsB _) (Nat.zero_le _)
  refine ⟨_, _, by rw [e1]; rw [e2] at hap; exact hap, hst, ?_, hM4, hM4.set h2 (same_prsF _ _ _ _) (by rw [List.length_set]; show max mx (ob + 1 + j + 1) ≤ _; omega), by simp, fun k hk => by rw [List.getElem?_set_ne (fun e => hk e.symm)], fun k hk => by rw [List.getElem?_set_ne (by omega), List.getElem?_set_ne (by omega)]⟩
  refine ⟨⟨max mx (ob + 1 + j + 1), by omega, ?_⟩, fun i s hi => ?_, by simp [h.len]⟩
  · rw [List.getElem?_set_self (by simpa using hol)]
  · rw [List.getElem?_set_ne (by omega)]
    rw [List.getElem?_set] at hi
    by_cases e : j = i
    · subst e
      rw [if_pos rfl, if_pos (lt_of_get hj)] at hi
      cases hi
      rw [List.getElem?_set_self hlt]
    · rw [if_neg e] at hi
      rw [List.getElem?_set_ne (by omega)]
      exact h.rows i s hi
theorem info22n : (Try.prog.info? 22).map (fun i => (i.size, i.bytes, nilZero i)) = some (1, 24, true) := by kernel_rfl
theorem prs_init (ob n : Nat) : (List.range n).map (fun j => HV.sl (ob + 1 + j) 0 0 none 0 2) = prsF ob (List.replicate n []) := by
  apply List.ext_getElem?
  intro i
  rw [prsF_get, List.getElem?_map, List.getElem?_replicate]
  by_cases h : i < n
  · rw [List.getElem?_range h, if_pos h]; rfl
  · rw [List.getElem?_eq_none (by simp; omega), if_neg h]; rfl
theorem makeRounds {n : Nat} (hn : n ≤ 1000) (H : Heap) : makeV Try.prog true 44 (.int .i64 (n : Int)) (.int .i64 (n : Int)) H = some (.sl H.length 0 n (some n) n 1, H ++ [.arr 1 (prsF H.length (List.replicate n [])) true (H.length + 1 + n)] ++ List.replicate n (.arr 2 [] true 0)) := by
  have hu : Try.prog.underlying 44 = some (.slice 22) := by kernel_rfl
  have hi := info22n
  cases hi2 : Try.prog.info? 22 with
  | none => rw [hi2] at hi; cases hi
  | some i =>
    rw [hi2] at hi
    simp only [Option.map_some, Option.some.injEq, Prod.mk.injEq] at hi
    obtain ⟨h1, h2, h3⟩ := hi
    have hz : tySize Try.prog 33 = some 2 := s33c
    have hu2 : Try.prog.underlying 22 = some (.slice 33) := by kernel_rfl
    simp only [makeV, hu, hi2, hu2, hz, h1, h2, h3, Int.toNat_natCast, prs_init]
    rw [if_pos ⟨by omega, by omega, by rw [show roomMax = 70368744177664 from rfl]; omega⟩, if_pos ⟨trivial, trivial⟩]
theorem SO.init (n : Nat) (H : Heap) : SO H.length n (List.replicate n []) (H ++ [.arr 1 (prsF H.length (List.replicate n [])) true (H.length + 1 + n)] ++ List.replicate n (.arr 2 [] true 0)) := by
  refine ⟨⟨H.length + 1 + n, Nat.le_refl _, ?_⟩, fun j r hj => ?_, by simp⟩
  · rw [List.getElem?_append_left (by simp), List.getElem?_append_right (Nat.le_refl _)]; simp
  · rw [List.getElem?_replicate] at hj
    split at hj
    · rename_i hjn
      cases hj
      rw [List.getElem?_append_right (by simp), List.getElem?_replicate, if_pos (by simp; omega)]
      rfl
    · cases hj
end Go.Proofs.Ytmhfkhlamnapdaa
end
section
open Go Go.HL
namespace Go.Proofs.Ytmhfkhlamnapdaa
set_option maxRecDepth 100000
noncomputable def B54 : Code := Try.f54.body.getD .skip
abbrev env54 (v0 v1 v2 v3 v4 v5 v10 v14 v15 v16 : HV) : Env := [(0, v0), (1, v1), (2, v2), (3, v3), (4, v4), (5, v5), (10, v10), (14, v14), (15, v15), (16, v16)]
theorem sq_a_0 (N : Nat) (v w : Int) (tb bb sb m : Nat) (H : Heap) (r : Nat) (cb : Nat) (k : Nat) (H0 : Heap) (g0 : loadV Try.prog H 72 (.ptr tb 0 0 1) = some (.agg [.sl 0 0 m none m 1, .map 1])) (g1 : ∀ kf, N ≤ kf → callN Try.prog polS (kf + 1) 55 [.agg [.sl 0 0 m none m 1, .map 1], .i v, .i w] H = some (.sl cb 0 k none k 1, H0)) : RunsTo Try.prog polS 54 (sub [0] B54) [(0, .i v), (1, .i w), (2, .i (r : Int)), (3, .ptr tb 0 0 1), (4, .ptr bb 0 0 1), (5, .ptr sb 0 0 1)] H .normal (polS.keys 54) (env54 (.i v) (.i w) (.i (r : Int)) (.ptr tb 0 0 1) (.ptr bb 0 0 1) (.ptr sb 0 0 1) .undef (.sl cb 0 k none k 1) (.i (k : Int)) (.i 0)) H0 :=
  RunsTo.hin N 60 [⟨0, 0, .agg [.sl 0 0 m none m 1, .map 1], H⟩, ⟨0, 3, .sl cb 0 k none k 1, H0⟩] fun kf hk => ⟨_, by kernel_rfl, (oP H g0 (oC (g1 kf (by omega)) .nil))⟩
theorem sq_l_0 (N : Nat) (v w : Int) (tb bb sb m : Nat) (H : Heap) (r : Nat) (cb k i ob t : Nat) (rv : HV) (x0 : Int) (H0 : Heap) (v0 : HV) (H1 : Heap) (H2 : Heap) (g0 : (i : Int) < (k : Int)) (g1 : idxV Try.prog 24 (.sl cb 0 k none k 1) (.i (i : Int)) = some (.ptr cb i 0 k)) (g2 : loadV Try.prog H 3 (.ptr cb i 0 k) = some (.i x0)) (g3 : loadV Try.prog H 44 (.ptr bb 0 0 1) = some (.sl ob 0 t (some t) t 1)) (g4 : loadV Try.prog H 44 (.ptr bb 0 0 1) = some (.sl ob 0 t (some t) t 1)) (g5 : idxV Try.prog 44 (.sl ob 0 t (some t) t 1) (.i (r : Int)) = some (.ptr ob r 0 t)) (g6 : loadV Try.prog H 22 (.ptr ob r 0 t) = some (rv)) (g7 : appV H 2 16 (rv) [.agg [.i v, .i x0]] = some (v0, H0)) (g8 : idxV Try.prog 44 (.sl ob 0 t (some t) t 1) (.i (r : Int)) = some (.ptr ob r 0 t)) (g9 : storeV Try.prog H0 22 (.ptr ob r 0 t) (v0) = some H1) (gS3 : (recL ((loadV Try.prog H 44 (.ptr bb 0 0 1)).map (fun v => (v, (H : Heap)))) ((loadV Try.prog H 44 (.ptr bb 0 0 1)).map (fun v => (v, (H : Heap)))) H H && (recL ((loadV Try.prog H 44 (.ptr bb 0 0 1)).map (fun v => (v, (H : Heap)))) ((loadV Try.prog H0 44 (.ptr bb 0 0 1)).map (fun v => (v, (H0 : Heap)))) H H0 && (recL ((loadV Try.prog H 44 (.ptr bb 0 0 1)).map (fun v => (v, (H : Heap)))) ((loadV Try.prog H 44 (.ptr bb 0 0 1)).map (fun v => (v, (H : Heap)))) H H && (recL ((loadV Try.prog H 22 (.ptr ob r 0 t)).map (fun v => (v, (H : Heap)))) ((loadV Try.prog H 22 (.ptr ob r 0 t)).map (fun v => (v, (H : Heap)))) H H && true)))) = true) (g11 : loadV Try.prog H1 82 (.ptr sb 0 0 1) = some (.func 54 [] [.ptr tb 0 0 1, .ptr bb 0 0 1, .ptr sb 0 0 1])) (g12 : ∀ kf, N ≤ kf → callN Try.prog polS (kf + 1) 54 [.i x0, .i v, .i (IntKind.i64.wrap ((r : Int) + 1)), .ptr tb 0 0 1, .ptr bb 0 0 1, .ptr sb 0 0 1] H1 = some (.tuple [], H2)) : RunsTo Try.prog polS 54 (sub [1, 0, 0] B54) (env54 (.i v) (.i w) (.i (r : Int)) (.ptr tb 0 0 1) (.ptr bb 0 0 1) (.ptr sb 0 0 1) .undef (.sl cb 0 k none k 1) (.i (k : Int)) (.i (i : Int))) H .normal (polS.keys 54) (env54 (.i v) (.i w) (.i (IntKind.i64.wrap ((r : Int) + 1))) (.ptr tb 0 0 1) (.ptr bb 0 0 1) (.ptr sb 0 0 1) (.i x0) (.sl cb 0 k none k 1) (.i (k : Int)) (.i (IntKind.i64.wrap ((i : Int) + 1)))) H2 :=
  RunsTo.hin N 60 [⟨1, 0, .bool true, H⟩, ⟨2, 0, .ptr cb i 0 k, H⟩, ⟨2, 1, .i x0, H⟩, ⟨3, 0, .sl ob 0 t (some t) t 1, H⟩, ⟨3, 2, .sl ob 0 t (some t) t 1, H⟩, ⟨3, 4, .ptr ob r 0 t, H⟩, ⟨3, 5, rv, H⟩, ⟨3, 10, v0, H0⟩, ⟨3, 11, .ptr ob r 0 t, H0⟩, ⟨3, 12, .tuple [], H1⟩, ⟨5, 0, .func 54 [] [.ptr tb 0 0 1, .ptr bb 0 0 1, .ptr sb 0 0 1], H1⟩, ⟨5, 4, .tuple [], H2⟩] fun kf hk => ⟨_, by kernel_rfl, (oB H (decide_eq_true g0) (oP H g1 (oP H g2 (oC (gS3) (oP H g3 (oP H g4 (oP H g5 (oP H g6 (oC (g7) (oP H0 g8 (oS g9 (oP H1 g11 (oC (g12 kf (by omega)) .nil)))))))))))))⟩
theorem sq_l_1 (N : Nat) (v w : Int) (tb bb sb m : Nat) (H : Heap) (r : Nat) (cb k i ob t : Nat) (rv : HV)(g0 : ¬ ((i : Int) < (k : Int))) : RunsTo Try.prog polS 54 (sub [1, 0, 0] B54) (env54 (.i v) (.i w) (.i (r : Int)) (.ptr tb 0 0 1) (.ptr bb 0 0 1) (.ptr sb 0 0 1) .undef (.sl cb 0 k none k 1) (.i (k : Int)) (.i (i : Int))) H (.exit 0) (polS.keys 54) (env54 (.i v) (.i w) (.i (r : Int)) (.ptr tb 0 0 1) (.ptr bb 0 0 1) (.ptr sb 0 0 1) .undef (.sl cb 0 k none k 1) (.i (k : Int)) (.i (i : Int))) H :=
  RunsTo.hin N 60 [⟨1, 0, .bool false, H⟩] fun kf hk => ⟨_, by kernel_rfl, (oB H (decide_eq_false g0) .nil)⟩
end Go.Proofs.Ytmhfkhlamnapdaa
end
section
open Go Go.HL
namespace Go.Proofs.Ytmhfkhlamnapdaa
def ds (row : Int → List Int) : Nat → Int → Int → List Int
  | 0, v, _ => [v]
  | k + 1, v, w => v :: (keep w (row v)).flatMap fun u => ds row k u v
inductive Anc (l : List (Int × Int)) (ρ : Int → Nat) (z : Int) : Int → Prop
  | refl : Anc l ρ z z
  | step {u v : Int} : Anc l ρ z u → v ∈ rowE l u → ρ v < ρ u → Anc l ρ z v
def Dn (l : List (Int × Int)) (ρ : Int → Nat) (v w : Int) : Prop := ∀ u, u ∈ keep w (rowE l v) → ρ v < ρ u
section
variable {l : List (Int × Int)} {ρ : Int → Nat} {M : Nat}
theorem Anc.le {z v : Int} (h : Anc l ρ z v) : ρ v ≤ ρ z := by
  induction h with
  | refl => exact Nat.le_refl _
  | step _ _ h2 ih => omega
end
section
variable {l : List (Int × Int)} {ρ : Int → Nat} {M : Nat}
theorem Anc.first {z b : Int} (h : Anc l ρ z b) : z = b ∨ ∃ p, p ∈ rowE l z ∧ ρ p < ρ z ∧ Anc l ρ p b := by
  induction h with
  | refl => exact .inl rfl
  | step h1 h2 h3 ih =>
    rcases ih with rfl | ⟨p, h4, h5, h6⟩
    · exact .inr ⟨_, h2, h3, .refl⟩
    · exact .inr ⟨p, h4, h5, .step h6 h2 h3⟩
end
section
variable {l : List (Int × Int)} {ρ : Int → Nat} {M : Nat}
theorem Anc.chain (hO : Ori l ρ M) {z a b : Int} (h : Anc l ρ z a) (h' : Anc l ρ z b) : Anc l ρ a b ∨ Anc l ρ b a := by
  induction h with
  | refl => exact .inl h'
  | step h1 h2 h3 ih =>
    rcases ih with h4 | h4
    · rcases h4.first with rfl | ⟨p, h5, h6, h7⟩
      · exact .inr (.step .refl h2 h3)
      · rw [hO.low h5 h2 h6 h3] at h7
        exact .inl h7
    · exact .inr (.step h4 h2 h3)
end
section
variable {l : List (Int × Int)} {ρ : Int → Nat} {M : Nat}
theorem Anc.child (hO : Ori l ρ M) {z v a b : Int} (ha : Anc l ρ z a) (hb : Anc l ρ z b) (h1 : v ∈ rowE l a) (h2 : ρ v < ρ a) (h3 : v ∈ rowE l b) (h4 : ρ v < ρ b) : a = b := by
  have key : ∀ a b : Int, Anc l ρ a b → v ∈ rowE l a → ρ v < ρ a → ρ v < ρ b → a = b := by
    intro a b h h1 h2 h4
    rcases h.first with e | ⟨p, h5, h6, h7⟩
    · exact e
    · rw [hO.low h5 h1 h6 h2] at h7
      have := h7.le
      omega
  rcases ha.chain hO hb with h | h
  · exact key a b h h1 h2 h4
  · exact (key b a h h3 h4 h2).symm
end
section
variable {l : List (Int × Int)} {ρ : Int → Nat} {M : Nat}
theorem Dn.next (hO : Ori l ρ M) {v w u : Int} (h : Dn l ρ v w) (hu : u ∈ keep w (rowE l v)) : Dn l ρ u v := by
  intro z hz
  obtain ⟨h1, h2⟩ := keep_mem.1 hz
  have h3 := h u hu
  have hne := hO.neq h1
  rcases Nat.lt_or_ge (ρ u) (ρ z) with h4 | h4
  · exact h4
  · exact absurd (hO.low h1 (rowE_sym (keep_mem.1 hu).1) (by omega) h3) h2
end
section
variable {l : List (Int × Int)} {ρ : Int → Nat} {M : Nat}
theorem ds_anc (hO : Ori l ρ M) : ∀ (k : Nat) (v w z : Int), Dn l ρ v w → z ∈ ds (rowE l) k v w → Anc l ρ z v
  | 0, v, w, z, _, hz => by
    rw [ds, List.mem_singleton] at hz
    rw [hz]; exact .refl
  | k + 1, v, w, z, h, hz => by
    rw [ds] at hz
    rcases List.mem_cons.1 hz with rfl | hz
    · exact .refl
    · obtain ⟨u, hu, hz⟩ := List.mem_flatMap.1 hz
      exact .step (ds_anc hO k u v z (h.next hO hu) hz) (rowE_sym (keep_mem.1 hu).1) (h u hu)
end
section
variable {l : List (Int × Int)} {ρ : Int → Nat} {M : Nat}
theorem ds_nodup (hO : Ori l ρ M) : ∀ (k : Nat) (v w : Int), Dn l ρ v w → (ds (rowE l) k v w).Nodup
  | 0, v, w, _ => by simp [ds]
  | k + 1, v, w, h => by
    rw [ds, List.nodup_cons]
    refine ⟨fun hm => ?_, ?_⟩
    · obtain ⟨u, hu, hz⟩ := List.mem_flatMap.1 hm
      have h1 := (ds_anc hO k u v v (h.next hO hu) hz).le
      have h2 := h u hu
      omega
    · have hnd : (keep w (rowE l v)).Nodup := List.Pairwise.filter _ (hO.nodup v)
      have hsub : ∀ u, u ∈ keep w (rowE l v) → u ∈ keep w (rowE l v) := fun u hu => hu
      generalize hK : keep w (rowE l v) = K at hnd
      have hK2 : ∀ u, u ∈ K → u ∈ keep w (rowE l v) := fun u hu => by rw [hK]; exact hu
      clear hK hsub
      induction K with
      | nil => simp
      | cons a K ih =>
        rw [List.flatMap_cons]
        rw [List.nodup_cons] at hnd
        have ha := hK2 a (by simp)
        refine List.nodup_append.2 ⟨ds_nodup hO k a v (h.next hO ha), ih hnd.2 (fun u hu => hK2 u (by simp [hu])), fun x hx y hy e => ?_⟩
        subst e
        obtain ⟨b, hb, hy⟩ := List.mem_flatMap.1 hy
        have hb' := hK2 b (by simp [hb])
        have : a = b := Anc.child hO (ds_anc hO k a v x (h.next hO ha) hx) (ds_anc hO k b v x (h.next hO hb') hy) (rowE_sym (keep_mem.1 ha).1) (h a ha) (rowE_sym (keep_mem.1 hb').1) (h b hb')
        exact hnd.1 (this ▸ hb)
end
section
variable {l : List (Int × Int)} {ρ : Int → Nat} {M : Nat}
theorem ds_range {n : Nat} (hv : ∀ p ∈ l, validB (n : Int) p = true) : ∀ (k : Nat) (v w z : Int), (0 ≤ v ∧ v < (n : Int)) → z ∈ ds (rowE l) k v w → 0 ≤ z ∧ z < (n : Int)
  | 0, v, w, z, h, hz => by
    rw [ds, List.mem_singleton] at hz
    rw [hz]; exact h
  | k + 1, v, w, z, h, hz => by
    rw [ds] at hz
    rcases List.mem_cons.1 hz with rfl | hz
    · exact h
    · obtain ⟨u, hu, hz⟩ := List.mem_flatMap.1 hz
      exact ds_range hv k u v z (valid_row hv (keep_mem.1 hu).1) hz
end
theorem ints_len {n : Nat} {L : List Int} (hd : L.Nodup) (hr : ∀ z, z ∈ L → 0 ≤ z ∧ z < (n : Int)) : L.length ≤ n := by
  have := nodup_lt_len (n := n) (l := L.map Int.toNat) ?_ ?_
  · simpa using this
  · unfold List.Nodup
    rw [List.pairwise_map]
    refine List.Pairwise.imp_of_mem (fun {a b} ha hb hab => ?_) hd
    have := hr a ha; have := hr b hb
    omega
  · intro y hy
    obtain ⟨z, hz, rfl⟩ := List.mem_map.1 hy
    have := hr z hz
    omega
def sm : List Int → Int
  | [] => 0
  | t :: l => 1 + t + sm l
theorem sm_ins (t : Int) : ∀ l : List Int, sm (dsIns t l) = 1 + t + sm l
  | [] => rfl
  | a :: l => by
    rw [dsIns]
    split
    · rw [sm, sm_ins t l, sm]; omega
    · rfl
theorem sm_acc : ∀ (l acc : List Int), sm (dsAcc acc l) = sm acc + sm l
  | [], acc => by simp [dsAcc, sm]
  | t :: l, acc => by rw [dsAcc, sm_acc l, sm_ins, sm]; omega
theorem sm_nonneg : ∀ (l : List Int), (∀ t, t ∈ l → 0 ≤ t) → 0 ≤ sm l
  | [], _ => Int.le_refl _
  | t :: l, h => by
    have := h t (by simp)
    have := sm_nonneg l (fun t ht => h t (by simp [ht]))
    rw [sm]; omega
theorem bestGo_sm : ∀ (l : List Int) (i : Nat) (mo : Int), (∀ t, t ∈ l → 0 ≤ t) → bestGo i mo l ≤ max mo ((i : Int) + sm l)
  | [], i, mo, _ => by rw [bestGo, sm]; omega
  | t :: l, i, mo, h => by
    have ht := h t (by simp)
    have h1 := sm_nonneg l (fun t ht => h t (by simp [ht]))
    have := bestGo_sm l (i + 1) (max mo ((i : Int) + 1 + t)) (fun t ht => h t (by simp [ht]))
    rw [bestGo, sm]
    omega
theorem tmF_nonneg (row : Int → List Int) : ∀ (k : Nat) (v w : Int), 0 ≤ tmF row k v w
  | 0, _, _ => Int.le_refl _
  | k + 1, v, w => by
    rw [tmF]
    have : ∀ (l : List Int) (i : Nat) (mo : Int), mo ≤ bestGo i mo l := by
      intro l
      induction l with
      | nil => intro i mo; exact Int.le_refl _
      | cons t l ih => intro i mo; rw [bestGo]; have := ih (i + 1) (max mo ((i : Int) + 1 + t)); omega
    exact this _ 0 0
theorem tmF_ds (row : Int → List Int) : ∀ (k : Nat) (v w : Int), tmF row k v w + 1 ≤ ((ds row k v w).length : Int)
  | 0, v, w => by simp [tmF, ds]
  | k + 1, v, w => by
    rw [tmF, ds]
    have h1 := bestGo_sm (dsort ((keep w (row v)).map fun u => tmF row k u v)) 0 0 (fun t ht => by
      rw [(dsort_perm _).mem_iff, List.mem_map] at ht
      obtain ⟨u, _, rfl⟩ := ht
      exact tmF_nonneg row k u v)
    have h2 : sm (dsort ((keep w (row v)).map fun u => tmF row k u v)) = sm ((keep w (row v)).map fun u => tmF row k u v) := by
      rw [dsort, sm_acc]; simp [sm]
    have h3 : ∀ K : List Int, sm (K.map fun u => tmF row k u v) ≤ ((K.flatMap fun u => ds row k u v).length : Int) := by
      intro K
      induction K with
      | nil => simp [sm]
      | cons a K ih =>
        have := tmF_ds row k a v
        rw [List.map_cons, sm, List.flatMap_cons, List.length_append]
        omega
    have h4 := h3 (keep w (row v))
    rw [List.length_cons]
    omega
theorem tree_small {n : Nat} {l : List (Int × Int)} (h : treeOk (n : Int) l = true) {x : Nat} (hx : x < n) : tm (rowE l) x (-1) + 1 ≤ n := by
  obtain ⟨⟨hn, hl⟩, hv, hr⟩ := tree_rtd h
  have hR := hr x hx
  obtain ⟨hO, _⟩ := hR.ori hx hv hl
  have hD : Dn l (fun v => ((bfs (fun y => (adjOf n l).getD y []) n x).getD v.toNat 0).toNat) (x : Int) (-1) := by
    intro u hu
    have hne := hO.neq (keep_mem.1 hu).1
    have h0 := hR.root
    dsimp only at hne h0 ⊢
    omega
  have h1 := tmF_ds (rowE l) 200 x (-1)
  have h2 := ints_len (ds_nodup hO 200 x (-1) hD) (fun z hz => ds_range hv 200 x (-1) z ⟨by omega, by omega⟩ hz)
  unfold tm
  omega
end Go.Proofs.Ytmhfkhlamnapdaa
end
section
open Go Go.HL
namespace Go.Proofs.Ytmhfkhlamnapdaa
def Le2 : List Int → List Int → Prop
  | [], [] => True
  | a :: l, b :: m => a ≤ b ∧ Le2 l m
  | _, _ => False
theorem Le2.refl : ∀ l : List Int, Le2 l l
  | [] => trivial
  | _ :: l => ⟨Int.le_refl _, Le2.refl l⟩
theorem dsIns_top {a : Int} : ∀ {m : List Int}, (∀ b, b ∈ m → b ≤ a) → dsIns a m = a :: m
  | [], _ => rfl
  | b :: m, h => by
    rw [dsIns]
    split
    · rename_i hab
      have hb := h b (by simp)
      have e : a = b := by omega
      subst e
      rw [dsIns_top (fun c hc => h c (by simp [hc]))]
    · rfl
theorem dsIns_le : ∀ {l m : List Int} {t u : Int}, Fl l → Fl m → t ≤ u → Le2 l m → Le2 (dsIns t l) (dsIns u m)
  | [], [], t, u, _, _, h, _ => ⟨h, trivial⟩
  | [], _ :: _, _, _, _, _, _, h => h.elim
  | _ :: _, [], _, _, _, _, _, h => h.elim
  | a :: l, b :: m, t, u, hl, hm, htu, h => by
    obtain ⟨hab, hlm⟩ := h
    obtain ⟨hl1, hl2⟩ := List.pairwise_cons.1 hl
    obtain ⟨hm1, hm2⟩ := List.pairwise_cons.1 hm
    rw [dsIns, dsIns]
    by_cases c1 : t ≤ a
    · by_cases c2 : u ≤ b
      · rw [if_pos c1, if_pos c2]
        exact ⟨hab, dsIns_le hl2 hm2 htu hlm⟩
      · rw [if_pos c1, if_neg c2]
        refine ⟨by omega, ?_⟩
        have := dsIns_le (t := t) (u := b) hl2 hm2 (by omega) hlm
        rwa [dsIns_top hm1] at this
    · by_cases c2 : u ≤ b
      · rw [if_neg c1, if_pos c2]
        refine ⟨by omega, ?_⟩
        have := dsIns_le (t := a) (u := u) hl2 hm2 (by omega) hlm
        rwa [dsIns_top hl1] at this
      · rw [if_neg c1, if_neg c2]
        exact ⟨htu, hab, hlm⟩
theorem dsAcc_le : ∀ {l m acc bcc : List Int}, Fl acc → Fl bcc → Le2 acc bcc → Le2 l m → Le2 (dsAcc acc l) (dsAcc bcc m)
  | [], [], _, _, _, _, h, _ => h
  | [], _ :: _, _, _, _, _, _, h => h.elim
  | _ :: _, [], _, _, _, _, _, h => h.elim
  | a :: l, b :: m, acc, bcc, h1, h2, h, ⟨hab, hlm⟩ => by
    rw [dsAcc, dsAcc]
    exact dsAcc_le (dsIns_fl a h1) (dsIns_fl b h2) (dsIns_le h1 h2 hab h) hlm
theorem dsort_le {l m : List Int} (h : Le2 l m) : Le2 (dsort l) (dsort m) := dsAcc_le List.Pairwise.nil List.Pairwise.nil trivial h
theorem bestGo_le : ∀ {l m : List Int} {i : Nat} {p q : Int}, p ≤ q → Le2 l m → bestGo i p l ≤ bestGo i q m
  | [], [], _, _, _, h, _ => h
  | [], _ :: _, _, _, _, _, h => h.elim
  | _ :: _, [], _, _, _, _, h => h.elim
  | a :: l, b :: m, i, p, q, hpq, ⟨hab, hlm⟩ => by
    rw [bestGo, bestGo]
    exact bestGo_le (by omega) hlm
def best (l : List Int) : Int := bestGo 0 0 (dsort l)
theorem best_le {l m : List Int} (h : Le2 l m) : best l ≤ best m := bestGo_le (Int.le_refl _) (dsort_le h)
theorem bestGo_up : ∀ (l : List Int) (i : Nat) (p q : Int), p ≤ q + 1 → bestGo i p (l.map fun t => t + 1) ≤ bestGo i q l + 1
  | [], _, _, _, h => h
  | t :: l, i, p, q, h => by
    rw [List.map_cons, bestGo, bestGo]
    exact bestGo_up l (i + 1) _ _ (by omega)
theorem best_up (l : List Int) : best (l.map fun t => t + 1) ≤ best l + 1 := by
  have h1 : Fl ((dsort l).map fun t => t + 1) := by
    unfold Fl
    rw [List.pairwise_map]
    exact (dsort_fl l).imp fun {a b} h => by omega
  have h2 := fl_dsort h1 ((dsort_perm l).map fun t => t + 1)
  unfold best
  rw [← h2]
  exact bestGo_up _ 0 0 0 (by omega)
theorem bestGo_snoc : ∀ (l : List Int) (i : Nat) (p t : Int), bestGo i p (l ++ [t]) = max (bestGo i p l) ((i : Int) + l.length + 1 + t)
  | [], i, p, t => by simp [bestGo]
  | a :: l, i, p, t => by
    rw [List.cons_append, bestGo, bestGo_snoc l, bestGo, List.length_cons]
    congr 1
    omega
theorem best_zero {l : List Int} (h : ∀ t, t ∈ l → 0 ≤ t) : best (l ++ [0]) = max (best l) ((l.length : Int) + 1) := by
  have h1 : Fl (dsort l ++ [0]) := by
    unfold Fl
    rw [List.pairwise_append]
    refine ⟨dsort_fl l, by simp, fun a ha b hb => ?_⟩
    rw [List.mem_singleton.1 hb]
    exact h a ((dsort_perm l).mem_iff.1 ha)
  have h2 := fl_dsort h1 ((dsort_perm l).append_right [0])
  unfold best
  rw [← h2, bestGo_snoc, (dsort_perm l).length_eq]
  congr 1
  omega
theorem bestGo_len : ∀ (l : List Int) (i : Nat) (p : Int), (∀ t, t ∈ l → 0 ≤ t) → l ≠ [] → (i : Int) + l.length ≤ bestGo i p l
  | [], _, _, _, h => absurd rfl h
  | [t], i, p, h, _ => by
    have := h t (by simp)
    simp only [bestGo, List.length_singleton]
    omega
  | t :: a :: l, i, p, h, _ => by
    have := bestGo_len (a :: l) (i + 1) (max p ((i : Int) + 1 + t)) (fun x hx => h x (by simp at hx ⊢; exact .inr hx)) (by simp)
    rw [bestGo]
    simp only [List.length_cons] at this ⊢
    omega
theorem best_len {l : List Int} (h : ∀ t, t ∈ l → 0 ≤ t) : (l.length : Int) ≤ best l := by
  cases l with
  | nil => simp [best, dsort, dsAcc, bestGo]
  | cons a l =>
    have := bestGo_len (dsort (a :: l)) 0 0 (fun t ht => h t ((dsort_perm _).mem_iff.1 ht)) (fun e => by
      have := (dsort_perm (a :: l)).length_eq
      rw [e] at this; simp at this)
    rw [(dsort_perm _).length_eq] at this
    unfold best
    simpa using this
theorem le2_map {α : Type} {f g : α → Int} : ∀ {l : List α}, (∀ u, u ∈ l → f u ≤ g u) → Le2 (l.map f) (l.map g)
  | [], _ => trivial
  | a :: l, h => ⟨h a (by simp), le2_map fun u hu => h u (by simp [hu])⟩
theorem rowE_snoc (l : List (Int × Int)) (p : Int × Int) (x : Int) : rowE (l ++ [p]) x = rowE l x ++ (match oth x p with | some y => [y] | none => []) := by
  unfold rowE
  rw [List.filterMap_append, List.filterMap_cons]
  cases oth x p <;> rfl
theorem grow {n : Nat} {l : List (Int × Int)} {at_ : Int} (hv : ∀ p ∈ l, validB (n : Int) p = true) (ha : 0 ≤ at_ ∧ at_ < (n : Int)) : ∀ (k : Nat) (v w : Int), (0 ≤ v ∧ v < (n : Int)) → w ≠ (n : Int) →
    tmF (rowE l) k v w ≤ tmF (rowE (l ++ [(at_, (n : Int))])) k v w ∧ tmF (rowE (l ++ [(at_, (n : Int))])) k v w ≤ tmF (rowE l) k v w + 1
  | 0, v, w, _, _ => by simp [tmF]
  | k + 1, v, w, hvn, hw => by
    have hin : ∀ u, u ∈ keep w (rowE l v) → (0 ≤ u ∧ u < (n : Int)) := fun u hu => valid_row hv (keep_mem.1 hu).1
    have ih : ∀ u, u ∈ keep w (rowE l v) → tmF (rowE l) k u v ≤ tmF (rowE (l ++ [(at_, (n : Int))])) k u v ∧ tmF (rowE (l ++ [(at_, (n : Int))])) k u v ≤ tmF (rowE l) k u v + 1 := fun u hu => grow hv ha k u v (hin u hu) (by omega)
    have e1 : tmF (rowE l) (k + 1) v w = best ((keep w (rowE l v)).map fun u => tmF (rowE l) k u v) := rfl
    have e2 : tmF (rowE (l ++ [(at_, (n : Int))])) (k + 1) v w = best ((keep w (rowE (l ++ [(at_, (n : Int))]) v)).map fun u => tmF (rowE (l ++ [(at_, (n : Int))])) k u v) := rfl
    have h1 := best_le (le2_map (f := fun u => tmF (rowE l) k u v) (g := fun u => tmF (rowE (l ++ [(at_, (n : Int))])) k u v) fun u hu => (ih u hu).1)
    have h2 := best_le (le2_map (f := fun u => tmF (rowE (l ++ [(at_, (n : Int))])) k u v) (g := fun u => tmF (rowE l) k u v + 1) fun u hu => (ih u hu).2)
    have h3 := best_up ((keep w (rowE l v)).map fun u => tmF (rowE l) k u v)
    rw [List.map_map] at h3
    have h4 : best ((keep w (rowE l v)).map fun u => tmF (rowE l) k u v + 1) ≤ best ((keep w (rowE l v)).map fun u => tmF (rowE l) k u v) + 1 := h3
    rw [e1, e2, rowE_snoc]
    by_cases c : at_ = v
    · subst c
      have ho : oth at_ (at_, (n : Int)) = some (n : Int) := by unfold oth; rw [if_pos rfl]
      rw [ho]
      have hk : keep w (rowE l at_ ++ [(n : Int)]) = keep w (rowE l at_) ++ [(n : Int)] := by
        unfold keep
        rw [List.filter_append]
        congr 1
        simp only [List.filter_cons, List.filter_nil]
        rw [if_pos (by simp; omega)]
      have hz : tmF (rowE (l ++ [(at_, (n : Int))])) k n at_ = 0 := by
        cases k with
        | zero => rfl
        | succ k =>
          have hr : keep at_ (rowE (l ++ [(at_, (n : Int))]) n) = [] := by
            rw [keep, List.filter_eq_nil_iff]
            intro u hu
            obtain ⟨p, hp, hE⟩ := rowE_mem.1 hu
            rcases List.mem_append.1 hp with hp | hp
            · have h1 := hv p hp
              rw [validB, decide_eq_true_eq] at h1
              rcases hE with hE | hE <;> omega
            · rw [List.mem_singleton.1 hp] at hE
              rcases hE with hE | hE
              · have := hE.1; dsimp only at this; omega
              · have := hE.2; dsimp only at this
                simp [this]
          rw [tmF, hr]
          rfl
      dsimp only
      rw [hk, List.map_append, List.map_singleton, hz, best_zero (fun t ht => by
        obtain ⟨u, _, rfl⟩ := List.mem_map.1 ht
        exact tmF_nonneg _ k u at_), List.length_map]
      have h5 := best_len (l := (keep w (rowE l at_)).map fun u => tmF (rowE l) k u at_) (fun t ht => by
        obtain ⟨u, _, rfl⟩ := List.mem_map.1 ht
        exact tmF_nonneg _ k u at_)
      rw [List.length_map] at h5
      omega
    · have ho : oth v (at_, (n : Int)) = none := by
        unfold oth
        rw [if_neg c, if_neg (by dsimp only; omega)]
      rw [ho]
      dsimp only
      rw [List.append_nil]
      omega
end Go.Proofs.Ytmhfkhlamnapdaa
end
section
open Go Go.HL
namespace Go.Proofs.Ytmhfkhlamnapdaa
def tl (y : Nat → Int) (n : Nat) : List (Int × Int) := (List.range' 1 (n - 1)).map fun j => (y j, (j : Int))
def Mk (y : Nat → Int) (n : Nat) : Prop := ∀ j : Nat, 1 ≤ j → j < n → 0 ≤ y j ∧ y j < (j : Int)
theorem tl_len (y : Nat → Int) (n : Nat) : (tl y n).length = n - 1 := by simp [tl]
theorem tl_mem {y : Nat → Int} {n : Nat} {p : Int × Int} : p ∈ tl y n ↔ ∃ j : Nat, 1 ≤ j ∧ j < n ∧ p = (y j, (j : Int)) := by
  unfold tl
  rw [List.mem_map]
  constructor
  · rintro ⟨j, hj, rfl⟩
    rw [List.mem_range'_1] at hj
    exact ⟨j, by omega, by omega, rfl⟩
  · rintro ⟨j, h1, h2, rfl⟩
    exact ⟨j, by rw [List.mem_range'_1]; omega, rfl⟩
theorem tl_valid {y : Nat → Int} {n : Nat} (h : Mk y n) : ∀ p ∈ tl y n, validB (n : Int) p = true := by
  intro p hp
  obtain ⟨j, h1, h2, rfl⟩ := tl_mem.1 hp
  have := h j h1 h2
  rw [validB, decide_eq_true_eq]
  dsimp only
  omega
theorem tame_tl (l : List Int) (m : Nat) : tameL l m = tl (tameAt l) m := by
  have h : ∀ (d j : Nat) (acc : List (Int × Int)), tameGo l j d acc = acc ++ (List.range' j d).map fun i => (tameAt l i, (i : Int)) := by
    intro d
    induction d with
    | zero => intro j acc; simp [tameGo]
    | succ d ih =>
      intro j acc
      rw [tameGo, ih, List.range'_succ, List.map_cons, List.append_assoc, List.singleton_append]
  rw [tameL, h, List.nil_append, tl]
theorem tl_tree {y : Nat → Int} {n : Nat} (h : Mk y n) (hn : 1 ≤ n ∧ n ≤ 30) : treeOk (n : Int) (tl y n) = true := by
  have hv := tl_valid h
  have hA := adjOf_inv hv
  rw [treeOk, Bool.and_eq_true, decide_eq_true_eq]
  refine ⟨⟨⟨by omega, by rw [tl_len]; omega⟩, List.all_eq_true.2 hv⟩, ?_⟩
  rw [farOk, decide_eq_true_eq, Int.toNat_natCast, farF, hA.len]
  have hE : ∀ x z : Nat, x < n → ((z : Int) ∈ rowE (tl y n) (x : Int) → z ∈ (adjOf n (tl y n)).getD x []) := by
    intro x z hx hz
    obtain ⟨r, h1, h2⟩ := adjOf_row hv hx
    have e : (adjOf n (tl y n)).getD x [] = r := by simp [List.getD, h1]
    rw [← h2, rowI, List.mem_map] at hz
    obtain ⟨k, hk, e2⟩ := hz
    have : k = z := by omega
    rw [e, ← this]; exact hk
  have hnb : ∀ x, x < n → ∀ z ∈ (adjOf n (tl y n)).getD x [], z < n := by
    intro x hx z hz
    have e : (adjOf n (tl y n)).getD x [] = (adjOf n (tl y n))[x]'(by rw [hA.len]; exact hx) := by simp [List.getD, List.getElem?_eq_getElem (show x < (adjOf n (tl y n)).length by rw [hA.len]; exact hx)]
    rw [e] at hz
    exact (hA.row _ (List.getElem_mem _)).2 z hz
  obtain ⟨b1, b2, b3⟩ := bGo_closed (fun z => (adjOf n (tl y n)).getD z []) n hnb n 0 (bInit n 0) (by omega) (bInit_inv (by omega)) (Nat.zero_le _) (fun k x hk => by omega)
  have all : ∀ k : Nat, k < n → k ∈ (bGo (fun z => (adjOf n (tl y n)).getD z []) n 0 (bInit n 0)).2 := by
    intro k
    induction k using Nat.strongRecOn with
    | ind k ih =>
      intro hk
      by_cases h0 : k = 0
      · subst h0; exact b2 0 (by simp [bInit])
      · have hy := h k (by omega) hk
        have h1 := ih (y k).toNat (by omega) (by omega)
        refine b3 _ h1 k (hE _ k (by omega) (rowE_mem.2 ⟨(y k, (k : Int)), tl_mem.2 ⟨k, by omega, hk, rfl⟩, .inl ⟨by dsimp only; omega, rfl⟩⟩))
  intro hm
  obtain ⟨k, hk, e⟩ := List.mem_iff_getElem.1 hm
  have hkl : k < n := by have := bfs_len (fun z => (adjOf n (tl y n)).getD z []) n 0; omega
  have := (b1.got k hkl).2 (all k hkl)
  have e2 : (bGo (fun z => (adjOf n (tl y n)).getD z []) n 0 (bInit n 0)).1.getD k 0 = -1 := by
    rw [← e]
    exact getD_at hk
  omega
end Go.Proofs.Ytmhfkhlamnapdaa
end
section
open Go Go.HL
namespace Go.Proofs.Ytmhfkhlamnapdaa
abbrev Rds := List (List (Int × Int))
def put (R : Rds) (r : Nat) (p : Int × Int) : Rds := R.set r (R.getD r [] ++ [p])
def spL (f : Int → Nat → Rds → Rds) (v : Int) : List Int → Nat → Rds → Rds
  | [], _, R => R
  | u :: S, r, R => spL f v S (r + 1) (f u (r + 1) (put R r (v, u)))
def spF (row : Int → List Int) (T : Int → Int → Int) : Nat → Int → Int → Nat → Rds → Rds
  | 0, _, _, _, R => R
  | k + 1, v, w, r, R => spL (fun u r' R' => spF row T k u v r' R') v (stable (fun u => T u v) (keep w (row v)).length (keep w (row v))) r R
theorem put_len (R : Rds) (r : Nat) (p : Int × Int) : (put R r p).length = R.length := by simp [put]
theorem spL_len {f : Int → Nat → Rds → Rds} (hf : ∀ u r R, (f u r R).length = R.length) (v : Int) : ∀ (S : List Int) (r : Nat) (R : Rds), (spL f v S r R).length = R.length
  | [], _, _ => rfl
  | u :: S, r, R => by rw [spL, spL_len hf v S, hf, put_len]
theorem spF_len (row : Int → List Int) (T : Int → Int → Int) : ∀ (k : Nat) (v w : Int) (r : Nat) (R : Rds), (spF row T k v w r R).length = R.length
  | 0, _, _, _, _ => rfl
  | k + 1, v, w, r, R => spL_len (fun u r R => spF_len row T k u v r R) v _ r R
def Sh (B : Nat) (R : Rds) : Prop := ∀ q, q ∈ R → q.length ≤ B
theorem Sh.put {B : Nat} {R : Rds} (h : Sh B R) (r : Nat) (p : Int × Int) : Sh (B + 1) (put R r p) := by
  intro q hq
  unfold Go.Proofs.Ytmhfkhlamnapdaa.put at hq
  rcases List.mem_or_eq_of_mem_set hq with hq | rfl
  · have := h q hq; omega
  · rw [List.length_append, List.length_singleton]
    have : (R.getD r []).length ≤ B := by
      rcases Nat.lt_or_ge r R.length with hr | hr
      · have e : R.getD r [] = R[r] := by simp [List.getD, List.getElem?_eq_getElem hr]
        rw [e]; exact h _ (List.getElem_mem hr)
      · have e : R.getD r [] = [] := by simp [List.getD, List.getElem?_eq_none hr]
        rw [e]; exact Nat.zero_le _
    omega
theorem Sh.mono {B C : Nat} {R : Rds} (h : Sh B R) (hc : B ≤ C) : Sh C R := fun q hq => Nat.le_trans (h q hq) hc
def sumC (c : Int → Nat) : List Int → Nat
  | [] => 0
  | u :: S => 1 + c u + sumC c S
end Go.Proofs.Ytmhfkhlamnapdaa
end
section
open Go Go.HL
namespace Go.Proofs.Ytmhfkhlamnapdaa
theorem res54 : Try.f54.results.toList = [] := by kernel_rfl
structure SK (adj : List (List Nat)) (T : Int → Int → Int) (n ob t tb bb sb : Nat) (R : Rds) (H : Heap) : Prop where
  mem : Mem adj T H
  so : SO ob t R H
  ht : H[tb]? = some (boxT n)
  ho : ∃ mx, mx ≤ H.length ∧ H[bb]? = some (.arr 1 [.sl ob 0 t (some t) t 1] true mx)
  hs : ∃ mx, mx ≤ H.length ∧ H[sb]? = some (.arr 1 [.func 54 [] [.ptr tb 0 0 1, .ptr bb 0 0 1, .ptr sb 0 0 1]] true mx)
  len : ob + 1 + t ≤ H.length
structure Pl (ob t tb bb sb : Nat) : Prop where
  two : 2 ≤ ob
  pt : 2 ≤ tb ∧ (tb < ob ∨ ob + t < tb)
  pb : 2 ≤ bb ∧ (bb < ob ∨ ob + t < bb)
  ps : 2 ≤ sb ∧ (sb < ob ∨ ob + t < sb)
structure GrS (adj : List (List Nat)) (T : Int → Int → Int) (n ob t tb bb sb : Nat) (R : Rds) (H H' : Heap) : Prop where
  sk : SK adj T n ob t tb bb sb R H'
  len : H.length ≤ H'.length
  same : ∀ k, k ≠ 1 → (k < ob ∨ ob + t < k) → k < H.length → H'[k]? = H[k]?
  mx : mxs H' ≤ H.length
def SpOk (adj : List (List Nat)) (T : Int → Int → Int) (n ob t tb bb sb : Nat) (v w : Int) (r : Nat) (F : Rds → Rds) (cst : Nat) : Prop :=
  ∀ H R, SK adj T n ob t tb bb sb R H → (∀ q, q ∈ R → q.length + cst ≤ 60) → ∃ H', Cl 54 [.int .i64 v, .int .i64 w, .int .i64 (r : Int), .ptr tb 0 0 1, .ptr bb 0 0 1, .ptr sb 0 0 1] H (.tuple []) H' ∧ GrS adj T n ob t tb bb sb (F R) H H'
section
variable {adj : List (List Nat)} {T : Int → Int → Int} {n ob t tb bb sb : Nat}
theorem SK.take {R : Rds} {H : Heap} (h : SK adj T n ob t tb bb sb R H) {m : Nat} (hm : m ≤ H.length) (hx : mxs H ≤ m) (h1 : ob + 1 + t ≤ m) (h2 : 2 ≤ m) (hb : tb < m ∧ bb < m ∧ sb < m) : SK adj T n ob t tb bb sb R (H.take m) := by
  have get : ∀ k, k < m → (H.take m)[k]? = H[k]? := fun k hk => by rw [List.getElem?_take, if_pos hk]
  have hlen : (H.take m).length = m := by rw [List.length_take]; omega
  obtain ⟨mo, mo1, mo2⟩ := h.so.out
  obtain ⟨m1, _, m2⟩ := h.ho
  obtain ⟨m3, _, m4⟩ := h.hs
  have x1 := mxs_get.1 hx _ _ m2
  have x2 := mxs_get.1 hx _ _ m4
  refine ⟨h.mem.take h2 hm hx, ⟨⟨mo, mo1, by rw [get _ (by omega)]; exact mo2⟩, fun j r hj => ?_, h.so.len⟩, by rw [get _ hb.1]; exact h.ht, ⟨m1, by rw [hlen]; exact x1, by rw [get _ hb.2.1]; exact m2⟩, ⟨m3, by rw [hlen]; exact x2, by rw [get _ hb.2.2]; exact m4⟩, by omega⟩
  have := lt_of_get hj
  rw [h.so.len] at this
  rw [get _ (by omega)]; exact h.so.rows j r hj
end
section
variable {adj : List (List Nat)} {T : Int → Int → Int} {n ob t tb bb sb : Nat}
theorem GrS.cut {R : Rds} {H H' : Heap} (h : GrS adj T n ob t tb bb sb R H H') (h1 : ob + 1 + t ≤ H.length) (h2 : 2 ≤ H.length) (hb : tb < H.length ∧ bb < H.length ∧ sb < H.length) {r : Nat} (hr : r ≤ H.length) :
    SK adj T n ob t tb bb sb R (gc H.length r H') ∧ (gc H.length r H').length = H.length ∧ ∀ k, k ≠ 1 → (k < ob ∨ ob + t < k) → k < H.length → (gc H.length r H')[k]? = H[k]? := by
  have e : gc H.length r H' = H'.take H.length := by
    have := h.mx
    unfold gc
    congr 1
    omega
  rw [e]
  refine ⟨h.sk.take h.len h.mx h1 h2 hb, by rw [List.length_take]; have := h.len; omega, fun k k1 k2 k3 => ?_⟩
  rw [List.getElem?_take, if_pos k3]
  exact h.same k k1 k2 k3
end
end Go.Proofs.Ytmhfkhlamnapdaa
end
section
open Go Go.HL
namespace Go.Proofs.Ytmhfkhlamnapdaa
theorem a44s : tyAgg Try.prog 44 = false := by kernel_rfl
theorem i44s : (Try.prog.underlying 44).isSome = true := by kernel_rfl
theorem a82s : tyAgg Try.prog 82 = false := by kernel_rfl
theorem i82s : (Try.prog.underlying 82).isSome = true := by kernel_rfl
section
variable {adj : List (List Nat)} {T : Int → Int → Int} {n ob t tb bb sb : Nat}
theorem SK.ldO {R : Rds} {H : Heap} (h : SK adj T n ob t tb bb sb R H) : loadV Try.prog H 44 (.ptr bb 0 0 1) = some (.sl ob 0 t (some t) t 1) := by
  obtain ⟨_, _, h1⟩ := h.ho
  exact load_elem h1 rfl rfl rfl a44s i44s
end
section
variable {adj : List (List Nat)} {T : Int → Int → Int} {n ob t tb bb sb : Nat}
theorem SK.ldS {R : Rds} {H : Heap} (h : SK adj T n ob t tb bb sb R H) : loadV Try.prog H 82 (.ptr sb 0 0 1) = some (.func 54 [] [.ptr tb 0 0 1, .ptr bb 0 0 1, .ptr sb 0 0 1]) := by
  obtain ⟨_, _, h1⟩ := h.hs
  exact load_elem h1 rfl rfl rfl a82s i82s
end
section
variable {adj : List (List Nat)} {T : Int → Int → Int} {n ob t tb bb sb : Nat}
theorem SK.upd {R R' : Rds} {H H' : Heap} (h : SK adj T n ob t tb bb sb R H) (hp : Pl ob t tb bb sb) (hM : Mem adj T H') (hS : SO ob t R' H') (hl : H'.length = H.length) (hs : ∀ k, (k < ob ∨ ob + t < k) → H'[k]? = H[k]?) : SK adj T n ob t tb bb sb R' H' := by
  obtain ⟨m1, l1, h1⟩ := h.ho
  obtain ⟨m2, l2, h2⟩ := h.hs
  exact ⟨hM, hS, by rw [hs _ hp.pt.2]; exact h.ht, ⟨m1, by omega, by rw [hs _ hp.pb.2]; exact h1⟩, ⟨m2, by omega, by rw [hs _ hp.ps.2]; exact h2⟩, by rw [hl]; exact h.len⟩
end
section
variable {adj : List (List Nat)} {T : Int → Int → Int} {n ob t tb bb sb : Nat}
abbrev sqE (v w : Int) (r : Nat) (tb bb sb cb k i : Nat) : Env := env54 (.int .i64 v) (.int .i64 w) (.int .i64 (r : Int)) (.ptr tb 0 0 1) (.ptr bb 0 0 1) (.ptr sb 0 0 1) .undef (.sl cb 0 k none k 1) (.int .i64 (k : Int)) (.int .i64 (i : Int))
end
section
variable {adj : List (List Nat)} {T : Int → Int → Int} {n ob t tb bb sb : Nat}
theorem sq_loop {F : Int → Nat → Rds → Rds} {c : Int → Nat} {v w : Int} {cb k : Nat} {S : List Int} (hk : S.length = k) (hk9 : k ≤ 100) (ht9 : t ≤ 1000) (hpl : Pl ob t tb bb sb) (hcb : 2 ≤ cb ∧ (cb < ob ∨ ob + t < cb)) (hT0 : ∀ u, u ∈ S → 0 ≤ T u v)
    (hF : ∀ u, u ∈ S → ∀ r' : Nat, (r' : Int) + T u v ≤ t → SpOk adj T n ob t tb bb sb u v r' (F u r') (c u)) (hc : ∀ u, u ∈ S → ∀ r R B, Sh B R → Sh (B + c u) (F u r R)) :
    ∀ (d i r : Nat) (R : Rds) (H : Heap) (B : Nat), i + d = k → (∀ j, i ≤ j → j < k → (r : Int) + (j - i : Nat) + 1 + T (S.getD j 0) v ≤ t) → SK adj T n ob t tb bb sb R H → H[cb]? = some (bI S) → Sh B R → B + sumC c (S.drop i) ≤ 60 →
    ∃ (r' : Nat) (H' : Heap), RunsTo Try.prog polS 54 (sub [1, 0] B54) (sqE v w r tb bb sb cb k i) H (.exit 0) (polS.keys 54) (sqE v w r' tb bb sb cb k k) H' ∧ SK adj T n ob t tb bb sb (spL F v (S.drop i) r R) H' ∧ H'.length = H.length ∧ ∀ k, k ≠ 1 → (k < ob ∨ ob + t < k) → k < H.length → H'[k]? = H[k]? := by
  intro d
  induction d with
  | zero =>
    intro i r R H B hi hr hS hcbk hB hB2
    have hi : i = k := by omega
    subst hi
    rw [List.drop_of_length_le (by omega), spL]
    exact ⟨r, H, RunsTo.loop_out (sq_l_1 0 v w tb bb sb n H r cb i i ob t .undef (by omega)) (by simp) (by kernel_rfl) (by kernel_rfl), hS, rfl, fun _ _ _ _ => rfl⟩
  | succ d ih =>
    intro i r R H B hi hr hS hcbk hB hB2
    have hiS : i < S.length := by omega
    have hg : S[i] = S.getD i 0 := (getD_at hiS).symm
    have hmem : S.getD i 0 ∈ S := by rw [← hg]; exact List.getElem_mem hiS
    have h0 := hT0 _ hmem
    have hri := hr i (Nat.le_refl _) (by omega)
    rw [Nat.sub_self] at hri
    have hrt : r < t := by omega
    have hrR : r < R.length := by rw [hS.so.len]; exact hrt
    have hRr : R[r]? = some R[r] := List.getElem?_eq_getElem hrR
    have hlen := hS.len
    obtain ⟨H4, H5, g7, g9, hSO, hM4, hM5, hl5, hs4, hs5⟩ := hS.so.push hS.mem hpl.two hlen hRr (by have := hB _ (List.getElem_mem hrR); omega) (v, S.getD i 0)
    have hput : put R r (v, S.getD i 0) = R.set r (R[r] ++ [(v, S.getD i 0)]) := by
      unfold put
      have e : R.getD r [] = R[r] := by simp [List.getD, List.getElem?_eq_getElem hrR]
      rw [e]
    rw [← hput] at hSO
    have hS5 := hS.upd hpl hM5 hSO hl5 hs5
    rw [List.drop_eq_getElem_cons hiS, sumC] at hB2
    obtain ⟨H6, hcl, hG⟩ := hF _ hmem (r + 1) (by omega) H5 (put R r (v, S.getD i 0)) hS5 (fun q hq => by have := hB.put r (v, S.getD i 0) q hq; rw [hg] at hB2; omega)
    obtain ⟨N, hN⟩ := hcl.from
    have hw1 : IntKind.i64.wrap ((r : Int) + 1) = ((r + 1 : Nat) : Int) := by rw [wrapI64]; omega
    have hi44 : idxV Try.prog 44 (.sl ob 0 t (some t) t 1) (.int .i64 (r : Int)) = some (.ptr ob r 0 t) := by
      have := idx_sl (P := Try.prog) (t := 44) (e := 22) (k := 1) (b := ob) (len := t) (tot := t) (cap := some t) (ik := .i64) (n := (r : Int)) (by kernel_rfl) z22sp (by omega) (by omega)
      rwa [Int.toNat_natCast] at this
    have ld4 : loadV Try.prog H4 44 (.ptr bb 0 0 1) = some (.sl ob 0 t (some t) t 1) := by
      obtain ⟨m1, _, h1⟩ := hS.ho
      have hne : bb ≠ ob + 1 + r := by have := hpl.pb.2; omega
      exact load_elem (by rw [hs4 _ hne]; exact h1) rfl rfl rfl a44s i44s
    have gS : (recL ((loadV Try.prog H 44 (.ptr bb 0 0 1)).map (fun v => (v, (H : Heap)))) ((loadV Try.prog H 44 (.ptr bb 0 0 1)).map (fun v => (v, (H : Heap)))) H H && (recL ((loadV Try.prog H 44 (.ptr bb 0 0 1)).map (fun v => (v, (H : Heap)))) ((loadV Try.prog H4 44 (.ptr bb 0 0 1)).map (fun v => (v, (H4 : Heap)))) H H4 && (recL ((loadV Try.prog H 44 (.ptr bb 0 0 1)).map (fun v => (v, (H : Heap)))) ((loadV Try.prog H 44 (.ptr bb 0 0 1)).map (fun v => (v, (H : Heap)))) H H && (recL ((loadV Try.prog H 22 (.ptr ob r 0 t)).map (fun v => (v, (H : Heap)))) ((loadV Try.prog H 22 (.ptr ob r 0 t)).map (fun v => (v, (H : Heap)))) H H && true)))) = true := by
      have q1 := hS.ldO
      have q2 := hS.so.row hRr
      have q3 := hS.mem.rf
      have q4 := hM4.rf
      simp only [q1, ld4, q2, Option.map, recL, prOf, same, q3, q4, beq_self_eq_true, Bool.and_self]
    have s := sq_l_0 N v w tb bb sb n H r cb k i ob t (prOf ob r R[r]) (S.getD i 0) H4 _ H5 H6 (by omega) (gi2 (by omega)) (gl2 hcbk hk (by omega)) hS.ldO hS.ldO hi44 (hS.so.row hRr) g7 hi44 g9 gS hS5.ldS (by rw [hw1]; exact hN)
    rw [hw1, wrap_succ (by omega)] at s
    have hcl2 := lt_of_get hcbk
    obtain ⟨m1, _, o1⟩ := hS.ho
    obtain ⟨m2, _, o2⟩ := hS.hs
    have b1 := lt_of_get hS.ht
    have b2 := lt_of_get o1
    have b3 := lt_of_get o2
    have h2 := hS.mem.two
    obtain ⟨k1, k2, k3⟩ := hG.cut (by rw [hl5]; exact hlen) (by rw [hl5]; exact h2) (by rw [hl5]; exact ⟨b1, b2, b3⟩) (r := bndE (sqE v w (r + 1) tb bb sb cb k (i + 1))) (by rw [hl5]; simp only [bndE, bnd]; omega)
    rw [hl5] at k1 k2 k3
    have hsame : ∀ k, k ≠ 1 → (k < ob ∨ ob + t < k) → k < H.length → (gc H.length (bndE (sqE v w (r + 1) tb bb sb cb (S.length) (i + 1))) H6)[k]? = H[k]? := by
      intro k x1 x2 x3
      rw [hk, k3 k x1 x2 x3, hs5 k x2]
    rw [hk] at hsame
    obtain ⟨r', H', rr, e1, e2, e3⟩ := ih (i + 1) (r + 1) (F (S.getD i 0) (r + 1) (put R r (v, S.getD i 0))) _ (B + 1 + c (S.getD i 0)) (by omega) (fun j j1 j2 => by
      have := hr j (by omega) j2
      have e : (j - i : Nat) = (j - (i + 1) : Nat) + 1 := by omega
      omega) k1 (by rw [hsame cb (by omega) hcb.2 hcl2]; exact hcbk) (hc _ hmem _ _ _ (hB.put r _)) (by rw [hg] at hB2; omega)
    refine ⟨r', H', RunsTo.loop s (by kernel_rfl) rfl rr rfl (by kernel_rfl) (by kernel_rfl), ?_, by rw [e2, k2], fun q q1 q2 q3 => by rw [e3 q q1 q2 (by rw [k2]; exact q3), hsame q q1 q2 q3]⟩
    rw [List.drop_eq_getElem_cons hiS, spL, hg]
    exact e1
end
end Go.Proofs.Ytmhfkhlamnapdaa
end
section
open Go Go.HL
namespace Go.Proofs.Ytmhfkhlamnapdaa
theorem bestGo_ge : ∀ (l : List Int) (i : Nat) (p : Int), p ≤ bestGo i p l
  | [], _, _ => Int.le_refl _
  | t :: l, i, p => by
    rw [bestGo]
    have := bestGo_ge l (i + 1) (max p ((i : Int) + 1 + t))
    omega
section
variable {l : List (Int × Int)} {ρ : Int → Nat} {M : Nat}
theorem Anc.trans {z p r : Int} (h : Anc l ρ z p) (h' : Anc l ρ p r) : Anc l ρ z r := by
  induction h' with
  | refl => exact h
  | step _ h2 h3 ih => exact .step ih h2 h3
end
section
variable {l : List (Int × Int)} {ρ : Int → Nat} {M : Nat}
theorem ds_cover : ∀ (k : Nat) (v w z : Int), Anc l ρ z v → ρ z ≤ ρ v + k → (∀ u, u ∈ rowE l v → ρ v < ρ u → u ≠ w) → z ∈ ds (rowE l) k v w
  | 0, v, w, z, h, hk, _ => by
    cases h with
    | refl => simp [ds]
    | step h1 h2 h3 => have := h1.le; omega
  | k + 1, v, w, z, h, hk, hw => by
    rw [ds]
    cases h with
    | refl => simp
    | step h1 h2 h3 =>
      rename_i u
      have hu := rowE_sym h2
      refine List.mem_cons_of_mem _ (List.mem_flatMap.2 ⟨u, keep_mem.2 ⟨hu, hw u hu h3⟩, ds_cover k u v z h1 (by omega) fun x hx hlt e => ?_⟩)
      rw [e] at hlt
      omega
end
section
variable {l : List (Int × Int)} {ρ : Int → Nat} {M : Nat}
theorem Rtd.anc {n r : Nat} (hR : Rtd l n r ρ) (hv : ∀ p ∈ l, validB (n : Int) p = true) : ∀ (k z : Nat), z < n → ρ (z : Int) ≤ k → Anc l ρ (z : Int) (r : Int)
  | 0, z, hz, hk => by
    by_cases e : z = r
    · rw [e]; exact .refl
    · obtain ⟨u, _, h2⟩ := hR.up z hz e
      omega
  | k + 1, z, hz, hk => by
    by_cases e : z = r
    · rw [e]; exact .refl
    · obtain ⟨u, h1, h2⟩ := hR.up z hz e
      have hu := valid_row hv h1
      have e2 : ((u.toNat : Nat) : Int) = u := by omega
      have := Rtd.anc hR hv k u.toNat (by omega) (by rw [e2]; omega)
      rw [e2] at this
      exact Anc.trans (.step .refl h1 (by omega)) this
end
end Go.Proofs.Ytmhfkhlamnapdaa
end
section
open Go Go.HL
namespace Go.Proofs.Ytmhfkhlamnapdaa
theorem bestGo_at : ∀ (l : List Int) (i j : Nat) (p : Int), j < l.length → (i : Int) + j + 1 + l.getD j 0 ≤ bestGo i p l
  | [], _, _, _, h => by simp at h
  | a :: l, i, 0, p, _ => by
    rw [bestGo]
    have := bestGo_ge l (i + 1) (max p ((i : Int) + 1 + a))
    simp only [List.getD_cons_zero]
    omega
  | a :: l, i, j + 1, p, h => by
    rw [bestGo]
    have := bestGo_at l (i + 1) j (max p ((i : Int) + 1 + a)) (by simpa using h)
    simp only [List.getD_cons_succ]
    omega
section
variable {adj : List (List Nat)} {T : Int → Int → Int} {n ob t tb bb sb : Nat}
theorem SK.ext {R : Rds} {H H' : Heap} (h : SK adj T n ob t tb bb sb R H) (hp : Pl ob t tb bb sb) (hM : Mem adj T H') (hl : H.length ≤ H'.length) (hs : ∀ k, k ≠ 1 → k < H.length → H'[k]? = H[k]?) : SK adj T n ob t tb bb sb R H' := by
  obtain ⟨mo, mo1, mo2⟩ := h.so.out
  obtain ⟨m1, m1l, m2⟩ := h.ho
  obtain ⟨m3, m3l, m4⟩ := h.hs
  have := hp.two
  have := hp.pt.1
  have := hp.pb.1
  have := hp.ps.1
  refine ⟨hM, ⟨⟨mo, mo1, by rw [hs _ (by omega) (lt_of_get mo2)]; exact mo2⟩, fun j r hj => ?_, h.so.len⟩, by rw [hs _ (by omega) (lt_of_get h.ht)]; exact h.ht, ⟨m1, by omega, by rw [hs _ (by omega) (lt_of_get m2)]; exact m2⟩, ⟨m3, by omega, by rw [hs _ (by omega) (lt_of_get m4)]; exact m4⟩, by have := h.len; omega⟩
  have hj2 := h.so.rows j r hj
  rw [hs _ (by omega) (lt_of_get hj2)]; exact hj2
end
section
variable {adj : List (List Nat)} {T : Int → Int → Int} {n ob t tb bb sb : Nat}
theorem sp_step {F : Int → Nat → Rds → Rds} {c : Int → Nat} {v : Nat} {w : Int} {row : List Nat} {r : Nat} {S : List Int} (hS : S = stable (fun u => T u v) (keep w (rowI row)).length (keep w (rowI row))) (hn : adj.length = n) (hr : adj[v]? = some row) (h39 : row.length ≤ 39) (ht9 : t ≤ 1000) (hpl : Pl ob t tb bb sb)
    (hT : ∀ u, u ∈ keep w (rowI row) → TimeOk adj T n u v) (hT0 : ∀ u, u ∈ keep w (rowI row) → 0 ≤ T u v) (hrec : T v w = bestGo 0 0 (S.map fun u => T u v)) (hfit : (r : Int) + T v w ≤ t)
    (hF : ∀ u, u ∈ keep w (rowI row) → ∀ r' : Nat, (r' : Int) + T u v ≤ t → SpOk adj T n ob t tb bb sb u v r' (F u r') (c u)) (hc : ∀ u, u ∈ keep w (rowI row) → ∀ r R B, Sh B R → Sh (B + c u) (F u r R)) (h60 : sumC c S ≤ 60) :
    SpOk adj T n ob t tb bb sb v w r (spL F v S r) (sumC c S) := by
  intro H R hK hR
  have h2 := hK.mem.two
  obtain ⟨Hb, hclb, hMb, hlb, hSb, hlowb, gTb, gIb, hxb⟩ := br_call (w := w) hK.mem hn hr h39 hT
  obtain ⟨Nb, hNb⟩ := hclb.from
  rw [← hS] at hSb
  have hok := stable_ok (fun u => T u v) (n := (keep w (rowI row)).length) (l := keep w (rowI row)) rfl
  rw [← hS] at hok
  have hkl : (keep w (rowI row)).length ≤ 39 := by
    have h1 : (keep w (rowI row)).length ≤ (rowI row).length := List.length_filter_le _ _
    have h2 : (rowI row).length = row.length := by simp [rowI]
    omega
  have hmm : ∀ u, u ∈ S → u ∈ keep w (rowI row) := fun u hu => hok.1.mem_iff.1 hu
  have hSl : S.length = (keep w (rowI row)).length := hok.1.length_eq
  have a := sq_a_0 Nb v w tb bb sb n H r (H.length + 5) (keep w (rowI row)).length Hb (ld_T hK.ht) hNb
  have hKb := hK.ext hpl hMb (by omega) hlowb
  have hlen := hK.len
  obtain ⟨r', Hc, rl, hKc, hlc, hsc⟩ := sq_loop (F := F) (c := c) (v := (v : Int)) (w := w) (cb := H.length + 5) hSl (by omega) ht9 hpl ⟨by omega, .inr (by omega)⟩ (fun u hu => hT0 u (hmm u hu)) (fun u hu => hF u (hmm u hu)) (fun u hu => hc u (hmm u hu)) S.length 0 r R Hb (60 - sumC c S) (by omega) (fun j _ hj => by
    have := bestGo_at (S.map fun u => T u v) 0 j 0 (by rw [List.length_map]; omega)
    rw [← hrec] at this
    have e : (S.map fun u => T u v).getD j 0 = T (S.getD j 0) v := by
      have hj2 : j < S.length := by omega
      simp [List.getD, List.getElem?_eq_getElem hj2]
    rw [e] at this
    simp only [Nat.sub_zero]
    omega) hKb hSb (fun q hq => by have := hR q hq; omega) (by rw [List.drop_zero]; omega)
  rw [List.drop_zero] at hKc
  have rl' := RunsTo.loop_in (e0 := sqE v w r tb bb sb (H.length + 5) (keep w (rowI row)).length 0) rl (b := sub [1, 0, 0] B54) (by kernel_rfl) (by kernel_rfl) (by kernel_rfl)
  have t1 := RunsTo.seq a (RunsTo.block_exit (c := sub [1] B54) rl' (by kernel_rfl)) (c := B54) (by kernel_rfl) (by kernel_rfl)
  refine ⟨gc H.length 0 Hc, CallsTo.shared (P := Try.prog) (pol := polS) (g := 54) (fn := Try.f54) (cd := B54) (v := .tuple []) (by kernel_rfl) (by kernel_rfl) (by kernel_rfl) (by kernel_rfl) t1 (by kernel_rfl) (by simp) (by simp only [resultsV, res54, mapO]), ?_⟩
  have hKm := hK.mem.mx
  obtain ⟨mo, mo1, mo2⟩ := hKc.so.out
  have hin : ∀ (j : Nat) (B : Blk), ob ≤ j → j ≤ ob + t → Hc[j]? = some B → B.mx ≤ H.length := by
    intro j B j1 j2 hB
    by_cases e : j = ob
    · rw [e, mo2] at hB
      rw [← Option.some.inj hB]
      show mo ≤ _
      omega
    · obtain ⟨i, rfl⟩ : ∃ i, j = ob + 1 + i := ⟨j - ob - 1, by omega⟩
      have hi : i < (spL F (↑v) S r R).length := by rw [hKc.so.len]; omega
      rw [hKc.so.rows i _ (List.getElem?_eq_getElem hi)] at hB
      rw [← Option.some.inj hB]
      exact Nat.zero_le _
  have hsame : ∀ k, k ≠ 1 → (k < ob ∨ ob + t < k) → k < H.length → Hc[k]? = H[k]? := fun k k1 k2 k3 => by rw [hsc k k1 k2 (by omega), hlowb k k1 k3]
  have hlo : ∀ (j : Nat) (B : Blk), j < H.length + 2 → Hc[j]? = some B → B.mx ≤ H.length := by
    intro j B hj hB
    by_cases e1 : j = 1
    · obtain ⟨ks, hks⟩ := hKc.mem.memo
      rw [e1, hks] at hB
      rw [← Option.some.inj hB]; exact Nat.zero_le _
    · by_cases e2 : ob ≤ j ∧ j ≤ ob + t
      · exact hin j B e2.1 e2.2 hB
      · by_cases e3 : j < H.length
        · rw [hsame j e1 (by omega) e3] at hB
          exact mxs_get.1 hKm j B hB
        · rw [hsc j e1 (by omega) (by omega)] at hB
          by_cases e4 : j = H.length
          · rw [e4, gTb] at hB
            rw [← Option.some.inj hB]; exact h2
          · have e5 : j = H.length + 1 := by omega
            rw [e5, gIb] at hB
            rw [← Option.some.inj hB]; exact Nat.zero_le _
  have hxc : mxs Hc ≤ H.length + 2 := by
    rw [mxs_get]
    intro j B hB
    by_cases e : j < H.length + 2
    · have := hlo j B e hB; omega
    · rw [hsc j (by omega) (by omega) (by rw [← hlc]; exact lt_of_get hB)] at hB
      exact mxs_get.1 hxb j B hB
  have eg : gc H.length 0 Hc = Hc.take (max H.length (mxs Hc)) := by simp only [gc, Nat.zero_max]
  rw [eg]
  obtain ⟨m1, _, o1⟩ := hK.ho
  obtain ⟨m2, _, o2⟩ := hK.hs
  have b1 := lt_of_get hK.ht
  have b2 := lt_of_get o1
  have b3 := lt_of_get o2
  refine ⟨hKc.take (by omega) (by omega) (by omega) (by omega) ⟨by omega, by omega, by omega⟩, by rw [List.length_take]; omega, fun k k1 k2 k3 => by rw [List.getElem?_take, if_pos (by omega)]; exact hsame k k1 k2 k3, ?_⟩
  rw [mxs_get]
  intro j B hB
  rw [List.getElem?_take] at hB
  split at hB
  · exact hlo j B (by omega) hB
  · cases hB
end
end Go.Proofs.Ytmhfkhlamnapdaa
end
section
open Go Go.HL
namespace Go.Proofs.Ytmhfkhlamnapdaa
abbrev Ev := Nat × Int × Int
def evL (f : Int → Nat → List Ev) (v : Int) : List Int → Nat → List Ev
  | [], _ => []
  | u :: S, r => (r, v, u) :: (f u (r + 1) ++ evL f v S (r + 1))
def evF (row : Int → List Int) (T : Int → Int → Int) : Nat → Int → Int → Nat → List Ev
  | 0, _, _, _ => []
  | k + 1, v, w, r => evL (fun u r' => evF row T k u v r') v (stable (fun u => T u v) (keep w (row v)).length (keep w (row v))) r
def fil (L : List Ev) (R : Rds) : Rds := L.foldl (fun R e => put R e.1 e.2) R
theorem fil_app (L M : List Ev) (R : Rds) : fil (L ++ M) R = fil M (fil L R) := by simp [fil]
theorem spL_ev {f : Int → Nat → Rds → Rds} {g : Int → Nat → List Ev} (h : ∀ u r R, f u r R = fil (g u r) R) (v : Int) : ∀ (S : List Int) (r : Nat) (R : Rds), spL f v S r R = fil (evL g v S r) R
  | [], _, _ => rfl
  | u :: S, r, R => by
    rw [spL, spL_ev h v S, h, evL]
    show _ = fil (g u (r + 1) ++ evL g v S (r + 1)) (put R r (v, u))
    rw [fil_app]
theorem spF_ev (row : Int → List Int) (T : Int → Int → Int) : ∀ (k : Nat) (v w : Int) (r : Nat) (R : Rds), spF row T k v w r R = fil (evF row T k v w r) R
  | 0, _, _, _, _ => rfl
  | k + 1, v, w, r, R => spL_ev (fun u r R => spF_ev row T k u v r R) v _ r R
theorem fil_len : ∀ (L : List Ev) (R : Rds), (fil L R).length = R.length
  | [], _ => rfl
  | e :: L, R => by
    show (fil L (put R e.1 e.2)).length = _
    rw [fil_len L, put_len]
theorem fil_sh {B : Nat} : ∀ (L : List Ev) (R : Rds), Sh B R → Sh (B + L.length) (fil L R)
  | [], _, h => h
  | e :: L, R, h => by
    have := fil_sh L _ (h.put e.1 e.2)
    rw [List.length_cons]
    exact this.mono (by omega)
def rdOf (L : List Ev) (j : Nat) : List (Int × Int) := (L.filter fun e => e.1 == j).map (·.2)
theorem put_get (R : Rds) (r : Nat) (p : Int × Int) (hr : r < R.length) (j : Nat) : (put R r p).getD j [] = R.getD j [] ++ (if r = j then [p] else []) := by
  unfold put
  simp only [List.getD, List.getElem?_set]
  by_cases e : r = j
  · subst e
    simp [hr]
  · simp [e]
theorem fil_get : ∀ (L : List Ev) (R : Rds), (∀ e, e ∈ L → e.1 < R.length) → ∀ j, (fil L R).getD j [] = R.getD j [] ++ rdOf L j
  | [], R, _, j => by simp [fil, rdOf]
  | e :: L, R, h, j => by
    show (fil L (put R e.1 e.2)).getD j [] = _
    rw [fil_get L _ (fun a ha => by rw [put_len]; exact h a (by simp [ha])), put_get _ _ _ (h e (by simp)), List.append_assoc]
    congr 1
    unfold rdOf
    rw [List.filter_cons]
    by_cases c : e.1 = j
    · simp [c]
    · simp [c]
theorem fil_new {L : List Ev} {t : Nat} (h : ∀ e, e ∈ L → e.1 < t) : fil L (List.replicate t []) = (List.range t).map (rdOf L) := by
  apply List.ext_getElem?
  intro j
  have hl := fil_len L (List.replicate t [])
  rw [List.length_replicate] at hl
  by_cases hj : j < t
  · have h1 := fil_get L (List.replicate t []) (by simpa using h) j
    rw [List.getElem?_map, List.getElem?_range hj]
    have h2 : (fil L (List.replicate t [])).getD j [] = (fil L (List.replicate t []))[j]'(by omega) := by simp [List.getD, List.getElem?_eq_getElem (show j < (fil L (List.replicate t [])).length by omega)]
    have h3 : (List.replicate t ([] : List (Int × Int))).getD j [] = [] := by simp [List.getD, List.getElem?_replicate, hj]
    rw [List.getElem?_eq_getElem (by omega), ← h2, h1, h3]
    rfl
  · rw [List.getElem?_eq_none (by omega), List.getElem?_eq_none (by simp; omega)]
theorem evL_mem {f : Int → Nat → List Ev} {v : Int} {e : Ev} : ∀ {S : List Int} {r : Nat}, e ∈ evL f v S r → ∃ (i : Nat) (u : Int), S[i]? = some u ∧ (e = (r + i, v, u) ∨ e ∈ f u (r + i + 1))
  | [], _, h => by cases h
  | u :: S, r, h => by
    rw [evL] at h
    rcases List.mem_cons.1 h with rfl | h
    · exact ⟨0, u, rfl, .inl rfl⟩
    · rcases List.mem_append.1 h with h | h
      · exact ⟨0, u, rfl, .inr h⟩
      · obtain ⟨i, z, h1, h2⟩ := evL_mem h
        refine ⟨i + 1, z, by simpa using h1, ?_⟩
        rw [show r + (i + 1) = r + 1 + i by omega]
        exact h2
theorem mem_evL {f : Int → Nat → List Ev} {v : Int} : ∀ {S : List Int} {r : Nat} {i : Nat} {u : Int}, S[i]? = some u → (r + i, v, u) ∈ evL f v S r ∧ ∀ e, e ∈ f u (r + i + 1) → e ∈ evL f v S r
  | [], _, _, _, h => by simp at h
  | a :: S, r, 0, u, h => by
    have : a = u := by simpa using h
    subst this
    rw [evL]
    exact ⟨by simp, fun e he => by simp at he ⊢; simp [he]⟩
  | a :: S, r, i + 1, u, h => by
    obtain ⟨h1, h2⟩ := mem_evL (f := f) (v := v) (S := S) (r := r + 1) (i := i) (u := u) (by simpa using h)
    rw [evL, show r + (i + 1) = r + 1 + i by omega]
    exact ⟨by simp [h1], fun e he => by simp [h2 e he]⟩
abbrev clr (e : Ev) : Int := e.2.1
abbrev cld (e : Ev) : Int := e.2.2
theorem evL_cld {f : Int → Nat → List Ev} {D : Int → List Int} (v : Int) : ∀ (S : List Int) (r : Nat), (∀ u, u ∈ S → ∀ r, (u :: (f u r).map cld).Perm (D u)) → ((evL f v S r).map cld).Perm (S.flatMap D)
  | [], _, _ => .refl _
  | u :: S, r, h => by
    rw [evL, List.map_cons, List.map_append, List.flatMap_cons]
    exact ((h u (by simp) (r + 1)).append (evL_cld v S (r + 1) fun z hz => h z (by simp [hz])))
theorem stb (T : Int → Int → Int) (v : Int) (K : List Int) : (stable (fun u => T u v) K.length K).Perm K := (stable_ok (fun u => T u v) (n := K.length) (l := K) rfl).1
theorem evF_cld (row : Int → List Int) (T : Int → Int → Int) : ∀ (k : Nat) (v w : Int) (r : Nat), (v :: (evF row T k v w r).map cld).Perm (ds row k v w)
  | 0, v, w, r => .refl _
  | k + 1, v, w, r => by
    rw [evF, ds]
    refine List.Perm.cons _ ?_
    exact (evL_cld v _ r fun u _ r => evF_cld row T k u v r).trans ((stb T v (keep w (row v))).flatMap_right _)
theorem evF_len (row : Int → List Int) (T : Int → Int → Int) (k : Nat) (v w : Int) (r : Nat) : (evF row T k v w r).length + 1 = (ds row k v w).length := by
  have := (evF_cld row T k v w r).length_eq
  simpa using this
theorem evF_ge (row : Int → List Int) (T : Int → Int → Int) : ∀ (k : Nat) (v w : Int) (r : Nat) (e : Ev), e ∈ evF row T k v w r → r ≤ e.1
  | 0, _, _, _, _, h => by cases h
  | k + 1, v, w, r, e, h => by
    rw [evF] at h
    obtain ⟨i, u, _, h2⟩ := evL_mem h
    rcases h2 with rfl | h2
    · show r ≤ r + i; omega
    · have := evF_ge row T k u v _ e h2; omega
theorem evF_clr (row : Int → List Int) (T : Int → Int → Int) : ∀ (k : Nat) (v w : Int) (r : Nat) (e : Ev), e ∈ evF row T k v w r → clr e = v ∨ ∃ e', e' ∈ evF row T k v w r ∧ cld e' = clr e ∧ e'.1 < e.1
  | 0, _, _, _, _, h => by cases h
  | k + 1, v, w, r, e, h => by
    rw [evF] at h
    obtain ⟨i, u, h1, h2⟩ := evL_mem h
    obtain ⟨g1, g2⟩ := mem_evL (f := fun u r' => evF row T k u v r') (v := v) (r := r) h1
    rcases h2 with rfl | h2
    · exact .inl rfl
    · right
      have hge := evF_ge row T k u v _ e h2
      rcases evF_clr row T k u v _ e h2 with h3 | ⟨e', h3, h4, h5⟩
      · exact ⟨_, g1, h3.symm, by show r + i < e.1; omega⟩
      · exact ⟨e', g2 e' h3, h4, h5⟩
theorem evF_row (row : Int → List Int) (T : Int → Int → Int) : ∀ (k : Nat) (v w : Int) (r : Nat) (e : Ev), e ∈ evF row T k v w r → cld e ∈ row (clr e)
  | 0, _, _, _, _, h => by cases h
  | k + 1, v, w, r, e, h => by
    rw [evF] at h
    obtain ⟨i, u, h1, h2⟩ := evL_mem h
    rcases h2 with rfl | h2
    · have : u ∈ keep w (row v) := (stb T v (keep w (row v))).mem_iff.1 (List.mem_of_getElem? h1)
      exact (keep_mem.1 this).1
    · exact evF_row row T k u v _ e h2
abbrev rc (e : Ev) : Nat × Int := (e.1, e.2.1)
theorem evL_once {f : Int → Nat → List Ev} {D : Int → List Int} {v : Int} : ∀ {S : List Int} {r : Nat}, (v :: S.flatMap D).Nodup → (∀ u, u ∈ S → ∀ r, ((f u r).map rc).Nodup ∧ ∀ e, e ∈ f u r → clr e ∈ D u) → ((evL f v S r).map rc).Nodup ∧ ∀ e, e ∈ evL f v S r → (clr e = v ∧ r ≤ e.1) ∨ clr e ∈ S.flatMap D
  | [], _, _, _ => by simp [evL]
  | u :: S, r, hn, hf => by
    rw [List.nodup_cons, List.flatMap_cons, List.mem_append, List.nodup_append] at hn
    obtain ⟨hv, hn1, hn2, hn3⟩ := hn
    obtain ⟨a1, a2⟩ := evL_once (f := f) (v := v) (S := S) (r := r + 1) (D := D) (by rw [List.nodup_cons]; exact ⟨fun h => hv (.inr h), hn2⟩) (fun z hz => hf z (by simp [hz]))
    obtain ⟨b1, b2⟩ := hf u (by simp) (r + 1)
    rw [evL]
    refine ⟨?_, fun e he => ?_⟩
    · rw [List.map_cons, List.nodup_cons, List.map_append]
      refine ⟨fun h => ?_, List.nodup_append.2 ⟨b1, a1, fun x hx y hy e => ?_⟩⟩
      · rcases List.mem_append.1 h with h | h
        · obtain ⟨e, he, h1⟩ := List.mem_map.1 h
          have h2 := b2 e he
          have : clr e = v := congrArg Prod.snd h1
          rw [this] at h2
          exact hv (.inl h2)
        · obtain ⟨e, he, h1⟩ := List.mem_map.1 h
          have h3 : clr e = v := congrArg Prod.snd h1
          have h4 : e.1 = r := congrArg Prod.fst h1
          rcases a2 e he with ⟨_, h2⟩ | h2
          · omega
          · rw [h3] at h2; exact hv (.inr h2)
      · subst e
        obtain ⟨e1, he1, h1⟩ := List.mem_map.1 hx
        obtain ⟨e2, he2, h2⟩ := List.mem_map.1 hy
        have h3 := b2 e1 he1
        have h5 : clr e1 = clr e2 := (congrArg Prod.snd h1).trans (congrArg Prod.snd h2).symm
        rcases a2 e2 he2 with ⟨h4, _⟩ | h4
        · rw [h5, h4] at h3; exact hv (.inl h3)
        · exact hn3 _ h3 _ h4 h5
    · rcases List.mem_cons.1 he with rfl | he
      · exact .inl ⟨rfl, Nat.le_refl _⟩
      · rcases List.mem_append.1 he with he | he
        · right; rw [List.flatMap_cons]; exact List.mem_append_left _ (b2 e he)
        · rcases a2 e he with ⟨h1, h2⟩ | h1
          · exact .inl ⟨h1, by omega⟩
          · right; rw [List.flatMap_cons]; exact List.mem_append_right _ h1
theorem nodup_fm {D : Int → List Int} : ∀ {K : List Int}, (K.flatMap D).Nodup → ∀ u, u ∈ K → (D u).Nodup
  | [], _, _, h => by cases h
  | a :: K, h, u, hu => by
    rw [List.flatMap_cons, List.nodup_append] at h
    rcases List.mem_cons.1 hu with rfl | hu
    · exact h.1
    · exact nodup_fm h.2.1 u hu
theorem evF_once (row : Int → List Int) (T : Int → Int → Int) : ∀ (k : Nat) (v w : Int) (r : Nat), (ds row k v w).Nodup → ((evF row T k v w r).map rc).Nodup ∧ ∀ e, e ∈ evF row T k v w r → clr e ∈ ds row k v w
  | 0, _, _, _, _ => by simp [evF]
  | k + 1, v, w, r, h => by
    rw [evF]
    rw [ds] at h ⊢
    have hp := (stb T v (keep w (row v))).flatMap_right (fun u => ds row k u v)
    have hsub : ∀ u, u ∈ stable (fun u => T u v) (keep w (row v)).length (keep w (row v)) → (ds row k u v).Nodup := fun u hu => by
      have hu' := (stb T v (keep w (row v))).mem_iff.1 hu
      have h2 := (List.nodup_cons.1 h).2
      exact nodup_fm h2 u hu'
    obtain ⟨a1, a2⟩ := evL_once (f := fun u r' => evF row T k u v r') (D := fun u => ds row k u v) (r := r) ((hp.cons v).nodup_iff.2 h) (fun u hu r => evF_once row T k u v r (hsub u hu))
    refine ⟨a1, fun e he => ?_⟩
    rcases a2 e he with ⟨h1, _⟩ | h1
    · rw [h1]; simp
    · exact List.mem_cons_of_mem _ (hp.mem_iff.1 h1)
end Go.Proofs.Ytmhfkhlamnapdaa
end
section
open Go Go.HL
namespace Go.Proofs.Ytmhfkhlamnapdaa
theorem ds_pos (row : Int → List Int) : ∀ (k : Nat) (v w : Int), 1 ≤ (ds row k v w).length
  | 0, _, _ => Nat.le_refl _
  | k + 1, v, w => by rw [ds, List.length_cons]; omega
theorem sumC_ds (row : Int → List Int) (k : Nat) (v : Int) : ∀ S : List Int, sumC (fun u => (ds row k u v).length - 1) S = (S.flatMap fun u => ds row k u v).length
  | [] => rfl
  | u :: S => by
    have := ds_pos row k u v
    rw [sumC, sumC_ds row k v S, List.flatMap_cons, List.length_append]
    omega
theorem spOk_all {adj : List (List Nat)} {row : Int → List Int} {G : Int → Int → Prop} {μ : Int → Int → Nat} {ob t tb bb sb : Nat} (hM : Msr row G μ) (hrow : ∀ v, (row v).length ≤ 39)
    (hA : ∀ v w, G v w → ∃ (a : Nat) (r : List Nat), v = (a : Int) ∧ adj[a]? = some r ∧ rowI r = row v) (hpl : Pl ob t tb bb sb) (ht9 : t ≤ 1000) : ∀ (k : Nat) (v w : Int), G v w → μ v w < k → k ≤ 150 → (ds row k v w).length ≤ 61 → ∀ r : Nat, (r : Int) + tm row v w ≤ t →
    SpOk adj (tm row) adj.length ob t tb bb sb v w r (spF row (tm row) k v w r) ((ds row k v w).length - 1)
  | 0, _, _, _, h, _, _, _, _ => by omega
  | k + 1, v, w, hG, h, hk, hd, r, hr => by
    obtain ⟨a, rr, rfl, h1, h2⟩ := hA v w hG
    have hl : rr.length ≤ 39 := by have := hrow a; rw [← h2] at this; simpa [rowI] using this
    have hin : ∀ u, u ∈ keep w (rowI rr) → G u a ∧ μ u a < k := fun u hu => by
      rw [h2] at hu
      obtain ⟨h3, h4⟩ := hM.step _ _ hG u hu
      exact ⟨h3, by omega⟩
    have hsum : sumC (fun u => (ds row k u a).length - 1) (stable (fun u => tm row u a) (keep w (rowI rr)).length (keep w (rowI rr))) = (ds row (k + 1) a w).length - 1 := by
      rw [sumC_ds, ds, List.length_cons, h2, ((stb (tm row) a (keep w (row a))).flatMap_right fun u => ds row k u a).length_eq]
      omega
    have hlt : ∀ u, u ∈ keep w (rowI rr) → (ds row k u a).length ≤ 61 := fun u hu => by
      rw [h2] at hu
      have h3 : (ds row (k + 1) a w).length = ((keep w (row a)).flatMap fun u => ds row k u a).length + 1 := by rw [ds, List.length_cons]
      have h4 : ∀ K : List Int, u ∈ K → (ds row k u a).length ≤ (K.flatMap fun u => ds row k u a).length := by
        intro K
        induction K with
        | nil => intro h; cases h
        | cons z K ih =>
          intro h
          rw [List.flatMap_cons, List.length_append]
          rcases List.mem_cons.1 h with rfl | h
          · omega
          · have := ih h; omega
      have := h4 _ hu
      omega
    have hst := stable_dsort (fun u => tm row u a) (keep w (rowI rr))
    have := sp_step (adj := adj) (T := tm row) (n := adj.length) (ob := ob) (t := t) (tb := tb) (bb := bb) (sb := sb) (F := fun u r' R' => spF row (tm row) k u a r' R') (c := fun u => (ds row k u a).length - 1) (v := a) (w := w) (row := rr) (r := r) rfl rfl h1 hl ht9 hpl
      (fun u hu => timeOk_all hM hrow hA k u a (hin u hu).1 (hin u hu).2 (by omega)) (fun u _ => (tm_bd hrow u a).1)
      (by rw [hst, h2]; exact tm_rec hM hG (by omega)) hr
      (fun u hu r' hr' => spOk_all hM hrow hA hpl ht9 k u a (hin u hu).1 (hin u hu).2 (by omega) (hlt u hu) r' hr')
      (fun u _ r R B hB => by
        have h3 := evF_len row (tm row) k u a r
        rw [spF_ev]
        have := fil_sh (evF row (tm row) k u a r) R hB
        rwa [show (evF row (tm row) k u a r).length = (ds row k u a).length - 1 by omega] at this)
      (by rw [hsum]; omega)
    rw [hsum] at this
    rw [h2] at this
    exact this
end Go.Proofs.Ytmhfkhlamnapdaa
end
section
open Go Go.HL
namespace Go.Proofs.Ytmhfkhlamnapdaa
theorem res31 : Try.f31.results.toList = [.tmp 6, .tmp 7] := by kernel_rfl
theorem Mem.grow {adj : List (List Nat)} {T : Int → Int → Int} {H H' : Heap} (h : Mem adj T H) (hl : H.length ≤ H'.length) (hs : ∀ k, k < H.length → H'[k]? = H[k]?) (hB : ∀ (k : Nat) (B : Blk), H.length ≤ k → H'[k]? = some B → sameH [B] [B] = true ∧ B.mx ≤ H'.length) : Mem adj T H' := by
  obtain ⟨ks, hk⟩ := h.memo
  have h2 := h.two
  refine ⟨by rw [hs _ (by omega)]; exact h.near, ⟨ks, by rw [hs _ (by omega)]; exact hk⟩, sameH_iff.2 fun B hB' => ?_, mxs_get.2 fun j B hj => ?_⟩
  · obtain ⟨j, hj⟩ := List.mem_iff_getElem?.1 hB'
    by_cases c : j < H.length
    · rw [hs j c] at hj
      exact sameH_iff.1 h.rf B (List.mem_of_getElem? hj)
    · exact (hB j B (by omega) hj).1
  · by_cases c : j < H.length
    · rw [hs j c] at hj
      have := mxs_get.1 h.mx j B hj; omega
    · exact (hB j B (by omega) hj).2
def spR (l : List (Int × Int)) (x : Int) : Rds := spF (rowE l) (tm (rowE l)) 150 x (-1) 0 (List.replicate (tm (rowE l) x (-1)).toNat [])
theorem spR_len (l : List (Int × Int)) (x : Int) : (spR l x).length = (tm (rowE l) x (-1)).toNat := by rw [spR, spF_len, List.length_replicate]
abbrev fB (ob bb sb : Nat) : HV := .func 54 [] [.ptr 2 0 0 1, .ptr bb 0 0 1, .ptr sb 0 0 1]
theorem spread_run {m : Nat} {l : List (Int × Int)} {x : Int} (hok : treeOk (m : Int) l = true) (hx : 0 ≤ x ∧ x ≤ (m : Int) - 1) : ∃ E H ob, RunsTo Try.prog polS 31 B31 (args0 [.int .i64 (m : Int), .imm .arg 2 (l.map encP), .int .i64 x]) [] .ret (polS.keys 31) E H ∧
    resultsV Try.prog Try.f31 E H = some (.tuple [.sl ob 0 (spR l x).length (some (spR l x).length) (spR l x).length 1, .int .i64 0]) ∧ SO ob (spR l x).length (spR l x) H := by
  have hok0 := hok
  rw [treeOk, Bool.and_eq_true, decide_eq_true_eq, Int.toNat_natCast] at hok
  obtain ⟨hg, hb⟩ := hok
  have hv := List.all_eq_true.1 hg.2
  have hA := adjOf_inv hv
  have hw : IntKind.i64.wrap ((m : Int) - 1) = (m : Int) - 1 := by rw [wrapI64]; omega
  obtain ⟨xn, rfl⟩ : ∃ k : Nat, x = (k : Int) := ⟨x.toNat, by omega⟩
  have a := sfd_a_0 0 (m : Int) (l.map encP) (xn : Int)
  have b := sfd_b_0 0 (m : Int) (l.map encP) (xn : Int) m _ (s46_ok hg true hb)
  have c := sfd_c_0 0 (m : Int) (l.map encP) (xn : Int) m ((adjOf m l).map rowO) (by rw [hw]; exact s49 _ _ _ true (decide_eq_true hx))
  have hM : Mem (adjOf m l) (tm (rowE l)) [.arr 1 ((adjOf m l).map rowO) true 0, .map [] [] 0, boxT m] := (mem_start (adjOf m l) (tm (rowE l))).app (same_T m) (by show 2 ≤ _; simp)
  obtain ⟨H0, hcl, hG⟩ := (tree_time hok0 (x := (xn : Int)) (by omega)).1 _ hM
  obtain ⟨N, hN⟩ := hcl.from
  have hT0 := (tm_bd (row := rowE l) (fun v => by have := rowE_len l v; omega) (xn : Int) (-1)).1
  have hTs := tree_small hok0 (x := xn) (by omega)
  obtain ⟨t, ht⟩ : ∃ t : Nat, tm (rowE l) (xn : Int) (-1) = (t : Int) := ⟨(tm (rowE l) xn (-1)).toNat, by omega⟩
  have hRl : (spR l (xn : Int)).length = t := by rw [spR_len, ht]; omega
  rw [hRl]
  rw [ht] at hN hTs
  have hg0 : H0[2]? = some (boxT m) := by rw [hG.same 2 (by omega) (by simp)]; rfl
  have hl3 : 3 ≤ H0.length := hG.len
  -- the memory that 'Spread' makes
  generalize hH1 : H0 ++ [Blk.arr 1 (prsF H0.length (List.replicate t [])) true (H0.length + 1 + t)] ++ List.replicate t (.arr 2 [] true 0) = H1
  have hmk := makeRounds (n := t) (by omega) H0
  rw [hH1] at hmk
  have hl1 : H1.length = H0.length + 1 + t := by rw [← hH1]; simp; omega
  have hSO1 : SO H0.length t (List.replicate t []) H1 := by rw [← hH1]; exact SO.init t H0
  have hlow1 : ∀ k, k < H0.length → H1[k]? = H0[k]? := fun k hk => by rw [← hH1, List.append_assoc, List.getElem?_append_left hk]
  have hhi1 : ∀ (k : Nat) (B : Blk), H0.length ≤ k → H1[k]? = some B → sameH [B] [B] = true ∧ B.mx ≤ H0.length + 1 + t := by
    intro k B hk hB
    by_cases e : k = H0.length
    · obtain ⟨mx, h1, h2⟩ := hSO1.out
      rw [e, h2] at hB
      rw [← Option.some.inj hB]
      exact ⟨same_prsF _ _ _ _, h1⟩
    · have hkl := lt_of_get hB
      obtain ⟨j, rfl⟩ : ∃ j, k = H0.length + 1 + j := ⟨k - H0.length - 1, by omega⟩
      have := hSO1.rows j [] (by rw [List.getElem?_replicate, if_pos (by omega)])
      rw [this] at hB
      rw [← Option.some.inj hB]
      exact ⟨same_prsB [], Nat.zero_le _⟩
  have hst : storeV Try.prog (H1 ++ [Blk.arr 1 [HV.sl (H1.length + 1) 0 0 none 0 1] true (H1.length + 2), Blk.arr 1 [] true 0]) 44 (.ptr H1.length 0 0 1) (.sl H0.length 0 t (some t) t 1) = some (H1 ++ [Blk.arr 1 [.sl H0.length 0 t (some t) t 1] true (max (H1.length + 2) (H0.length + 1)), Blk.arr 1 [] true 0]) := by
    have h1 : (H1 ++ [Blk.arr 1 [HV.sl (H1.length + 1) 0 0 none 0 1] true (H1.length + 2), Blk.arr 1 [] true 0])[H1.length]? = some (Blk.arr 1 [HV.sl (H1.length + 1) 0 0 none 0 1] true (H1.length + 2)) := by rw [List.getElem?_append_right (Nat.le_refl _)]; simp
    have hz : tySize Try.prog 44 = some 1 := by kernel_rfl
    have hcv : [HV.sl H0.length 0 t (some t) t 1].all cellV = true := rfl
    have hc2 : cellsOf (HV.sl H0.length 0 t (some t) t 1) = [HV.sl H0.length 0 t (some t) t 1] := rfl
    have hc1 : cellsOf (HV.sl (H1.length + 1) 0 0 none 0 1) = [HV.sl (H1.length + 1) 0 0 none 0 1] := rfl
    simp only [storeV, h1, List.getElem?_cons_zero, hc1, hc2, hcv, hz, List.length_singleton]
    rw [if_pos ⟨trivial, trivial⟩, if_pos ⟨by omega, trivial, by omega⟩, List.set_append_right _ _ (Nat.le_refl _), Nat.sub_self]
    rfl
  have d := sfd_d_0 N (m : Int) (l.map encP) (xn : Int) m [.arr 1 ((adjOf m l).map rowO) true 0, .map [] [] 0, boxT m] H0.length H1.length (H1.length + 2) t H0 H1 _ _ (ld_T rfl) hN hmk rfl hst
  generalize hH3 : H1 ++ [Blk.arr 1 [.sl H0.length 0 t (some t) t 1] true (max (H1.length + 2) (H0.length + 1)), Blk.arr 1 [] true 0] = H3 at d
  have hl3' : H3.length = H1.length + 2 := by rw [← hH3]; simp
  have e := sfd_e_0 0 (m : Int) (l.map encP) (xn : Int) m H3 H0.length H1.length (H1.length + 2) t (H3 ++ [Blk.arr 1 [.nilFunc] true 0]) (by rw [← hl3']; rfl)
  have hst2 : storeV Try.prog (H3 ++ [Blk.arr 1 [.nilFunc] true 0]) 82 (.ptr (H1.length + 2) 0 0 1) (fB H0.length H1.length (H1.length + 2)) = some (H3 ++ [Blk.arr 1 [fB H0.length H1.length (H1.length + 2)] true (H1.length + 3)]) := by
    have h1 : (H3 ++ [Blk.arr 1 [HV.nilFunc] true 0])[H1.length + 2]? = some (Blk.arr 1 [HV.nilFunc] true 0) := by rw [← hl3', List.getElem?_append_right (Nat.le_refl _)]; simp
    have hz : tySize Try.prog 82 = some 1 := by kernel_rfl
    have hcv : [fB H0.length H1.length (H1.length + 2)].all cellV = true := rfl
    have hc2 : cellsOf (fB H0.length H1.length (H1.length + 2)) = [fB H0.length H1.length (H1.length + 2)] := rfl
    have hc1 : cellsOf HV.nilFunc = [HV.nilFunc] := rfl
    simp only [storeV, h1, List.getElem?_cons_zero, hc1, hc2, hcv, hz, List.length_singleton]
    rw [if_pos ⟨trivial, trivial⟩, if_pos ⟨by omega, trivial, by omega⟩, ← hl3', List.set_append_right _ _ (Nat.le_refl _), Nat.sub_self]
    congr 3
    simp only [List.set_cons_zero]
    congr 1
    simp [bnd, bndL, fB]
    omega
  have f := sfd_f_0 0 (m : Int) (l.map encP) (xn : Int) m _ H0.length H1.length (H1.length + 2) t _ hst2
  generalize hH4 : H3 ++ [Blk.arr 1 [fB H0.length H1.length (H1.length + 2)] true (H1.length + 3)] = H4 at f
  have hl4 : H4.length = H1.length + 3 := by rw [← hH4]; simp; omega
  have hlow4 : ∀ k, k < H1.length → H4[k]? = H1[k]? := fun k hk => by rw [← hH4, List.getElem?_append_left (by omega), ← hH3, List.getElem?_append_left hk]
  have hb4 : H4[H1.length]? = some (Blk.arr 1 [.sl H0.length 0 t (some t) t 1] true (max (H1.length + 2) (H0.length + 1))) := by
    rw [← hH4, List.getElem?_append_left (by omega), ← hH3, List.getElem?_append_right (Nat.le_refl _)]; simp
  have he4 : H4[H1.length + 1]? = some (Blk.arr 1 [] true 0) := by
    rw [← hH4, List.getElem?_append_left (by omega), ← hH3, List.getElem?_append_right (by omega)]; simp
  have hs4 : H4[H1.length + 2]? = some (Blk.arr 1 [fB H0.length H1.length (H1.length + 2)] true (H1.length + 3)) := by
    rw [← hH4, ← hl3', List.getElem?_append_right (Nat.le_refl _)]; simp
  have hM4 : Mem (adjOf m l) (tm (rowE l)) H4 := hG.mem.grow (by omega) (fun k hk => by rw [hlow4 k (by omega), hlow1 k hk]) (fun k B hk hB => by
    by_cases c1 : k < H1.length
    · rw [hlow4 k c1] at hB
      obtain ⟨q1, q2⟩ := hhi1 k B hk hB
      exact ⟨q1, by omega⟩
    · have hkl := lt_of_get hB
      by_cases c2 : k = H1.length
      · rw [c2, hb4] at hB
        rw [← Option.some.inj hB]
        refine ⟨by simp [sameH, sameL, same], ?_⟩
        show max _ _ ≤ _
        omega
      · by_cases c3 : k = H1.length + 1
        · rw [c3, he4] at hB
          rw [← Option.some.inj hB]
          exact ⟨by simp [sameH, sameL], Nat.zero_le _⟩
        · have c4 : k = H1.length + 2 := by omega
          rw [c4, hs4] at hB
          rw [← Option.some.inj hB]
          refine ⟨by simp [sameH, sameL, same], ?_⟩
          show H1.length + 3 ≤ _
          omega)
  have hSO4 : SO H0.length t (List.replicate t []) H4 := by
    obtain ⟨mx, h1, h2⟩ := hSO1.out
    refine ⟨⟨mx, h1, by rw [hlow4 _ (by omega)]; exact h2⟩, fun j r hj => ?_, hSO1.len⟩
    have := hSO1.rows j r hj
    rw [hlow4 _ (lt_of_get this)]; exact this
  have hK4 : SK (adjOf m l) (tm (rowE l)) m H0.length t 2 H1.length (H1.length + 2) (List.replicate t []) H4 := ⟨hM4, hSO4, by rw [hlow4 _ (by omega), hlow1 _ (by omega)]; exact hg0, ⟨_, by omega, hb4⟩, ⟨_, by omega, hs4⟩, by omega⟩
  have hpl : Pl H0.length t 2 H1.length (H1.length + 2) := ⟨by omega, ⟨Nat.le_refl _, .inl (by omega)⟩, ⟨by omega, .inr (by omega)⟩, ⟨by omega, .inr (by omega)⟩⟩
  -- the calls
  have hR := (tree_rtd hok0).2.2 xn (by omega)
  have hll := (tree_rtd hok0).1
  obtain ⟨hO, _⟩ := hR.ori (by omega) hv hll.2
  have hD : Dn l (fun v => ((bfs (fun y => (adjOf m l).getD y []) m xn).getD v.toNat 0).toNat) (xn : Int) (-1) := by
    intro u hu
    have hne := hO.neq (keep_mem.1 hu).1
    have h0 := hR.root
    dsimp only at hne h0 ⊢
    omega
  have hdl := ints_len (ds_nodup hO 150 xn (-1) hD) (fun z hz => ds_range hv 150 xn (-1) z ⟨by omega, by omega⟩ hz)
  have hmu := mu_le l (fun v => ((bfs (fun y => (adjOf m l).getD y []) m xn).getD v.toNat 0).toNat) m (xn : Int) (-1) (by
    have := hR.le xn (by omega)
    exact this)
  have hSp := spOk_all (adj := adjOf m l) (ob := H0.length) (t := t) (tb := 2) (bb := H1.length) (sb := H1.length + 2) (hO.msr hv) (fun v => by have := rowE_len l v; omega) (fun v w hG => by
      obtain ⟨⟨h1, h2⟩, _⟩ := hG
      obtain ⟨r, h3, h4⟩ := adjOf_row hv (x := v.toNat) (by omega)
      have e : ((v.toNat : Nat) : Int) = v := by omega
      rw [e] at h4
      exact ⟨v.toNat, r, e.symm, h3, h4⟩) hpl (by omega) 150 (xn : Int) (-1) ⟨⟨by omega, by omega⟩, .inl rfl⟩ (by omega) (by omega) (by omega) 0 (by rw [ht]; omega)
  rw [hA.len] at hSp
  obtain ⟨H5, hc5, hG5⟩ := hSp H4 (List.replicate t []) hK4 (fun q hq => by rw [(List.mem_replicate.1 hq).2]; simp only [List.length_nil]; omega)
  obtain ⟨N5, hN5⟩ := hc5.from
  have g := sfd_g_0 N5 (m : Int) (l.map encP) (xn : Int) m H4 H0.length H1.length (H1.length + 2) t H5 (hK4.ldS) hN5
  have z := sfd_z_0 0 (m : Int) (l.map encP) (xn : Int) m H5 H0.length H1.length (H1.length + 2) t hG5.sk.ldO
  have t1 := RunsTo.seq g z (c := sub [1, 1, 1, 1, 1, 1] B31) (by kernel_rfl) (by kernel_rfl)
  have t2 := RunsTo.seq f t1 (c := sub [1, 1, 1, 1, 1] B31) (by kernel_rfl) (by kernel_rfl)
  have t3 := RunsTo.seq e t2 (c := sub [1, 1, 1, 1] B31) (by kernel_rfl) (by kernel_rfl)
  have t4 := RunsTo.seq d t3 (c := sub [1, 1, 1] B31) (by kernel_rfl) (by kernel_rfl)
  have t5 := RunsTo.seq c t4 (c := sub [1, 1] B31) (by kernel_rfl) (by kernel_rfl)
  have t6 := RunsTo.seq b t5 (c := sub [1] B31) (by kernel_rfl) (by kernel_rfl)
  refine ⟨_, H5, H0.length, RunsTo.seq a t6 (c := B31) (by kernel_rfl) (by kernel_rfl), by simp only [resultsV, res31, mapO, resultV]; rfl, ?_⟩
  have hS5 := hG5.sk.so
  have hdef : spR l (xn : Int) = spF (rowE l) (tm (rowE l)) 150 (xn : Int) (-1) 0 (List.replicate t []) := by rw [spR, ht]; rfl
  rw [hdef]
  exact hS5
end Go.Proofs.Ytmhfkhlamnapdaa
end
section
open Go Go.HL
namespace Go.Proofs.Ytmhfkhlamnapdaa
theorem mapO_gen {α : Type} {f : HV → Option HV} {g : α → HV} : ∀ {l : List HV} {adj : List α}, l.length = adj.length → (∀ (j : Nat) v r, l[j]? = some v → adj[j]? = some r → f v = some (g r)) → mapO f l = some (adj.map g)
  | [], [], _, _ => rfl
  | v :: l, r :: adj, hl, h => by
    have h0 := h 0 v r rfl rfl
    have ih := mapO_gen (f := f) (g := g) (l := l) (adj := adj) (by simpa using hl) (fun j v r hv hr => h (j + 1) v r hv hr)
    simp only [mapO, h0, ih, List.map_cons]
theorem SO.vw {ob t : Nat} {R : Rds} {H : Heap} (h : SO ob t R H) : view H ob 0 t t 1 = some (prsF ob R) := by
  obtain ⟨mx, _, h1⟩ := h.out
  simp only [view, h1, prsF_len, h.len]
  rw [if_pos ⟨trivial, by omega, trivial⟩, List.drop_zero, List.take_of_length_le (by rw [prsF_len, h.len]; omega)]
theorem SO.vr {ob t : Nat} {R : Rds} {H : Heap} (h : SO ob t R H) {j : Nat} {r : List (Int × Int)} (hj : R[j]? = some r) : view H (ob + 1 + j) 0 r.length r.length 2 = some (r.map encP) := by
  simp only [view, h.rows j r hj, List.length_map]
  rw [if_pos ⟨trivial, by omega, trivial⟩]
  simp [List.take_of_length_le]
def spreadF (n : Int) (l : List (Int × Int)) (x : Int) : Rds × Int := if treeOk n l = true ∧ (0 ≤ x ∧ x ≤ n - 1) then (spR l x, 0) else ([], 2)
theorem spread_bad {n : Int} {l : List (Int × Int)} {x : Int} (h : ¬ (treeOk n l = true ∧ (0 ≤ x ∧ x ≤ n - 1))) : ∃ E H, RunsTo Try.prog polS 31 B31 (args0 [.int .i64 n, .imm .arg 2 (l.map encP), .int .i64 x]) [] .ret (polS.keys 31) E H ∧
    resultsV Try.prog Try.f31 E H = some (.tuple [.imm .lit 1 [], .int .i64 2]) := by
  have a := sfd_a_0 0 n (l.map encP) x
  by_cases hg : ((1 ≤ n ∧ n ≤ 30) ∧ (l.length : Int) = n - 1) ∧ l.all (validB n) = true
  · obtain ⟨m, rfl⟩ : ∃ m : Nat, n = (m : Int) := ⟨n.toNat, by omega⟩
    have hw : IntKind.i64.wrap ((m : Int) - 1) = (m : Int) - 1 := by rw [wrapI64]; omega
    cases hb : farOk (adjOf m l) with
    | true =>
      have hok : treeOk (m : Int) l = true := by rw [treeOk, Bool.and_eq_true, decide_eq_true_eq]; exact ⟨hg, by rw [Int.toNat_natCast]; exact hb⟩
      have b := sfd_b_0 0 (m : Int) (l.map encP) x m _ (s46_ok hg true hb)
      have hx : ¬ (0 ≤ x ∧ x ≤ (m : Int) - 1) := fun hx => h ⟨hok, hx⟩
      have c := sfd_c_1 0 (m : Int) (l.map encP) x m ((adjOf m l).map rowO) (by rw [hw]; exact s49 _ _ _ false (decide_eq_false hx))
      have t2 := RunsTo.seq b (RunsTo.seq_out c (by simp) (c := sub [1, 1] B31) (b := sub [1, 1, 1] B31) (by kernel_rfl)) (c := sub [1] B31) (by kernel_rfl) (by kernel_rfl)
      exact ⟨_, _, RunsTo.seq a t2 (c := B31) (by kernel_rfl) (by kernel_rfl), by simp only [resultsV, res31, mapO, resultV]; rfl⟩
    | false =>
      have b := sfd_b_1 0 (m : Int) (l.map encP) x m _ (s46_ok hg false hb)
      have c := sfd_cf_0 0 (m : Int) (l.map encP) x m ((adjOf m l).map rowO)
      have t2 := RunsTo.seq b (RunsTo.seq_out c (by simp) (c := sub [1, 1] B31) (b := sub [1, 1, 1] B31) (by kernel_rfl)) (c := sub [1] B31) (by kernel_rfl) (by kernel_rfl)
      exact ⟨_, _, RunsTo.seq a t2 (c := B31) (by kernel_rfl) (by kernel_rfl), by simp only [resultsV, res31, mapO, resultV]; rfl⟩
  · have b := sfd_b_2 0 n (l.map encP) x (s46_bad hg)
    have c := sfd_cb_0 0 n (l.map encP) x
    have t2 := RunsTo.seq b (RunsTo.seq_out c (by simp) (c := sub [1, 1] B31) (b := sub [1, 1, 1] B31) (by kernel_rfl)) (c := sub [1] B31) (by kernel_rfl) (by kernel_rfl)
    exact ⟨_, _, RunsTo.seq a t2 (c := B31) (by kernel_rfl) (by kernel_rfl), by simp only [resultsV, res31, mapO, resultV]; rfl⟩
theorem spread_all (n : Int) (l : List (Int × Int)) (x : Int) : ∃ E H v, RunsTo Try.prog polS 31 B31 (args0 [.int .i64 n, .imm .arg 2 (l.map encP), .int .i64 x]) [] .ret (polS.keys 31) E H ∧ resultsV Try.prog Try.f31 E H = some v ∧
    ((treeOk n l = true ∧ (0 ≤ x ∧ x ≤ n - 1)) ∧ (∃ ob, v = .tuple [.sl ob 0 (spR l x).length (some (spR l x).length) (spR l x).length 1, .int .i64 0] ∧ SO ob (spR l x).length (spR l x) H) ∨ ¬ (treeOk n l = true ∧ (0 ≤ x ∧ x ≤ n - 1)) ∧ v = .tuple [.imm .lit 1 [], .int .i64 2]) := by
  by_cases h : treeOk n l = true ∧ (0 ≤ x ∧ x ≤ n - 1)
  · obtain ⟨m, rfl⟩ : ∃ m : Nat, n = (m : Int) := ⟨n.toNat, by omega⟩
    obtain ⟨E, H, ob, h1, h2, h3⟩ := spread_run h.1 h.2
    exact ⟨E, H, _, h1, h2, .inl ⟨h, ob, rfl, h3⟩⟩
  · obtain ⟨E, H, h1, h2⟩ := spread_bad h
    exact ⟨E, H, _, h1, h2, .inr ⟨h, rfl⟩⟩
end Go.Proofs.Ytmhfkhlamnapdaa
end
section
open Go Go.HL
namespace Go.Proofs.Ytmhfkhlamnapdaa
theorem primOk_deep {P : Program} {pol : Pol} (dp : Bool) {g : FuncId} {fn : Func} {cd : Code} {F : List HV → Option HV} (hm : P.follows .mixedOrders = true) (hS : ∀ n, CallSound P (callN P pol n)) (hf : P.funcs[g]? = some fn) (hb : fn.body = some cd) (hok : fnOk pol g fn = true)
    (hres : (fn.results.toList.all fun r => match r with | .tmp t => (pol.keys g).contains t | .cell t _ => (pol.keys g).contains t) = true)
    (h : ∀ (args : List HV) (res : HV), F args = some res → ∃ x E H' v, RunsTo P pol g cd (args0 args) [] x (pol.keys g) E H' ∧ (∀ i, x ≠ .exit i) ∧ resultsV P fn E H' = some v ∧ toRes H' dp v = some res) : PrimOk P g F := by
  intro args res hF c w lo rargs hR hl hV
  obtain ⟨x, E, H', v, ⟨m, h1⟩, hx, h2, h3⟩ := h args res hF
  obtain ⟨e1, g1, g2⟩ := h1 m m (Nat.le_refl m) (Nat.le_refl m)
  subst g2
  rw [resultsV_restr hres] at h2
  refine Calls.mono (body_ok hm (hS m) hf hb hok (Rel.nil w) hl hV g1 hx h2) ?_
  rintro ex w2 ⟨rv, c2, rfl, k1, k2, k3, k4⟩
  subst k1
  obtain ⟨c', j1, j2, j3, j4⟩ := recv_ok hR (WChg.of_nil k4) k2 k3 h3
  exact ⟨rv, c', rfl, j1, j2, j3, j4⟩
def encD (r : List (Int × Int)) : HV := .own 2 (r.map encP)
def blkOf : HV → Nat | .sl b _ _ _ _ _ => b | _ => 0
theorem flat_one {f : HV → List Nat} {g : HV → Nat} : ∀ {l : List HV}, (∀ v, v ∈ l → f v = [g v]) → l.flatMap f = l.map g
  | [], _ => rfl
  | v :: l, h => by rw [List.flatMap_cons, h v (by simp), flat_one (fun u hu => h u (by simp [hu]))]; rfl
theorem prsF_at {ob : Nat} {R : Rds} {i : Nat} (h : i < (prsF ob R).length) : ∃ r, R[i]? = some r ∧ (prsF ob R)[i] = prOf ob i r := by
  have hi : i < R.length := by rwa [prsF_len] at h
  refine ⟨R[i], List.getElem?_eq_getElem hi, ?_⟩
  have := prsF_get ob R i
  rw [List.getElem?_eq_getElem hi, List.getElem?_eq_getElem h] at this
  exact Option.some.inj this
theorem toRes_SOd {ob t : Nat} {R : Rds} {H : Heap} (h : SO ob t R H) (e : Int) : toRes H true (.tuple [.sl ob 0 t (some t) t 1, .int .i64 e]) = some (.tuple [.own 1 (R.map encD), .int .i64 e]) := by
  obtain ⟨mx, _, h1⟩ := h.out
  have hfl : (prsF ob R).flatMap (owned1 H) = (prsF ob R).map blkOf := flat_one fun v hv => by
    obtain ⟨i, hi, rfl⟩ := List.getElem_of_mem hv
    obtain ⟨r, h2, h3⟩ := prsF_at hi
    rw [h3]
    simp only [owned1, prOf, h.rows i r h2, blkOf]
  have ho : ownedAll H true (.tuple [.sl ob 0 t (some t) t 1, .int .i64 e]) = ob :: (prsF ob R).map blkOf := by
    have e1 : owned H true (.sl ob 0 t (some t) t 1) = ob :: (prsF ob R).map blkOf := by
      simp only [owned, h1, if_true, h.vw, hfl]
    simp only [ownedAll, List.flatMap_cons, List.flatMap_nil, cellsOf, e1]
    simp [owned]
  have hnd : (ob :: (prsF ob R).map blkOf).Nodup := by
    rw [List.nodup_cons]
    refine ⟨fun hm => ?_, ?_⟩
    · obtain ⟨v, hv, e⟩ := List.mem_map.1 hm
      obtain ⟨i, hi, rfl⟩ := List.getElem_of_mem hv
      obtain ⟨r, _, h3⟩ := prsF_at hi
      rw [h3] at e
      simp only [prOf, blkOf] at e
      omega
    · unfold List.Nodup
      rw [List.pairwise_map, List.pairwise_iff_getElem]
      intro i j hi hj hij
      obtain ⟨r, _, h3⟩ := prsF_at hi
      obtain ⟨r', _, h4⟩ := prsF_at hj
      rw [h3, h4]
      simp only [prOf, blkOf]
      omega
  have hr : ∀ no, resCell H no true (.sl ob 0 t (some t) t 1) = some (.own 1 (R.map encD)) := fun no => by
    simp only [resCell, h1, if_true, h.vw]
    have := mapO_gen (f := resElem H no true) (g := encD) (l := prsF ob R) (adj := R) (prsF_len ob R) (fun j v r hv hr => by
      rw [prsF_get, hr] at hv
      cases hv
      simp only [resElem, prOf, h.rows j r hr, if_true, h.vr hr, pairs_res]
      rfl)
    simp only [this]
  simp only [toRes, ho, hnd, if_true, mapO, resVal, hr]
  rfl
def spread31d : List HV → Option HV
  | [.int .i64 n, .imm .arg 2 lc, .int .i64 x] => match mapO decP lc with | some l => some (.tuple [.own 1 ((spreadF n l x).1.map encD), .int .i64 (spreadF n l x).2]) | none => none
  | _ => none
theorem spread31d_ok : PrimOk Try.prog 31 spread31d := by
  refine primOk_deep (pol := polS) true (fn := Try.f31) (cd := B31) follows_mixed soundS (by kernel_rfl) (by kernel_rfl) (fnok polS.prim _ _ (by kernel_rfl)) (by kernel_rfl) ?_
  intro args res h
  unfold spread31d at h
  split at h
  · rename_i n lc x
    split at h
    · rename_i l hl
      cases h
      rw [mapO_inv decP_inv hl]
      obtain ⟨E, H, v, h1, h2, h3⟩ := spread_all n l x
      refine ⟨_, E, H, v, h1, by simp, h2, ?_⟩
      rcases h3 with ⟨h4, ob, rfl, h5⟩ | ⟨h4, rfl⟩
      · rw [spreadF, if_pos h4]
        exact toRes_SOd h5 0
      · rw [spreadF, if_neg h4]
        rfl
    · cases h
  · cases h
theorem rows_get : ∀ (R : Rds) (n j : Nat), (recvRows (R.map encD) n).1[j]? = (R[j]?).map (fun r => HV.sl (n + j) 0 r.length none r.length 2) ∧ (recvRows (R.map encD) n).2[j]? = (R[j]?).map fun r => Blk.arr 2 (r.map encP) true 0
  | [], _, _ => by simp [recvRows]
  | r :: R, n, 0 => by simp [recvRows, encD]
  | r :: R, n, j + 1 => by
    have h := rows_get R (n + 1) j
    simp only [List.map_cons, encD, recvRows, List.getElem?_cons_succ]
    rw [show n + (j + 1) = n + 1 + j by omega]
    exact h
theorem rows_fst (R : Rds) (ob : Nat) : (recvRows (R.map encD) (ob + 1)).1 = prsF ob R := by
  apply List.ext_getElem?
  intro j
  rw [(rows_get R (ob + 1) j).1, prsF_get]
  rfl
theorem rows_snd (R : Rds) (n : Nat) : (recvRows (R.map encD) n).2 = R.map fun r => Blk.arr 2 (r.map encP) true 0 := by
  apply List.ext_getElem?
  intro j
  rw [(rows_get R n j).2, List.getElem?_map]
theorem recv_rounds (R : Rds) (e : Int) (H : Heap) : ∃ H', recv (.tuple [.own 1 (R.map encD), .int .i64 e]) H = (.tuple [.sl H.length 0 R.length none R.length 1, .int .i64 e], H') ∧ SO H.length R.length R H' ∧ H'.length = H.length + 1 + R.length ∧ ∀ k, k < H.length → H'[k]? = H[k]? := by
  cases R with
  | nil =>
    refine ⟨H ++ [.arr 1 [] true 0], rfl, ⟨⟨0, Nat.zero_le _, by rw [List.getElem?_append_right (Nat.le_refl _)]; simp [prsF]⟩, fun j r hj => by simp at hj, rfl⟩, by simp, fun k hk => by rw [List.getElem?_append_left hk]⟩
  | cons r R =>
    have hany : ((r :: R).map encD).any isOwn = true := by simp [encD, isOwn]
    refine ⟨H ++ [.arr 1 (prsF H.length (r :: R)) true (H.length + 1 + (r :: R).length)] ++ (r :: R).map (fun r => Blk.arr 2 (r.map encP) true 0), ?_, ⟨⟨_, Nat.le_refl _, ?_⟩, fun j q hj => ?_, rfl⟩, by simp; omega, fun k hk => by rw [List.append_assoc, List.getElem?_append_left hk]⟩
    · simp only [recv, recvVals, recvVal, recvCell, hany, if_true, List.length_map, rows_fst, rows_snd]
    · rw [List.getElem?_append_left (by simp), List.getElem?_append_right (Nat.le_refl _)]; simp
    · rw [List.getElem?_append_right (by simp), List.getElem?_map]
      have e : H.length + 1 + j - (H ++ [Blk.arr 1 (prsF H.length (r :: R)) true (H.length + 1 + (r :: R).length)]).length = j := by simp
      rw [e, hj]; rfl
end Go.Proofs.Ytmhfkhlamnapdaa
end
section
open Go Go.HL
namespace Go.Proofs.Ytmhfkhlamnapdaa
set_option maxRecDepth 100000
noncomputable def B32 : Code := Try.f32.body.getD .skip
abbrev env32 (v0 v1 v4 v5 : HV) : Env := [(0, v0), (1, v1), (4, v4), (5, v5)]
theorem pp_a_0 (la lb : List HV) : RunsTo Try.prog pol 32 (sub [0] B32) [(0, .imm .arg 2 la), (1, .imm .arg 2 lb)] [] .normal (pol.keys 32) (env32 (.imm .arg 2 la) (.imm .arg 2 lb) (.bool false) .undef) [] :=
  RunsTo.hin 0 60 [] fun kf hk => ⟨_, by kernel_rfl, .nil⟩
theorem pp_b_0 (la lb : List HV)(g0 : (la.length : Int) = (lb.length : Int)) : RunsTo Try.prog pol 32 (sub [1, 0] B32) (env32 (.imm .arg 2 la) (.imm .arg 2 lb) (.bool false) .undef) [] .normal (pol.keys 32) (env32 (.imm .arg 2 la) (.imm .arg 2 lb) (.bool false) .undef) [] :=
  RunsTo.hin 0 60 [⟨1, 4, .bool false, []⟩] fun kf hk => ⟨_, by kernel_rfl, (oB [] (congrArg not (decide_eq_true g0)) .nil)⟩
theorem pp_b_1 (la lb : List HV)(g0 : ¬ ((la.length : Int) = (lb.length : Int))) : RunsTo Try.prog pol 32 (sub [1, 0] B32) (env32 (.imm .arg 2 la) (.imm .arg 2 lb) (.bool false) .undef) [] .ret (pol.keys 32) (env32 (.imm .arg 2 la) (.imm .arg 2 lb) (.bool false) .undef) [] :=
  RunsTo.hin 0 60 [⟨1, 4, .bool true, []⟩] fun kf hk => ⟨_, by kernel_rfl, (oB [] (congrArg not (decide_eq_false g0)) .nil)⟩
theorem pp_c_0 (la lb : List HV) : RunsTo Try.prog pol 32 (sub [1, 1, 0, 0] B32) (env32 (.imm .arg 2 la) (.imm .arg 2 lb) (.bool false) .undef) [] .normal (pol.keys 32) (env32 (.imm .arg 2 la) (.imm .arg 2 lb) (.bool false) (.i 0)) [] :=
  RunsTo.hin 0 60 [] fun kf hk => ⟨_, by kernel_rfl, .nil⟩
theorem pp_l_0 (la lb : List HV) (j : Nat) (x0 : Int) (x1 : Int) (x2 : Int) (x3 : Int) (g0 : (j : Int) < (la.length : Int)) (g1 : idxV Try.prog 22 (.imm .arg 2 la) (.i (j : Int)) = some (.vptr (.agg [.i x0, .i x1]))) (g2 : idxV Try.prog 22 (.imm .arg 2 lb) (.i (j : Int)) = some (.vptr (.agg [.i x2, .i x3]))) (g3 : binV Try.prog .neq 33 (.agg [.i x0, .i x1]) (.agg [.i x2, .i x3]) = some (.bool true)) : RunsTo Try.prog pol 32 (sub [1, 1, 0, 1, 0, 0] B32) (env32 (.imm .arg 2 la) (.imm .arg 2 lb) (.bool false) (.i (j : Int))) [] .ret (pol.keys 32) (env32 (.imm .arg 2 la) (.imm .arg 2 lb) (.bool false) (.i (j : Int))) [] :=
  RunsTo.hin 0 60 [⟨4, 3, .bool true, []⟩, ⟨6, 2, .vptr (.agg [.i x0, .i x1]), []⟩, ⟨6, 6, .vptr (.agg [.i x2, .i x3]), []⟩, ⟨6, 8, .bool true, []⟩] fun kf hk => ⟨_, by kernel_rfl, (oB [] (decide_eq_true g0) (oP [] g1 (oP [] g2 (oP [] g3 .nil))))⟩
theorem pp_l_1 (la lb : List HV) (j : Nat) (x0 : Int) (x1 : Int) (x2 : Int) (x3 : Int) (g0 : (j : Int) < (la.length : Int)) (g1 : idxV Try.prog 22 (.imm .arg 2 la) (.i (j : Int)) = some (.vptr (.agg [.i x0, .i x1]))) (g2 : idxV Try.prog 22 (.imm .arg 2 lb) (.i (j : Int)) = some (.vptr (.agg [.i x2, .i x3]))) (g3 : binV Try.prog .neq 33 (.agg [.i x0, .i x1]) (.agg [.i x2, .i x3]) = some (.bool false)) : RunsTo Try.prog pol 32 (sub [1, 1, 0, 1, 0, 0] B32) (env32 (.imm .arg 2 la) (.imm .arg 2 lb) (.bool false) (.i (j : Int))) [] .normal (pol.keys 32) (env32 (.imm .arg 2 la) (.imm .arg 2 lb) (.bool false) (.i (IntKind.i64.wrap ((j : Int) + 1)))) [] :=
  RunsTo.hin 0 60 [⟨4, 3, .bool true, []⟩, ⟨6, 2, .vptr (.agg [.i x0, .i x1]), []⟩, ⟨6, 6, .vptr (.agg [.i x2, .i x3]), []⟩, ⟨6, 8, .bool false, []⟩] fun kf hk => ⟨_, by kernel_rfl, (oB [] (decide_eq_true g0) (oP [] g1 (oP [] g2 (oP [] g3 .nil))))⟩
theorem pp_l_2 (la lb : List HV) (j : Nat)(g0 : ¬ ((j : Int) < (la.length : Int))) : RunsTo Try.prog pol 32 (sub [1, 1, 0, 1, 0, 0] B32) (env32 (.imm .arg 2 la) (.imm .arg 2 lb) (.bool false) (.i (j : Int))) [] (.exit 0) (pol.keys 32) (env32 (.imm .arg 2 la) (.imm .arg 2 lb) (.bool false) (.i (j : Int))) [] :=
  RunsTo.hin 0 60 [⟨4, 3, .bool false, []⟩] fun kf hk => ⟨_, by kernel_rfl, (oB [] (decide_eq_false g0) .nil)⟩
theorem pp_z_0 (la lb : List HV) (j : Nat) : RunsTo Try.prog pol 32 (sub [1, 1, 1] B32) (env32 (.imm .arg 2 la) (.imm .arg 2 lb) (.bool false) (.i (j : Int))) [] .ret (pol.keys 32) (env32 (.imm .arg 2 la) (.imm .arg 2 lb) (.bool true) (.i (j : Int))) [] :=
  RunsTo.hin 0 60 [] fun kf hk => ⟨_, by kernel_rfl, .nil⟩
end Go.Proofs.Ytmhfkhlamnapdaa
end
section
open Go Go.HL
namespace Go.Proofs.Ytmhfkhlamnapdaa
def pairs32 : List HV → Option HV
  | [.imm .arg 2 la, .imm .arg 2 lb] =>
    match mapO decP la, mapO decP lb with
    | some a, some b => if a.length ≤ 1000 then some (.bool (decide (a = b))) else none
    | _, _ => none
  | _ => none
theorem res32 : Try.f32.results.toList = [.tmp 4] := by kernel_rfl
theorem pair_neq (a b c d : Int) : binV Try.prog .neq 33 (.agg [.int .i64 a, .int .i64 b]) (.agg [.int .i64 c, .int .i64 d]) = some (.bool (!decide ((a, b) = (c, d)))) := by
  have h1 : plainCells Try.prog 33 [.int .i64 a, .int .i64 b] = true := by kernel_rfl
  have h2 : Try.prog.eqGuardType Try.prog.depth 33 = false := by kernel_rfl
  have h3 : tyAgg Try.prog 33 = true := by kernel_rfl
  simp only [binV, h1, h2, h3, aggEq, scEq]
  by_cases e1 : a = c <;> by_cases e2 : b = d <;> simp [e1, e2]
abbrev ppE (la lb : List HV) (j : Nat) : Env := env32 (.imm .arg 2 la) (.imm .arg 2 lb) (.bool false) (.int .i64 (j : Int))
theorem pairs_loop (a b : List (Int × Int)) (hl : a.length = b.length) (hl2 : a.length ≤ 1000) : ∀ (d j : Nat), j + d = a.length →
    ∃ x E, RunsTo Try.prog pol 32 (sub [1, 1, 0, 1, 0] B32) (ppE (a.map encP) (b.map encP) j) [] x (pol.keys 32) E [] ∧
      ((a.drop j = b.drop j ∧ x = .exit 0 ∧ E = ppE (a.map encP) (b.map encP) a.length) ∨ (a.drop j ≠ b.drop j ∧ x = .ret ∧ E.get 4 = .bool false)) := by
  intro d
  induction d with
  | zero =>
    intro j hj
    have hj : j = a.length := by omega
    subst hj
    exact ⟨_, _, RunsTo.loop_out (pp_l_2 (a.map encP) (b.map encP) a.length (by simp)) (by simp) (by kernel_rfl) (by kernel_rfl), .inl ⟨by rw [List.drop_length, hl, List.drop_length], rfl, rfl⟩⟩
  | succ d ih =>
    intro j hj
    have hja : j < a.length := by omega
    have hjb : j < b.length := by omega
    have ga : (a.map encP)[j]? = some (encP a[j]) := by rw [List.getElem?_map, List.getElem?_eq_getElem hja]; rfl
    have gb : (b.map encP)[j]? = some (encP b[j]) := by rw [List.getElem?_map, List.getElem?_eq_getElem hjb]; rfl
    have g1 : idxV Try.prog 22 (.imm .arg 2 (a.map encP)) (.int .i64 (j : Int)) = some (.vptr (.agg [.int .i64 a[j].1, .int .i64 a[j].2])) := idx_imm u22 z33 (by omega) (by rw [Int.toNat_natCast]; exact ga)
    have g2 : idxV Try.prog 22 (.imm .arg 2 (b.map encP)) (.int .i64 (j : Int)) = some (.vptr (.agg [.int .i64 b[j].1, .int .i64 b[j].2])) := idx_imm u22 z33 (by omega) (by rw [Int.toNat_natCast]; exact gb)
    have g3 := pair_neq a[j].1 a[j].2 b[j].1 b[j].2
    rw [List.drop_eq_getElem_cons hja, List.drop_eq_getElem_cons hjb]
    by_cases he : a[j] = b[j]
    · obtain ⟨x, E, h1, h2⟩ := ih (j + 1) (by omega)
      have s1 := pp_l_1 (a.map encP) (b.map encP) j _ _ _ _ (by simp; omega) g1 g2 (by rw [g3, decide_eq_true (show (a[j].1, a[j].2) = (b[j].1, b[j].2) from he)]; rfl)
      rw [wrap_succ (by omega)] at s1
      refine ⟨x, E, RunsTo.loop s1 (by kernel_rfl) rfl h1 rfl (by kernel_rfl) (by kernel_rfl), ?_⟩
      rw [he]
      simpa only [List.cons.injEq, true_and, ne_eq] using h2
    · have s1 := pp_l_0 (a.map encP) (b.map encP) j _ _ _ _ (by simp; omega) g1 g2 (by rw [g3, decide_eq_false (show ¬ (a[j].1, a[j].2) = (b[j].1, b[j].2) from fun h => he h)]; rfl)
      exact ⟨_, _, RunsTo.loop_out s1 (by simp) (by kernel_rfl) (by kernel_rfl), .inr ⟨fun h => he (List.cons.inj h).1, rfl, rfl⟩⟩
theorem pairs_ok : PrimOk Try.prog 32 pairs32 := by
  refine primOk_pure (pol := pol) (fn := Try.f32) (cd := B32) follows_mixed sound (by kernel_rfl) (by kernel_rfl) (fnok pol.prim _ _ (by kernel_rfl)) (by kernel_rfl) ?_
  intro args res h
  unfold pairs32 at h
  split at h
  · rename_i la lb
    split at h
    · rename_i a b ha hb
      split at h
      · rename_i hlen
        cases h
        rw [mapO_inv decP_inv ha, mapO_inv decP_inv hb]
        have a1 := pp_a_0 (a.map encP) (b.map encP)
        by_cases hl : a.length = b.length
        · have b1 := pp_b_0 (a.map encP) (b.map encP) (by simp [hl])
          have c1 := pp_c_0 (a.map encP) (b.map encP)
          obtain ⟨x, E, h1, h2⟩ := pairs_loop a b hl hlen a.length 0 (by omega)
          rw [List.drop_zero, List.drop_zero] at h2
          rcases h2 with ⟨k1, rfl, rfl⟩ | ⟨k1, rfl, k2⟩
          · have t1 := RunsTo.seq c1 (RunsTo.block_exit (c := sub [1, 1, 0, 1] B32) h1 (by kernel_rfl)) (c := sub [1, 1, 0] B32) (by kernel_rfl) (by kernel_rfl)
            have t2 := RunsTo.seq t1 (pp_z_0 (a.map encP) (b.map encP) a.length) (c := sub [1, 1] B32) (by kernel_rfl) (by kernel_rfl)
            have t3 := RunsTo.seq b1 t2 (c := sub [1] B32) (by kernel_rfl) (by kernel_rfl)
            have t4 := RunsTo.seq a1 t3 (c := B32) (by kernel_rfl) (by kernel_rfl)
            exact ⟨_, _, _, .bool (decide (a = b)), t4, by simp, by rw [decide_eq_true k1]; simp only [resultsV, res32]; rfl, rfl⟩
          · have t1 := RunsTo.seq c1 (RunsTo.block_ret (c := sub [1, 1, 0, 1] B32) (i := 0) h1 (by kernel_rfl)) (c := sub [1, 1, 0] B32) (by kernel_rfl) (by kernel_rfl)
            have t2 := RunsTo.seq_out t1 (by simp) (c := sub [1, 1] B32) (b := sub [1, 1, 1] B32) (by kernel_rfl)
            have t3 := RunsTo.seq b1 t2 (c := sub [1] B32) (by kernel_rfl) (by kernel_rfl)
            have t4 := RunsTo.seq a1 t3 (c := B32) (by kernel_rfl) (by kernel_rfl)
            exact ⟨_, _, _, .bool (decide (a = b)), t4, by simp, by rw [decide_eq_false k1]; simp only [resultsV, res32, mapO, resultV, k2], rfl⟩
        · have b1 := pp_b_1 (a.map encP) (b.map encP) (by simp; omega)
          have t3 := RunsTo.seq_out b1 (by simp) (c := sub [1] B32) (b := sub [1, 1] B32) (by kernel_rfl)
          have t4 := RunsTo.seq a1 t3 (c := B32) (by kernel_rfl) (by kernel_rfl)
          exact ⟨_, _, _, .bool (decide (a = b)), t4, by simp, by rw [decide_eq_false (fun h => hl (by rw [h]))]; simp only [resultsV, res32]; rfl, rfl⟩
      · cases h
    · cases h
  · cases h
end Go.Proofs.Ytmhfkhlamnapdaa
end
section
open Go Go.HL
namespace Go.Proofs.Ytmhfkhlamnapdaa
def prim9 (g : FuncId) : Option (List HV → Option HV) :=
  if g == 19 then some awakeF else if g == 16 then some few16 else if g == 22 then some modF else if g == 23 then some tame23 else if g == 31 then some spread31d else if g == 25 then some far25 else if g == 17 then some centers17 else if g == 20 then some centers20 else if g == 32 then some pairs32 else if g == 30 then some complete30 else if g == 21 then some ints21 else none
def pol9 : Pol := { pol with prim := prim9, freeze := fun g r => !(g == 9 && r == 15) }
theorem prim9_ok (g : FuncId) (f : List HV → Option HV) (h : prim9 g = some f) : PrimOk Try.prog g f := by
  unfold prim9 at h
  split at h
  · rename_i hg; cases h; rw [eq_of_beq hg]; exact awake_prim
  split at h
  · rename_i hg; cases h; rw [eq_of_beq hg]; exact few_ok
  split at h
  · rename_i hg; cases h; rw [eq_of_beq hg]; exact mod_ok
  split at h
  · rename_i hg; cases h; rw [eq_of_beq hg]; exact tame_ok
  split at h
  · rename_i hg; cases h; rw [eq_of_beq hg]; exact spread31d_ok
  split at h
  · rename_i hg; cases h; rw [eq_of_beq hg]; exact far25_ok
  split at h
  · rename_i hg; cases h; rw [eq_of_beq hg]; exact centers17_ok
  split at h
  · rename_i hg; cases h; rw [eq_of_beq hg]; exact centers20_ok
  split at h
  · rename_i hg; cases h; rw [eq_of_beq hg]; exact pairs_ok
  split at h
  · rename_i hg; cases h; rw [eq_of_beq hg]; exact complete_ok
  split at h
  · rename_i hg; cases h; rw [eq_of_beq hg]; exact ints_ok
  · cases h
theorem fnOk_pol9 (g : FuncId) (fn : Func) : fnOk pol9 g fn = fnOk pol g fn := rfl
theorem sound9 (n : Nat) : CallSound Try.prog (callN Try.prog pol9 n) :=
  callN_ok follows_mixed (fun g fn h => by
    rw [fnOk_pol9]
    exact List.all_eq_true.1 fns_ok (fn, g) (by
      rw [List.mem_zipIdx_iff_getElem?]
      simpa using h)) prim9_ok n
end Go.Proofs.Ytmhfkhlamnapdaa
end
section
open Go Go.HL
namespace Go.Proofs.Ytmhfkhlamnapdaa
set_option maxRecDepth 100000
noncomputable def B9 : Code := Try.f9.body.getD .skip
abbrev env9 (v0 v1 v2 v6 v7 v8 v9 v10 v11 v12 v13 v15 v16 v17 v18 v19 v20 v21 v22 v23 v25 v26 : HV) : Env := [(0, v0), (1, v1), (2, v2), (6, v6), (7, v7), (8, v8), (9, v9), (10, v10), (11, v11), (12, v12), (13, v13), (15, v15), (16, v16), (17, v17), (18, v18), (19, v19), (20, v20), (21, v21), (22, v22), (23, v23), (25, v25), (26, v26)]
theorem ow_a_0 (n : Int) (la : List HV) (x : Int) : RunsTo Try.prog pol9 9 (sub [0] B9) [(0, .i n), (1, .imm .arg 1 la), (2, .i x)] [] .normal (pol9.keys 9) (env9 (.i n) (.imm .arg 1 la) (.i x) (.bool false) .undef .undef .undef .undef .undef .undef .undef .undef .undef .undef .undef .undef .undef .undef .undef .undef .undef .undef) [] :=
  RunsTo.hin 0 60 [] fun kf hk => ⟨_, by kernel_rfl, .nil⟩
theorem ow_b_0 (n : Int) (la : List HV) (x : Int) (r0 : Int) (g0 : ∀ kf, callN Try.prog pol9 (kf + 1) 22 [.i n, .i 29] [] = some (.i r0, [])) : RunsTo Try.prog pol9 9 (sub [1, 0] B9) (env9 (.i n) (.imm .arg 1 la) (.i x) (.bool false) .undef .undef .undef .undef .undef .undef .undef .undef .undef .undef .undef .undef .undef .undef .undef .undef .undef .undef) [] .normal (pol9.keys 9) (env9 (.i (IntKind.i64.wrap (2 + r0))) (.imm .arg 1 la) (.i x) (.bool false) .undef .undef .undef .undef .undef .undef .undef .undef .undef .undef .undef .undef .undef .undef .undef .undef .undef .undef) [] :=
  RunsTo.hin 0 60 [⟨1, 1, .i r0, []⟩] fun kf hk => ⟨_, by kernel_rfl, (oC (g0 kf) .nil)⟩
theorem ow_c_0 (n : Int) (la : List HV) (x : Int) (m : Nat) (els : List HV) (g0 : ∀ kf, callN Try.prog pol9 (kf + 1) 23 [.imm .arg 1 la, .i n] [] = some (.sl 0 0 m none m 2, [.arr 2 els true 0])) : RunsTo Try.prog pol9 9 (sub [1, 1, 0] B9) (env9 (.i n) (.imm .arg 1 la) (.i x) (.bool false) .undef .undef .undef .undef .undef .undef .undef .undef .undef .undef .undef .undef .undef .undef .undef .undef .undef .undef) [] .normal (pol9.keys 9) (env9 (.i n) (.imm .arg 1 la) (.i x) (.bool false) (.sl 0 0 m none m 2) .undef .undef .undef .undef .undef .undef .undef .undef .undef .undef .undef .undef .undef .undef .undef .undef .undef) [.arr 2 els true 0] :=
  RunsTo.hin 0 60 [⟨2, 2, .sl 0 0 m none m 2, [.arr 2 els true 0]⟩] fun kf hk => ⟨_, by kernel_rfl, (oC (g0 kf) .nil)⟩
theorem ow_d_0 (n : Int) (la : List HV) (x : Int) (m : Nat) (els : List HV) (m2 : Nat) (els2 : List HV) (g0 : ∀ kf, callN Try.prog pol9 (kf + 1) 16 [.sl 0 0 m none m 2] [.arr 2 els true 0] = some (.sl 1 0 m2 none m2 2, [.arr 2 els true 0, .arr 2 els2 true 0])) : RunsTo Try.prog pol9 9 (sub [1, 1, 1, 0] B9) (env9 (.i n) (.imm .arg 1 la) (.i x) (.bool false) (.sl 0 0 m none m 2) .undef .undef .undef .undef .undef .undef .undef .undef .undef .undef .undef .undef .undef .undef .undef .undef .undef) [.arr 2 els true 0] .normal (pol9.keys 9) (env9 (.i n) (.imm .arg 1 la) (.i x) (.bool false) (.sl 0 0 m none m 2) (.sl 1 0 m2 none m2 2) .undef .undef .undef .undef .undef .undef .undef .undef .undef .undef .undef .undef .undef .undef .undef .undef) [.arr 2 els true 0, .arr 2 els2 true 0] :=
  RunsTo.hin 0 60 [⟨3, 1, .sl 1 0 m2 none m2 2, [.arr 2 els true 0, .arr 2 els2 true 0]⟩] fun kf hk => ⟨_, by kernel_rfl, (oC (g0 kf) .nil)⟩
theorem ow_e_0 (n : Int) (la : List HV) (x : Int) (m : Nat) (els : List HV) (m2 : Nat) (els2 : List HV) (r0 : Int) (g0 : ∀ kf, callN Try.prog pol9 (kf + 1) 22 [.i x, .i n] [.arr 2 els true 0, .arr 2 els2 true 0] = some (.i r0, [.arr 2 els true 0, .arr 2 els2 true 0])) : RunsTo Try.prog pol9 9 (sub [1, 1, 1, 1, 0] B9) (env9 (.i n) (.imm .arg 1 la) (.i x) (.bool false) (.sl 0 0 m none m 2) (.sl 1 0 m2 none m2 2) .undef .undef .undef .undef .undef .undef .undef .undef .undef .undef .undef .undef .undef .undef .undef .undef) [.arr 2 els true 0, .arr 2 els2 true 0] .normal (pol9.keys 9) (env9 (.i n) (.imm .arg 1 la) (.i r0) (.bool false) (.sl 0 0 m none m 2) (.sl 1 0 m2 none m2 2) .undef .undef .undef .undef .undef .undef .undef .undef .undef .undef .undef .undef .undef .undef .undef .undef) [.arr 2 els true 0, .arr 2 els2 true 0] :=
  RunsTo.hin 0 60 [⟨4, 2, .i r0, [.arr 2 els true 0, .arr 2 els2 true 0]⟩] fun kf hk => ⟨_, by kernel_rfl, (oC (g0 kf) .nil)⟩
theorem ow_f_0 (n : Int) (la : List HV) (x : Int) (m m2 : Nat) (H : Heap) (ob p : Nat) (e : Int) (H0 : Heap) (g0 : ∀ kf, callN Try.prog pol9 (kf + 1) 31 [.i n, .sl 0 0 m none m 2, .i x] H = some (.tuple [.sl ob 0 p none p 1, .i e], H0)) : RunsTo Try.prog pol9 9 (sub [1, 1, 1, 1, 1, 0] B9) (env9 (.i n) (.imm .arg 1 la) (.i x) (.bool false) (.sl 0 0 m none m 2) (.sl 1 0 m2 none m2 2) .undef .undef .undef .undef .undef .undef .undef .undef .undef .undef .undef .undef .undef .undef .undef .undef) H .normal (pol9.keys 9) (env9 (.i n) (.imm .arg 1 la) (.i x) (.bool false) (.sl 0 0 m none m 2) (.sl 1 0 m2 none m2 2) (.sl ob 0 p none p 1) (.i e) .undef .undef .undef .undef .undef .undef .undef .undef .undef .undef .undef .undef .undef .undef) H0 :=
  RunsTo.hin 0 60 [⟨5, 3, .tuple [.sl ob 0 p none p 1, .i e], H0⟩] fun kf hk => ⟨_, by kernel_rfl, (oC (g0 kf) .nil)⟩
theorem ow_g_0 (n : Int) (la : List HV) (x : Int) (m m2 : Nat) (H : Heap) (ob p : Nat) (e : Int) (fb q : Nat) (f : Int) (H0 : Heap) (g0 : ∀ kf, callN Try.prog pol9 (kf + 1) 25 [.i n, .sl 0 0 m none m 2, .i x] H = some (.tuple [.sl fb 0 q none q 1, .i f], H0)) : RunsTo Try.prog pol9 9 (sub [1, 1, 1, 1, 1, 1, 0] B9) (env9 (.i n) (.imm .arg 1 la) (.i x) (.bool false) (.sl 0 0 m none m 2) (.sl 1 0 m2 none m2 2) (.sl ob 0 p none p 1) (.i e) .undef .undef .undef .undef .undef .undef .undef .undef .undef .undef .undef .undef .undef .undef) H .normal (pol9.keys 9) (env9 (.i n) (.imm .arg 1 la) (.i x) (.bool false) (.sl 0 0 m none m 2) (.sl 1 0 m2 none m2 2) (.sl ob 0 p none p 1) (.i e) (.sl fb 0 q none q 1) (.i f) .undef .undef .undef .undef .undef .undef .undef .undef .undef .undef .undef .undef) H0 :=
  RunsTo.hin 0 60 [⟨6, 3, .tuple [.sl fb 0 q none q 1, .i f], H0⟩] fun kf hk => ⟨_, by kernel_rfl, (oC (g0 kf) .nil)⟩
theorem ow_h_0 (n : Int) (la : List HV) (x : Int) (m m2 : Nat) (H : Heap) (ob p : Nat) (e : Int) (fb q : Nat) (f : Int) (cb u : Nat) (c gg : Int) (H0 : Heap) (g0 : ∀ kf, callN Try.prog pol9 (kf + 1) 17 [.i n, .sl 0 0 m none m 2] H = some (.tuple [.sl cb 0 u none u 1, .i c, .i gg], H0)) : RunsTo Try.prog pol9 9 (sub [1, 1, 1, 1, 1, 1, 1, 0] B9) (env9 (.i n) (.imm .arg 1 la) (.i x) (.bool false) (.sl 0 0 m none m 2) (.sl 1 0 m2 none m2 2) (.sl ob 0 p none p 1) (.i e) (.sl fb 0 q none q 1) (.i f) .undef .undef .undef .undef .undef .undef .undef .undef .undef .undef .undef .undef) H .normal (pol9.keys 9) (env9 (.i n) (.imm .arg 1 la) (.i x) (.bool false) (.sl 0 0 m none m 2) (.sl 1 0 m2 none m2 2) (.sl ob 0 p none p 1) (.i e) (.sl fb 0 q none q 1) (.i f) (.sl cb 0 u none u 1) (.i gg) .undef .undef .undef .undef .undef .undef .undef .undef .undef .undef) H0 :=
  RunsTo.hin 0 60 [⟨7, 2, .tuple [.sl cb 0 u none u 1, .i c, .i gg], H0⟩] fun kf hk => ⟨_, by kernel_rfl, (oC (g0 kf) .nil)⟩
theorem ow_i_0 (n : Int) (la : List HV) (x : Int) (m m2 : Nat) (H : Heap) (ob p : Nat) (e : Int) (fb q : Nat) (f : Int) (cb u : Nat) (c gg : Int) : RunsTo Try.prog pol9 9 (sub [1, 1, 1, 1, 1, 1, 1, 1, 0, 0] B9) (env9 (.i n) (.imm .arg 1 la) (.i x) (.bool false) (.sl 0 0 m none m 2) (.sl 1 0 m2 none m2 2) (.sl ob 0 p none p 1) (.i e) (.sl fb 0 q none q 1) (.i f) (.sl cb 0 u none u 1) (.i gg) .undef .undef .undef .undef .undef .undef .undef .undef .undef .undef) H .normal (pol9.keys 9) (env9 (.i n) (.imm .arg 1 la) (.i x) (.bool false) (.sl 0 0 m none m 2) (.sl 1 0 m2 none m2 2) (.sl ob 0 p none p 1) (.i e) (.sl fb 0 q none q 1) (.i f) (.sl cb 0 u none u 1) (.i gg) (.i 0) .undef .undef .undef .undef .undef .undef .undef .undef .undef) H :=
  RunsTo.hin 0 60 [] fun kf hk => ⟨_, by kernel_rfl, .nil⟩
theorem ow_j_0 (n : Int) (la : List HV) (x : Int) (m m2 : Nat) (H : Heap) (ob p : Nat) (e : Int) (fb q : Nat) (f : Int) (cb u : Nat) (c gg : Int) (i j xb z : Nat)(g0 : (i : Int) < (p : Int)) : RunsTo Try.prog pol9 9 (sub [1, 1, 1, 1, 1, 1, 1, 1, 0, 1, 0, 0, 0] B9) (env9 (.i n) (.imm .arg 1 la) (.i x) (.bool false) (.sl 0 0 m none m 2) (.sl 1 0 m2 none m2 2) (.sl ob 0 p none p 1) (.i e) (.sl fb 0 q none q 1) (.i f) (.sl cb 0 u none u 1) (.i gg) (.i (i : Int)) .undef .undef .undef .undef .undef .undef .undef .undef .undef) H .normal (pol9.keys 9) (env9 (.i n) (.imm .arg 1 la) (.i x) (.bool false) (.sl 0 0 m none m 2) (.sl 1 0 m2 none m2 2) (.sl ob 0 p none p 1) (.i e) (.sl fb 0 q none q 1) (.i f) (.sl cb 0 u none u 1) (.i gg) (.i (i : Int)) .undef .undef .undef .undef .undef .undef .undef .undef .undef) H :=
  RunsTo.hin 0 60 [⟨9, 3, .bool true, H⟩] fun kf hk => ⟨_, by kernel_rfl, (oB H (decide_eq_true g0) .nil)⟩
theorem ow_j_1 (n : Int) (la : List HV) (x : Int) (m m2 : Nat) (H : Heap) (ob p : Nat) (e : Int) (fb q : Nat) (f : Int) (cb u : Nat) (c gg : Int) (i j xb z : Nat)(g0 : ¬ ((i : Int) < (p : Int))) : RunsTo Try.prog pol9 9 (sub [1, 1, 1, 1, 1, 1, 1, 1, 0, 1, 0, 0, 0] B9) (env9 (.i n) (.imm .arg 1 la) (.i x) (.bool false) (.sl 0 0 m none m 2) (.sl 1 0 m2 none m2 2) (.sl ob 0 p none p 1) (.i e) (.sl fb 0 q none q 1) (.i f) (.sl cb 0 u none u 1) (.i gg) (.i (i : Int)) .undef .undef .undef .undef .undef .undef .undef .undef .undef) H (.exit 0) (pol9.keys 9) (env9 (.i n) (.imm .arg 1 la) (.i x) (.bool false) (.sl 0 0 m none m 2) (.sl 1 0 m2 none m2 2) (.sl ob 0 p none p 1) (.i e) (.sl fb 0 q none q 1) (.i f) (.sl cb 0 u none u 1) (.i gg) (.i (i : Int)) .undef .undef .undef .undef .undef .undef .undef .undef .undef) H :=
  RunsTo.hin 0 60 [⟨9, 3, .bool false, H⟩] fun kf hk => ⟨_, by kernel_rfl, (oB H (decide_eq_false g0) .nil)⟩
theorem ow_k_0 (n : Int) (la : List HV) (x : Int) (m m2 : Nat) (H : Heap) (ob p : Nat) (e : Int) (fb q : Nat) (f : Int) (cb u : Nat) (c gg : Int) (i j xb z : Nat) : RunsTo Try.prog pol9 9 (sub [1, 1, 1, 1, 1, 1, 1, 1, 0, 1, 0, 0, 1, 0, 0, 0] B9) (env9 (.i n) (.imm .arg 1 la) (.i x) (.bool false) (.sl 0 0 m none m 2) (.sl 1 0 m2 none m2 2) (.sl ob 0 p none p 1) (.i e) (.sl fb 0 q none q 1) (.i f) (.sl cb 0 u none u 1) (.i gg) (.i (i : Int)) .undef .undef .undef .undef .undef .undef .undef .undef .undef) H .normal (pol9.keys 9) (env9 (.i n) (.imm .arg 1 la) (.i x) (.bool false) (.sl 0 0 m none m 2) (.sl 1 0 m2 none m2 2) (.sl ob 0 p none p 1) (.i e) (.sl fb 0 q none q 1) (.i f) (.sl cb 0 u none u 1) (.i gg) (.i (i : Int)) (.i 0) .undef .undef .undef .undef .undef .undef .undef .undef) H :=
  RunsTo.hin 0 60 [] fun kf hk => ⟨_, by kernel_rfl, .nil⟩
theorem ow_l_0 (n : Int) (la : List HV) (x : Int) (m m2 : Nat) (H : Heap) (ob p : Nat) (e : Int) (fb q : Nat) (f : Int) (cb u : Nat) (c gg : Int) (i j xb z : Nat)(g0 : idxV Try.prog 44 (.sl ob 0 p none p 1) (.i (i : Int)) = some (.ptr ob i 0 p)) (g1 : loadV Try.prog H 22 (.ptr ob i 0 p) = some (.sl xb 0 z none z 2)) (g2 : (j : Int) < (z : Int)) : RunsTo Try.prog pol9 9 (sub [1, 1, 1, 1, 1, 1, 1, 1, 0, 1, 0, 0, 1, 0, 0, 1, 0, 0, 0] B9) (env9 (.i n) (.imm .arg 1 la) (.i x) (.bool false) (.sl 0 0 m none m 2) (.sl 1 0 m2 none m2 2) (.sl ob 0 p none p 1) (.i e) (.sl fb 0 q none q 1) (.i f) (.sl cb 0 u none u 1) (.i gg) (.i (i : Int)) (.i (j : Int)) .undef .undef .undef .undef .undef .undef .undef .undef) H .normal (pol9.keys 9) (env9 (.i n) (.imm .arg 1 la) (.i x) (.bool false) (.sl 0 0 m none m 2) (.sl 1 0 m2 none m2 2) (.sl ob 0 p none p 1) (.i e) (.sl fb 0 q none q 1) (.i f) (.sl cb 0 u none u 1) (.i gg) (.i (i : Int)) (.i (j : Int)) .undef .undef .undef .undef .undef .undef .undef .undef) H :=
  RunsTo.hin 0 60 [⟨12, 3, .ptr ob i 0 p, H⟩, ⟨12, 4, .sl xb 0 z none z 2, H⟩, ⟨12, 6, .bool true, H⟩] fun kf hk => ⟨_, by kernel_rfl, (oP H g0 (oP H g1 (oB H (decide_eq_true g2) .nil)))⟩
theorem ow_l_1 (n : Int) (la : List HV) (x : Int) (m m2 : Nat) (H : Heap) (ob p : Nat) (e : Int) (fb q : Nat) (f : Int) (cb u : Nat) (c gg : Int) (i j xb z : Nat)(g0 : idxV Try.prog 44 (.sl ob 0 p none p 1) (.i (i : Int)) = some (.ptr ob i 0 p)) (g1 : loadV Try.prog H 22 (.ptr ob i 0 p) = some (.sl xb 0 z none z 2)) (g2 : ¬ ((j : Int) < (z : Int))) : RunsTo Try.prog pol9 9 (sub [1, 1, 1, 1, 1, 1, 1, 1, 0, 1, 0, 0, 1, 0, 0, 1, 0, 0, 0] B9) (env9 (.i n) (.imm .arg 1 la) (.i x) (.bool false) (.sl 0 0 m none m 2) (.sl 1 0 m2 none m2 2) (.sl ob 0 p none p 1) (.i e) (.sl fb 0 q none q 1) (.i f) (.sl cb 0 u none u 1) (.i gg) (.i (i : Int)) (.i (j : Int)) .undef .undef .undef .undef .undef .undef .undef .undef) H (.exit 2) (pol9.keys 9) (env9 (.i n) (.imm .arg 1 la) (.i x) (.bool false) (.sl 0 0 m none m 2) (.sl 1 0 m2 none m2 2) (.sl ob 0 p none p 1) (.i e) (.sl fb 0 q none q 1) (.i f) (.sl cb 0 u none u 1) (.i gg) (.i (i : Int)) (.i (j : Int)) .undef .undef .undef .undef .undef .undef .undef .undef) H :=
  RunsTo.hin 0 60 [⟨12, 3, .ptr ob i 0 p, H⟩, ⟨12, 4, .sl xb 0 z none z 2, H⟩, ⟨12, 6, .bool false, H⟩] fun kf hk => ⟨_, by kernel_rfl, (oP H g0 (oP H g1 (oB H (decide_eq_false g2) .nil)))⟩
theorem ow_m_0 (n : Int) (la : List HV) (x : Int) (m m2 : Nat) (H : Heap) (ob p : Nat) (e : Int) (fb q : Nat) (f : Int) (cb u : Nat) (c gg : Int) (i j xb z : Nat) (H0 : Heap) (g0 : idxV Try.prog 44 (.sl ob 0 p none p 1) (.i (i : Int)) = some (.ptr ob i 0 p)) (g1 : loadV Try.prog H 22 (.ptr ob i 0 p) = some (.sl xb 0 z none z 2)) (g2 : idxV Try.prog 22 (.sl xb 0 z none z 2) (.i (j : Int)) = some (.ptr xb j 0 z)) (g3 : storeV Try.prog H 33 (.ptr xb j 0 z) (.agg [.i (-7), .i (-7)]) = some H0) : RunsTo Try.prog pol9 9 (sub [1, 1, 1, 1, 1, 1, 1, 1, 0, 1, 0, 0, 1, 0, 0, 1, 0, 0, 1, 0, 0] B9) (env9 (.i n) (.imm .arg 1 la) (.i x) (.bool false) (.sl 0 0 m none m 2) (.sl 1 0 m2 none m2 2) (.sl ob 0 p none p 1) (.i e) (.sl fb 0 q none q 1) (.i f) (.sl cb 0 u none u 1) (.i gg) (.i (i : Int)) (.i (j : Int)) .undef .undef .undef .undef .undef .undef .undef .undef) H .normal (pol9.keys 9) (env9 (.i n) (.imm .arg 1 la) (.i x) (.bool false) (.sl 0 0 m none m 2) (.sl 1 0 m2 none m2 2) (.sl ob 0 p none p 1) (.i e) (.sl fb 0 q none q 1) (.i f) (.sl cb 0 u none u 1) (.i gg) (.i (i : Int)) (.i (j : Int)) .undef .undef .undef .undef .undef .undef .undef .undef) H0 :=
  RunsTo.hin 0 60 [⟨14, 2, .ptr ob i 0 p, H⟩, ⟨14, 3, .sl xb 0 z none z 2, H⟩, ⟨14, 6, .ptr xb j 0 z, H⟩, ⟨14, 7, .tuple [], H0⟩] fun kf hk => ⟨_, by kernel_rfl, (oP H g0 (oP H g1 (oP H g2 (oS g3 .nil))))⟩
theorem ow_n_0 (n : Int) (la : List HV) (x : Int) (m m2 : Nat) (H : Heap) (ob p : Nat) (e : Int) (fb q : Nat) (f : Int) (cb u : Nat) (c gg : Int) (i j xb z : Nat) : RunsTo Try.prog pol9 9 (sub [1, 1, 1, 1, 1, 1, 1, 1, 0, 1, 0, 0, 1, 0, 0, 1, 0, 0, 1, 1] B9) (env9 (.i n) (.imm .arg 1 la) (.i x) (.bool false) (.sl 0 0 m none m 2) (.sl 1 0 m2 none m2 2) (.sl ob 0 p none p 1) (.i e) (.sl fb 0 q none q 1) (.i f) (.sl cb 0 u none u 1) (.i gg) (.i (i : Int)) (.i (j : Int)) .undef .undef .undef .undef .undef .undef .undef .undef) H .normal (pol9.keys 9) (env9 (.i n) (.imm .arg 1 la) (.i x) (.bool false) (.sl 0 0 m none m 2) (.sl 1 0 m2 none m2 2) (.sl ob 0 p none p 1) (.i e) (.sl fb 0 q none q 1) (.i f) (.sl cb 0 u none u 1) (.i gg) (.i (i : Int)) (.i (IntKind.i64.wrap ((j : Int) + 1))) .undef .undef .undef .undef .undef .undef .undef .undef) H :=
  RunsTo.hin 0 60 [] fun kf hk => ⟨_, by kernel_rfl, .nil⟩
theorem ow_o_0 (n : Int) (la : List HV) (x : Int) (m m2 : Nat) (H : Heap) (ob p : Nat) (e : Int) (fb q : Nat) (f : Int) (cb u : Nat) (c gg : Int) (i j xb z : Nat) : RunsTo Try.prog pol9 9 (sub [1, 1, 1, 1, 1, 1, 1, 1, 0, 1, 0, 0, 1, 1] B9) (env9 (.i n) (.imm .arg 1 la) (.i x) (.bool false) (.sl 0 0 m none m 2) (.sl 1 0 m2 none m2 2) (.sl ob 0 p none p 1) (.i e) (.sl fb 0 q none q 1) (.i f) (.sl cb 0 u none u 1) (.i gg) (.i (i : Int)) (.i (j : Int)) .undef .undef .undef .undef .undef .undef .undef .undef) H .normal (pol9.keys 9) (env9 (.i n) (.imm .arg 1 la) (.i x) (.bool false) (.sl 0 0 m none m 2) (.sl 1 0 m2 none m2 2) (.sl ob 0 p none p 1) (.i e) (.sl fb 0 q none q 1) (.i f) (.sl cb 0 u none u 1) (.i gg) (.i (IntKind.i64.wrap ((i : Int) + 1))) (.i (j : Int)) .undef .undef .undef .undef .undef .undef .undef .undef) H :=
  RunsTo.hin 0 60 [] fun kf hk => ⟨_, by kernel_rfl, .nil⟩
theorem ow_p_0 (n : Int) (la : List HV) (x : Int) (m m2 : Nat) (H : Heap) (ob p : Nat) (e : Int) (fb q : Nat) (f : Int) (cb u : Nat) (c gg : Int) (i j xb z : Nat) (ab : Nat) (H0 : Heap) (g0 : litV Try.prog false true 55 2 [(0, .sl fb 0 q none q 1), (1, .sl cb 0 u none u 1)] H = some (.sl ab 0 2 (some 2) 2 1, H0)) : RunsTo Try.prog pol9 9 (sub [1, 1, 1, 1, 1, 1, 1, 1, 1, 0] B9) (env9 (.i n) (.imm .arg 1 la) (.i x) (.bool false) (.sl 0 0 m none m 2) (.sl 1 0 m2 none m2 2) (.sl ob 0 p none p 1) (.i e) (.sl fb 0 q none q 1) (.i f) (.sl cb 0 u none u 1) (.i gg) (.i (i : Int)) .undef .undef .undef .undef .undef .undef .undef .undef .undef) H .normal (pol9.keys 9) (env9 (.i n) (.imm .arg 1 la) (.i x) (.bool false) (.sl 0 0 m none m 2) (.sl 1 0 m2 none m2 2) (.sl ob 0 p none p 1) (.i e) (.sl fb 0 q none q 1) (.i f) (.sl cb 0 u none u 1) (.i gg) (.i (i : Int)) .undef (.sl ab 0 2 (some 2) 2 1) .undef .undef .undef .undef .undef .undef .undef) H0 :=
  RunsTo.hin 0 60 [⟨15, 2, .sl ab 0 2 (some 2) 2 1, H0⟩] fun kf hk => ⟨_, by kernel_rfl, (oC (g0) .nil)⟩
theorem ow_q_0 (n : Int) (la : List HV) (x : Int) (m m2 : Nat) (H : Heap) (ob p : Nat) (e : Int) (fb q : Nat) (f : Int) (cb u : Nat) (c gg : Int) (i j xb z : Nat) (ab : Nat) : RunsTo Try.prog pol9 9 (sub [1, 1, 1, 1, 1, 1, 1, 1, 1, 1, 0, 0] B9) (env9 (.i n) (.imm .arg 1 la) (.i x) (.bool false) (.sl 0 0 m none m 2) (.sl 1 0 m2 none m2 2) (.sl ob 0 p none p 1) (.i e) (.sl fb 0 q none q 1) (.i f) (.sl cb 0 u none u 1) (.i gg) (.i (i : Int)) .undef (.sl ab 0 2 (some 2) 2 1) .undef .undef .undef .undef .undef .undef .undef) H .normal (pol9.keys 9) (env9 (.i n) (.imm .arg 1 la) (.i x) (.bool false) (.sl 0 0 m none m 2) (.sl 1 0 m2 none m2 2) (.sl ob 0 p none p 1) (.i e) (.sl fb 0 q none q 1) (.i f) (.sl cb 0 u none u 1) (.i gg) (.i (i : Int)) .undef (.sl ab 0 2 (some 2) 2 1) (.i 0) .undef .undef .undef .undef .undef .undef) H :=
  RunsTo.hin 0 60 [] fun kf hk => ⟨_, by kernel_rfl, .nil⟩
theorem ow_r_0 (n : Int) (la : List HV) (x : Int) (m m2 : Nat) (H : Heap) (e f gg : Int) (ab i j xb z : Nat)(g0 : (i : Int) < 2) : RunsTo Try.prog pol9 9 (sub [1, 1, 1, 1, 1, 1, 1, 1, 1, 1, 0, 1, 0, 0, 0] B9) (env9 (.i n) (.imm .arg 1 la) (.i x) (.bool false) (.sl 0 0 m none m 2) (.sl 1 0 m2 none m2 2) .undef (.i e) .undef (.i f) .undef (.i gg) .undef .undef (.sl ab 0 2 (some 2) 2 1) (.i (i : Int)) .undef .undef .undef .undef .undef .undef) H .normal (pol9.keys 9) (env9 (.i n) (.imm .arg 1 la) (.i x) (.bool false) (.sl 0 0 m none m 2) (.sl 1 0 m2 none m2 2) .undef (.i e) .undef (.i f) .undef (.i gg) .undef .undef (.sl ab 0 2 (some 2) 2 1) (.i (i : Int)) .undef .undef .undef .undef .undef .undef) H :=
  RunsTo.hin 0 60 [⟨17, 3, .bool true, H⟩] fun kf hk => ⟨_, by kernel_rfl, (oB H (decide_eq_true g0) .nil)⟩
theorem ow_r_1 (n : Int) (la : List HV) (x : Int) (m m2 : Nat) (H : Heap) (e f gg : Int) (ab i j xb z : Nat)(g0 : ¬ ((i : Int) < 2)) : RunsTo Try.prog pol9 9 (sub [1, 1, 1, 1, 1, 1, 1, 1, 1, 1, 0, 1, 0, 0, 0] B9) (env9 (.i n) (.imm .arg 1 la) (.i x) (.bool false) (.sl 0 0 m none m 2) (.sl 1 0 m2 none m2 2) .undef (.i e) .undef (.i f) .undef (.i gg) .undef .undef (.sl ab 0 2 (some 2) 2 1) (.i (i : Int)) .undef .undef .undef .undef .undef .undef) H (.exit 4) (pol9.keys 9) (env9 (.i n) (.imm .arg 1 la) (.i x) (.bool false) (.sl 0 0 m none m 2) (.sl 1 0 m2 none m2 2) .undef (.i e) .undef (.i f) .undef (.i gg) .undef .undef (.sl ab 0 2 (some 2) 2 1) (.i (i : Int)) .undef .undef .undef .undef .undef .undef) H :=
  RunsTo.hin 0 60 [⟨17, 3, .bool false, H⟩] fun kf hk => ⟨_, by kernel_rfl, (oB H (decide_eq_false g0) .nil)⟩
theorem ow_s_0 (n : Int) (la : List HV) (x : Int) (m m2 : Nat) (H : Heap) (e f gg : Int) (ab i j xb z : Nat) : RunsTo Try.prog pol9 9 (sub [1, 1, 1, 1, 1, 1, 1, 1, 1, 1, 0, 1, 0, 0, 1, 0, 0, 0] B9) (env9 (.i n) (.imm .arg 1 la) (.i x) (.bool false) (.sl 0 0 m none m 2) (.sl 1 0 m2 none m2 2) .undef (.i e) .undef (.i f) .undef (.i gg) .undef .undef (.sl ab 0 2 (some 2) 2 1) (.i (i : Int)) .undef .undef .undef .undef .undef .undef) H .normal (pol9.keys 9) (env9 (.i n) (.imm .arg 1 la) (.i x) (.bool false) (.sl 0 0 m none m 2) (.sl 1 0 m2 none m2 2) .undef (.i e) .undef (.i f) .undef (.i gg) .undef .undef (.sl ab 0 2 (some 2) 2 1) (.i (i : Int)) (.i 0) .undef .undef .undef .undef .undef) H :=
  RunsTo.hin 0 60 [] fun kf hk => ⟨_, by kernel_rfl, .nil⟩
theorem ow_t_0 (n : Int) (la : List HV) (x : Int) (m m2 : Nat) (H : Heap) (e f gg : Int) (ab i j xb z : Nat)(g0 : idxV Try.prog 55 (.sl ab 0 2 (some 2) 2 1) (.i (i : Int)) = some (.ptr ab i 0 2)) (g1 : loadV Try.prog H 24 (.ptr ab i 0 2) = some (.sl xb 0 z none z 1)) (g2 : (j : Int) < (z : Int)) : RunsTo Try.prog pol9 9 (sub [1, 1, 1, 1, 1, 1, 1, 1, 1, 1, 0, 1, 0, 0, 1, 0, 0, 1, 0, 0, 0] B9) (env9 (.i n) (.imm .arg 1 la) (.i x) (.bool false) (.sl 0 0 m none m 2) (.sl 1 0 m2 none m2 2) .undef (.i e) .undef (.i f) .undef (.i gg) .undef .undef (.sl ab 0 2 (some 2) 2 1) (.i (i : Int)) (.i (j : Int)) .undef .undef .undef .undef .undef) H .normal (pol9.keys 9) (env9 (.i n) (.imm .arg 1 la) (.i x) (.bool false) (.sl 0 0 m none m 2) (.sl 1 0 m2 none m2 2) .undef (.i e) .undef (.i f) .undef (.i gg) .undef .undef (.sl ab 0 2 (some 2) 2 1) (.i (i : Int)) (.i (j : Int)) .undef .undef .undef .undef .undef) H :=
  RunsTo.hin 0 60 [⟨20, 3, .ptr ab i 0 2, H⟩, ⟨20, 4, .sl xb 0 z none z 1, H⟩, ⟨20, 6, .bool true, H⟩] fun kf hk => ⟨_, by kernel_rfl, (oP H g0 (oP H g1 (oB H (decide_eq_true g2) .nil)))⟩
theorem ow_t_1 (n : Int) (la : List HV) (x : Int) (m m2 : Nat) (H : Heap) (e f gg : Int) (ab i j xb z : Nat)(g0 : idxV Try.prog 55 (.sl ab 0 2 (some 2) 2 1) (.i (i : Int)) = some (.ptr ab i 0 2)) (g1 : loadV Try.prog H 24 (.ptr ab i 0 2) = some (.sl xb 0 z none z 1)) (g2 : ¬ ((j : Int) < (z : Int))) : RunsTo Try.prog pol9 9 (sub [1, 1, 1, 1, 1, 1, 1, 1, 1, 1, 0, 1, 0, 0, 1, 0, 0, 1, 0, 0, 0] B9) (env9 (.i n) (.imm .arg 1 la) (.i x) (.bool false) (.sl 0 0 m none m 2) (.sl 1 0 m2 none m2 2) .undef (.i e) .undef (.i f) .undef (.i gg) .undef .undef (.sl ab 0 2 (some 2) 2 1) (.i (i : Int)) (.i (j : Int)) .undef .undef .undef .undef .undef) H (.exit 6) (pol9.keys 9) (env9 (.i n) (.imm .arg 1 la) (.i x) (.bool false) (.sl 0 0 m none m 2) (.sl 1 0 m2 none m2 2) .undef (.i e) .undef (.i f) .undef (.i gg) .undef .undef (.sl ab 0 2 (some 2) 2 1) (.i (i : Int)) (.i (j : Int)) .undef .undef .undef .undef .undef) H :=
  RunsTo.hin 0 60 [⟨20, 3, .ptr ab i 0 2, H⟩, ⟨20, 4, .sl xb 0 z none z 1, H⟩, ⟨20, 6, .bool false, H⟩] fun kf hk => ⟨_, by kernel_rfl, (oP H g0 (oP H g1 (oB H (decide_eq_false g2) .nil)))⟩
theorem ow_u_0 (n : Int) (la : List HV) (x : Int) (m m2 : Nat) (H : Heap) (e f gg : Int) (ab i j xb z : Nat) (H0 : Heap) (g0 : idxV Try.prog 55 (.sl ab 0 2 (some 2) 2 1) (.i (i : Int)) = some (.ptr ab i 0 2)) (g1 : loadV Try.prog H 24 (.ptr ab i 0 2) = some (.sl xb 0 z none z 1)) (g2 : idxV Try.prog 24 (.sl xb 0 z none z 1) (.i (j : Int)) = some (.ptr xb j 0 z)) (g3 : storeV Try.prog H 3 (.ptr xb j 0 z) (.i (-7)) = some H0) : RunsTo Try.prog pol9 9 (sub [1, 1, 1, 1, 1, 1, 1, 1, 1, 1, 0, 1, 0, 0, 1, 0, 0, 1, 0, 0, 1, 0, 0] B9) (env9 (.i n) (.imm .arg 1 la) (.i x) (.bool false) (.sl 0 0 m none m 2) (.sl 1 0 m2 none m2 2) .undef (.i e) .undef (.i f) .undef (.i gg) .undef .undef (.sl ab 0 2 (some 2) 2 1) (.i (i : Int)) (.i (j : Int)) .undef .undef .undef .undef .undef) H .normal (pol9.keys 9) (env9 (.i n) (.imm .arg 1 la) (.i x) (.bool false) (.sl 0 0 m none m 2) (.sl 1 0 m2 none m2 2) .undef (.i e) .undef (.i f) .undef (.i gg) .undef .undef (.sl ab 0 2 (some 2) 2 1) (.i (i : Int)) (.i (j : Int)) .undef .undef .undef .undef .undef) H0 :=
  RunsTo.hin 0 60 [⟨22, 2, .ptr ab i 0 2, H⟩, ⟨22, 3, .sl xb 0 z none z 1, H⟩, ⟨22, 5, .ptr xb j 0 z, H⟩, ⟨22, 6, .tuple [], H0⟩] fun kf hk => ⟨_, by kernel_rfl, (oP H g0 (oP H g1 (oP H g2 (oS g3 .nil))))⟩
theorem ow_v_0 (n : Int) (la : List HV) (x : Int) (m m2 : Nat) (H : Heap) (e f gg : Int) (ab i j xb z : Nat) : RunsTo Try.prog pol9 9 (sub [1, 1, 1, 1, 1, 1, 1, 1, 1, 1, 0, 1, 0, 0, 1, 0, 0, 1, 0, 0, 1, 1] B9) (env9 (.i n) (.imm .arg 1 la) (.i x) (.bool false) (.sl 0 0 m none m 2) (.sl 1 0 m2 none m2 2) .undef (.i e) .undef (.i f) .undef (.i gg) .undef .undef (.sl ab 0 2 (some 2) 2 1) (.i (i : Int)) (.i (j : Int)) .undef .undef .undef .undef .undef) H .normal (pol9.keys 9) (env9 (.i n) (.imm .arg 1 la) (.i x) (.bool false) (.sl 0 0 m none m 2) (.sl 1 0 m2 none m2 2) .undef (.i e) .undef (.i f) .undef (.i gg) .undef .undef (.sl ab 0 2 (some 2) 2 1) (.i (i : Int)) (.i (IntKind.i64.wrap ((j : Int) + 1))) .undef .undef .undef .undef .undef) H :=
  RunsTo.hin 0 60 [] fun kf hk => ⟨_, by kernel_rfl, .nil⟩
theorem ow_w_0 (n : Int) (la : List HV) (x : Int) (m m2 : Nat) (H : Heap) (e f gg : Int) (ab i j xb z : Nat) : RunsTo Try.prog pol9 9 (sub [1, 1, 1, 1, 1, 1, 1, 1, 1, 1, 0, 1, 0, 0, 1, 1] B9) (env9 (.i n) (.imm .arg 1 la) (.i x) (.bool false) (.sl 0 0 m none m 2) (.sl 1 0 m2 none m2 2) .undef (.i e) .undef (.i f) .undef (.i gg) .undef .undef (.sl ab 0 2 (some 2) 2 1) (.i (i : Int)) (.i (j : Int)) .undef .undef .undef .undef .undef) H .normal (pol9.keys 9) (env9 (.i n) (.imm .arg 1 la) (.i x) (.bool false) (.sl 0 0 m none m 2) (.sl 1 0 m2 none m2 2) .undef (.i e) .undef (.i f) .undef (.i gg) .undef .undef (.sl ab 0 2 (some 2) 2 1) (.i (IntKind.i64.wrap ((i : Int) + 1))) (.i (j : Int)) .undef .undef .undef .undef .undef) H :=
  RunsTo.hin 0 60 [] fun kf hk => ⟨_, by kernel_rfl, .nil⟩
theorem ow_x_0 (n : Int) (la : List HV) (x : Int) (m m2 : Nat) (H : Heap) (e f gg : Int) (ab i j xb z : Nat) (oc p2 : Nat) (e2 : Int) (H0 : Heap) (g0 : ∀ kf, callN Try.prog pol9 (kf + 1) 31 [.i n, .sl 0 0 m none m 2, .i x] H = some (.tuple [.sl oc 0 p2 none p2 1, .i e2], H0)) : RunsTo Try.prog pol9 9 (sub [1, 1, 1, 1, 1, 1, 1, 1, 1, 1, 1, 0] B9) (env9 (.i n) (.imm .arg 1 la) (.i x) (.bool false) (.sl 0 0 m none m 2) (.sl 1 0 m2 none m2 2) .undef (.i e) .undef (.i f) .undef (.i gg) .undef .undef (.sl ab 0 2 (some 2) 2 1) (.i (i : Int)) .undef .undef .undef .undef .undef .undef) H .normal (pol9.keys 9) (env9 (.i n) (.imm .arg 1 la) (.i x) (.bool false) (.sl 0 0 m none m 2) (.sl 1 0 m2 none m2 2) .undef (.i e) .undef (.i f) .undef (.i gg) .undef .undef (.sl ab 0 2 (some 2) 2 1) (.i (i : Int)) .undef (.sl oc 0 p2 none p2 1) (.i e2) .undef .undef .undef) H0 :=
  RunsTo.hin 0 60 [⟨23, 3, .tuple [.sl oc 0 p2 none p2 1, .i e2], H0⟩] fun kf hk => ⟨_, by kernel_rfl, (oC (g0 kf) .nil)⟩
theorem ow_y_0 (n : Int) (la : List HV) (x : Int) (m m2 : Nat) (H : Heap) (e f gg : Int) (ab i j xb z : Nat) (oc p2 : Nat) (e2 : Int) (db u2 : Nat) (c2 gh : Int) (H0 : Heap) (g0 : ∀ kf, callN Try.prog pol9 (kf + 1) 17 [.i n, .sl 0 0 m none m 2] H = some (.tuple [.sl db 0 u2 none u2 1, .i c2, .i gh], H0)) : RunsTo Try.prog pol9 9 (sub [1, 1, 1, 1, 1, 1, 1, 1, 1, 1, 1, 1, 0] B9) (env9 (.i n) (.imm .arg 1 la) (.i x) (.bool false) (.sl 0 0 m none m 2) (.sl 1 0 m2 none m2 2) .undef (.i e) .undef (.i f) .undef (.i gg) .undef .undef (.sl ab 0 2 (some 2) 2 1) (.i (i : Int)) .undef (.sl oc 0 p2 none p2 1) (.i e2) .undef .undef .undef) H .normal (pol9.keys 9) (env9 (.i n) (.imm .arg 1 la) (.i x) (.bool false) (.sl 0 0 m none m 2) (.sl 1 0 m2 none m2 2) .undef (.i e) .undef (.i f) .undef (.i gg) .undef .undef (.sl ab 0 2 (some 2) 2 1) (.i (i : Int)) .undef (.sl oc 0 p2 none p2 1) (.i e2) (.sl db 0 u2 none u2 1) (.i gh) .undef) H0 :=
  RunsTo.hin 0 60 [⟨24, 2, .tuple [.sl db 0 u2 none u2 1, .i c2, .i gh], H0⟩] fun kf hk => ⟨_, by kernel_rfl, (oC (g0 kf) .nil)⟩
theorem ow_aa_0 (n : Int) (la : List HV) (x : Int) (m m2 : Nat) (H : Heap) (e f gg : Int) (ab i j xb z : Nat) (oc p2 : Nat) (e2 : Int) (db u2 : Nat) (c2 gh : Int) (wb y : Nat) (d2 : Int) (H0 : Heap) (g0 : ∀ kf, callN Try.prog pol9 (kf + 1) 20 [.i n, .sl 1 0 m2 none m2 2] H = some (.tuple [.sl wb 0 y none y 1, .i d2], H0)) : RunsTo Try.prog pol9 9 (sub [1, 1, 1, 1, 1, 1, 1, 1, 1, 1, 1, 1, 1, 0] B9) (env9 (.i n) (.imm .arg 1 la) (.i x) (.bool false) (.sl 0 0 m none m 2) (.sl 1 0 m2 none m2 2) .undef (.i e) .undef (.i f) .undef (.i gg) .undef .undef (.sl ab 0 2 (some 2) 2 1) (.i (i : Int)) .undef (.sl oc 0 p2 none p2 1) (.i e2) (.sl db 0 u2 none u2 1) (.i gh) .undef) H .normal (pol9.keys 9) (env9 (.i n) (.imm .arg 1 la) (.i x) (.bool false) (.sl 0 0 m none m 2) (.sl 1 0 m2 none m2 2) .undef (.i e) .undef (.i f) .undef (.i gg) .undef .undef (.sl ab 0 2 (some 2) 2 1) (.i (i : Int)) .undef (.sl oc 0 p2 none p2 1) (.i e2) (.sl db 0 u2 none u2 1) (.i gh) (.sl wb 0 y none y 1)) H0 :=
  RunsTo.hin 0 60 [⟨25, 2, .tuple [.sl wb 0 y none y 1, .i d2], H0⟩] fun kf hk => ⟨_, by kernel_rfl, (oC (g0 kf) .nil)⟩
theorem ow_z_0 (n : Int) (la : List HV) (x : Int) (m m2 : Nat) (H : Heap) (e f gg : Int) (ab i j xb z : Nat) (oc p2 : Nat) (e2 : Int) (db u2 : Nat) (c2 gh : Int) (wb y : Nat) (d2 : Int) (H0 : Heap) (H1 : Heap) (H2 : Heap) (g0 : e = 0) (g1 : f = 0) (g2 : gg = 0) (g3 : e2 = 0) (g4 : gh = 0) (g5 : ∀ kf, callN Try.prog pol9 (kf + 1) 32 [.sl 0 0 m none m 2, .sl 1 0 m2 none m2 2] H = some (.bool true, H0)) (g6 : ∀ kf, callN Try.prog pol9 (kf + 1) 30 [.i n, .sl 1 0 m2 none m2 2, .i x, .sl oc 0 p2 none p2 1] H0 = some (.bool true, H1)) (g7 : ∀ kf, callN Try.prog pol9 (kf + 1) 21 [.sl db 0 u2 none u2 1, .sl wb 0 y none y 1] H1 = some (.bool true, H2)) : RunsTo Try.prog pol9 9 (sub [1, 1, 1, 1, 1, 1, 1, 1, 1, 1, 1, 1, 1, 1] B9) (env9 (.i n) (.imm .arg 1 la) (.i x) (.bool false) (.sl 0 0 m none m 2) (.sl 1 0 m2 none m2 2) .undef (.i e) .undef (.i f) .undef (.i gg) .undef .undef (.sl ab 0 2 (some 2) 2 1) (.i (i : Int)) .undef (.sl oc 0 p2 none p2 1) (.i e2) (.sl db 0 u2 none u2 1) (.i gh) (.sl wb 0 y none y 1)) H .ret (pol9.keys 9) (env9 (.i n) (.imm .arg 1 la) (.i x) (.bool true) (.sl 0 0 m none m 2) (.sl 1 0 m2 none m2 2) .undef (.i e) .undef (.i f) .undef (.i gg) .undef .undef (.sl ab 0 2 (some 2) 2 1) (.i (i : Int)) .undef (.sl oc 0 p2 none p2 1) (.i e2) (.sl db 0 u2 none u2 1) (.i gh) (.sl wb 0 y none y 1)) H2 :=
  RunsTo.hin 0 60 [⟨26, 1, .bool true, H⟩, ⟨26, 4, .bool true, H⟩, ⟨26, 8, .bool true, H⟩, ⟨26, 12, .bool true, H⟩, ⟨26, 16, .bool true, H⟩, ⟨26, 21, .bool true, H0⟩, ⟨26, 28, .bool true, H1⟩, ⟨26, 33, .bool true, H2⟩] fun kf hk => ⟨_, by kernel_rfl, (oB H (decide_eq_true g0) (oB H (decide_eq_true g1) (oB H (decide_eq_true g2) (oB H (decide_eq_true g3) (oB H (decide_eq_true g4) (oC (g5 kf) (oC (g6 kf) (oC (g7 kf) .nil))))))))⟩
end Go.Proofs.Ytmhfkhlamnapdaa
end
section
open Go Go.HL
namespace Go.Proofs.Ytmhfkhlamnapdaa
theorem rd_ok (nr : Int → Int → Bool) (kn : List Int) : ∀ (l : List (Int × Int)) (bz : List Int), (∀ p ∈ l, nr p.1 p.2 = true ∧ p.1 ∈ kn ∧ p.2 ∉ kn ∧ p.1 ∉ bz ∧ p.2 ∉ bz) → (l.map (·.1)).Nodup → (l.map (·.2)).Nodup → rdGo nr kn l bz = true
  | [], _, _, _, _ => rfl
  | p :: l, bz, h, h1, h2 => by
    rw [List.map_cons, List.nodup_cons] at h1 h2
    obtain ⟨a1, a2, a3, a4, a5⟩ := h p (by simp)
    rw [rdGo, Bool.and_eq_true]
    refine ⟨by simp [okC, a1, a2, a3, a4, a5], rd_ok nr kn l _ (fun q hq => ?_) h1.2 h2.2⟩
    obtain ⟨b1, b2, b3, b4, b5⟩ := h q (by simp [hq])
    refine ⟨b1, b2, b3, fun hm => ?_, fun hm => ?_⟩
    · rw [ins_mem, ins_mem] at hm
      rcases hm with e | e | hm
      · rw [e] at b2; exact a3 b2
      · exact h1.1 (List.mem_map.2 ⟨q, hq, e⟩)
      · exact b4 hm
    · rw [ins_mem, ins_mem] at hm
      rcases hm with e | e | hm
      · exact h2.1 (List.mem_map.2 ⟨q, hq, e⟩)
      · rw [e] at b3; exact b3 a2
      · exact b5 hm
theorem learn_mem : ∀ (l : List (Int × Int)) (kn : List Int) (z : Int), z ∈ learn l kn ↔ z ∈ kn ∨ ∃ p ∈ l, p.2 = z
  | [], kn, z => by simp [learn]
  | p :: l, kn, z => by
    have e : learn (p :: l) kn = learn l (ins p.2 kn) := rfl
    rw [e, learn_mem l, ins_mem]
    constructor
    · rintro ((h | h) | ⟨q, hq, h⟩)
      · exact .inr ⟨p, by simp, h.symm⟩
      · exact .inl h
      · exact .inr ⟨q, by simp [hq], h⟩
    · rintro (h | ⟨q, hq, h⟩)
      · exact .inl (.inr h)
      · rcases List.mem_cons.1 hq with rfl | hq
        · exact .inl (.inl h.symm)
        · exact .inr ⟨q, hq, h⟩
def cntB (L : List Ev) (j : Nat) : Nat := (L.filter fun e => decide (e.1 < j)).length
theorem cntB_succ : ∀ (L : List Ev) (j : Nat), cntB L (j + 1) = cntB L j + (rdOf L j).length
  | [], _ => rfl
  | e :: L, j => by
    have ih := cntB_succ L j
    unfold cntB rdOf at ih ⊢
    rw [List.filter_cons, List.filter_cons, List.filter_cons]
    rw [List.length_map] at ih ⊢
    by_cases c : e.1 = j
    · rw [if_pos (by simp; omega), if_neg (by simp; omega), if_pos (by simpa using c)]
      simp only [List.length_cons]; omega
    · by_cases c2 : e.1 < j
      · rw [if_pos (by simp; omega), if_pos (by simpa using c2), if_neg (by simpa using c)]
        simp only [List.length_cons]; omega
      · rw [if_neg (by simp; omega), if_neg (by simpa using c2), if_neg (by simpa using c)]
        exact ih
theorem cntB_all {L : List Ev} {t : Nat} (h : ∀ e, e ∈ L → e.1 < t) : cntB L t = L.length := by
  unfold cntB
  rw [List.filter_eq_self.2 fun e he => decide_eq_true (h e he)]
theorem rdOf_mem {L : List Ev} {j : Nat} {p : Int × Int} : p ∈ rdOf L j ↔ (j, p.1, p.2) ∈ L := by
  unfold rdOf
  rw [List.mem_map]
  constructor
  · rintro ⟨e, he, rfl⟩
    obtain ⟨h1, h2⟩ := List.mem_filter.1 he
    have : e.1 = j := by simpa using h2
    rw [← this]; exact h1
  · intro h
    exact ⟨_, List.mem_filter.2 ⟨h, by simp⟩, rfl⟩
structure Told (nr : Int → Int → Bool) (x : Int) (L : List Ev) : Prop where
  near : ∀ e, e ∈ L → nr (clr e) (cld e) = true
  new : (x :: L.map cld).Nodup
  heard : ∀ e, e ∈ L → clr e = x ∨ ∃ e', e' ∈ L ∧ cld e' = clr e ∧ e'.1 < e.1
  once : (L.map rc).Nodup
theorem rdOf_nodup {L : List Ev} {α : Type} (f : Int × Int → α) (j : Nat) (h : (L.map fun e => (e.1, f e.2)).Nodup) : ((rdOf L j).map f).Nodup := by
  unfold rdOf
  rw [List.map_map]
  have h1 : ((L.filter fun e => e.1 == j).map fun e => (e.1, f e.2)).Nodup := List.Pairwise.sublist (List.filter_sublist.map _) h
  unfold List.Nodup at h1 ⊢
  rw [List.pairwise_map] at h1 ⊢
  refine List.Pairwise.imp_of_mem (fun {a b} ha hb hab => ?_) h1
  have h2 : a.1 = j := by simpa using (List.mem_filter.1 ha).2
  have h3 : b.1 = j := by simpa using (List.mem_filter.1 hb).2
  intro e
  exact hab (by rw [h2, h3]; exact congrArg _ e)
theorem told_go {nr : Int → Int → Bool} {x : Int} {L : List Ev} (h : Told nr x L) : ∀ (d j : Nat) (kn : List Int), (∀ z, z ∈ kn ↔ z = x ∨ ∃ e, e ∈ L ∧ e.1 < j ∧ cld e = z) → kn.length = 1 + cntB L j → ∃ kn', ckGo nr ((List.range' j d).map (rdOf L)) kn = some kn' ∧ kn'.length = 1 + cntB L (j + d)
  | 0, j, kn, _, hl => ⟨kn, rfl, hl⟩
  | d + 1, j, kn, hk, hl => by
    have hn := h.new
    rw [List.nodup_cons] at hn
    have hnew : ∀ p, p ∈ rdOf L j → p.2 ∉ kn := fun p hp hm => by
      rw [rdOf_mem] at hp
      rcases (hk p.2).1 hm with e | ⟨e, he, h1, h2⟩
      · exact hn.1 (by rw [← e]; exact List.mem_map.2 ⟨_, hp, rfl⟩)
      · have : (j, p.1, p.2) = e := inj_of_nodup (f := cld) hn.2 _ hp _ he h2.symm
        rw [← this] at h1
        exact Nat.lt_irrefl _ h1
    have hn2 : ((rdOf L j).map (·.2)).Nodup := rdOf_nodup (fun p => p.2) j (by
      have h1 := hn.2
      unfold List.Nodup at h1 ⊢
      rw [List.pairwise_map] at h1 ⊢
      exact h1.imp fun {a b} hab (e : (a.1, a.2.2) = (b.1, b.2.2)) => hab (congrArg (fun x : Nat × Int => x.2) e))
    have hrd : rdGo nr kn (rdOf L j) [] = true := by
      refine rd_ok nr kn _ [] (fun p hp => ?_) (rdOf_nodup (fun p => p.1) j h.once) hn2
      have hp' := rdOf_mem.1 hp
      refine ⟨h.near _ hp', ?_, hnew p hp, by simp, by simp⟩
      rw [hk]
      rcases h.heard _ hp' with e | ⟨e, he, h1, h2⟩
      · exact .inl e
      · exact .inr ⟨e, he, h2, h1⟩
    rw [List.range'_succ, List.map_cons, ckGo, if_pos hrd]
    obtain ⟨kn', h1, h2⟩ := told_go h d (j + 1) (learn (rdOf L j) kn) (fun z => by
      rw [learn_mem, hk]
      constructor
      · rintro ((e | ⟨e, he, h1, h2⟩) | ⟨p, hp, e⟩)
        · exact .inl e
        · exact .inr ⟨e, he, by omega, h2⟩
        · exact .inr ⟨_, rdOf_mem.1 hp, Nat.lt_succ_self j, e⟩
      · rintro (e | ⟨e, he, h1, h2⟩)
        · exact .inl (.inl e)
        · rcases Nat.lt_or_ge e.1 j with h3 | h3
          · exact .inl (.inr ⟨e, he, h3, h2⟩)
          · have h4 : e.1 = j := by omega
            exact .inr ⟨e.2, rdOf_mem.2 (by rw [← h4]; exact he), h2⟩) (by rw [learn_len _ _ hn2 hnew, hl, cntB_succ]; omega)
    exact ⟨kn', h1, by rw [h2]; congr 2; omega⟩
theorem told_ck {nr : Int → Int → Bool} {x : Int} {L : List Ev} (h : Told nr x L) (d : Nat) : ∃ kn', ckGo nr ((List.range d).map (rdOf L)) [x] = some kn' ∧ kn'.length = 1 + cntB L d := by
  have := told_go h d 0 [x] (fun z => by simp) (by simp [cntB])
  rw [Nat.zero_add] at this
  rw [List.range_eq_range']
  exact this
theorem bestGo_in {T : Int → Int} : ∀ (S : List Int) (i : Nat) (mo q : Int), mo ≤ q → q < bestGo i mo (S.map T) → ∃ (j : Nat) (u : Int), S[j]? = some u ∧ q < (i : Int) + j + 1 + T u
  | [], i, mo, q, h1, h2 => by rw [List.map_nil, bestGo] at h2; omega
  | u :: S, i, mo, q, h1, h2 => by
    rw [List.map_cons, bestGo] at h2
    by_cases c : q < (i : Int) + 1 + T u
    · exact ⟨0, u, rfl, by simpa using c⟩
    · obtain ⟨j, z, h3, h4⟩ := bestGo_in S (i + 1) (max mo ((i : Int) + 1 + T u)) q (by omega) h2
      exact ⟨j + 1, z, by simpa using h3, by omega⟩
section
variable {row : Int → List Int} {G : Int → Int → Prop} {μ : Int → Int → Nat}
theorem tm_st (hM : Msr row G μ) {v w : Int} (hG : G v w) (h : μ v w ≤ 150) : tm row v w = bestGo 0 0 ((stable (fun u => tm row u v) (keep w (row v)).length (keep w (row v))).map fun u => tm row u v) := by
  rw [stable_dsort]
  exact tm_rec hM hG h
end
section
variable {row : Int → List Int} {G : Int → Int → Prop} {μ : Int → Int → Nat}
theorem evF_lt (hM : Msr row G μ) : ∀ (k : Nat) (v w : Int) (r : Nat), G v w → μ v w < k → k ≤ 150 → ∀ e, e ∈ evF row (tm row) k v w r → (e.1 : Int) < r + tm row v w
  | 0, _, _, _, _, h, _, _, _ => by omega
  | k + 1, v, w, r, hG, h, hk, e, he => by
    have hT := tm_st hM hG (by omega)
    rw [evF] at he
    obtain ⟨i, u, h1, h2⟩ := evL_mem he
    have hi := lt_of_get h1
    have hb := bestGo_at ((stable (fun u => tm row u v) (keep w (row v)).length (keep w (row v))).map fun u => tm row u v) 0 i 0 (by rw [List.length_map]; exact hi)
    rw [← hT] at hb
    have hg : ((stable (fun u => tm row u v) (keep w (row v)).length (keep w (row v))).map fun u => tm row u v).getD i 0 = tm row u v := by simp [List.getD, List.getElem?_map, h1]
    rw [hg] at hb
    have h0 := tmF_nonneg row 200 u v
    have h0 : 0 ≤ tm row u v := h0
    rcases h2 with rfl | h2
    · show ((r + i : Nat) : Int) < _
      omega
    · have hu : u ∈ keep w (row v) := (stb (tm row) v (keep w (row v))).mem_iff.1 (List.mem_of_getElem? h1)
      obtain ⟨h3, h4⟩ := hM.step v w hG u hu
      have := evF_lt hM k u v (r + i + 1) h3 (by omega) (by omega) e h2
      omega
end
section
variable {row : Int → List Int} {G : Int → Int → Prop} {μ : Int → Int → Nat}
theorem evF_full (hM : Msr row G μ) : ∀ (k : Nat) (v w : Int) (r : Nat), G v w → μ v w < k → k ≤ 150 → ∀ q : Nat, r ≤ q → (q : Int) < r + tm row v w → ∃ e, e ∈ evF row (tm row) k v w r ∧ e.1 = q
  | 0, _, _, _, _, h, _, _, _, _ => by omega
  | k + 1, v, w, r, hG, h, hk, q, hq, hqt => by
    have hT := tm_st hM hG (by omega)
    generalize hS : stable (fun u => tm row u v) (keep w (row v)).length (keep w (row v)) = S at hT
    have hev : evF row (tm row) (k + 1) v w r = evL (fun u r' => evF row (tm row) k u v r') v S r := by rw [evF, hS]
    by_cases c : q < r + S.length
    · have hi : q - r < S.length := by omega
      have h1 := (mem_evL (f := fun u r' => evF row (tm row) k u v r') (v := v) (r := r) (List.getElem?_eq_getElem hi)).1
      refine ⟨_, by rw [hev]; exact h1, ?_⟩
      show r + (q - r) = q
      omega
    · obtain ⟨j, u, h1, h2⟩ := bestGo_in (T := fun u => tm row u v) S 0 0 ((q : Int) - r) (by omega) (by omega)
      have hj := lt_of_get h1
      have hu : u ∈ keep w (row v) := (stb (tm row) v (keep w (row v))).mem_iff.1 (by rw [hS]; exact List.mem_of_getElem? h1)
      obtain ⟨h3, h4⟩ := hM.step v w hG u hu
      obtain ⟨e, h5, h6⟩ := evF_full hM k u v (r + j + 1) h3 (by omega) (by omega) q (by omega) (by omega)
      exact ⟨e, by rw [hev]; exact (mem_evL (f := fun u r' => evF row (tm row) k u v r') (v := v) (r := r) h1).2 e h5, h6⟩
end
theorem cntB_app (L M : List Ev) (j : Nat) : cntB (L ++ M) j = cntB L j + cntB M j := by simp [cntB]
theorem cntB_cons (e : Ev) (L : List Ev) (j : Nat) : cntB (e :: L) j = (if e.1 < j then 1 else 0) + cntB L j := by
  unfold cntB
  rw [List.filter_cons]
  by_cases c : e.1 < j
  · simp [c]; omega
  · simp [c]
theorem cntB_zero {L : List Ev} {j : Nat} (h : ∀ e, e ∈ L → j ≤ e.1) : cntB L j = 0 := by
  unfold cntB
  rw [List.filter_eq_nil_iff.2 fun e he => by have := h e he; simp; omega]
  rfl
theorem evL_pow {f : Int → Nat → List Ev} {v : Int} (hf : ∀ u r q, (∀ e, e ∈ f u r → r ≤ e.1) ∧ 1 + cntB (f u r) q ≤ 2 ^ (q - r)) : ∀ (S : List Int) (r q : Nat), 1 + cntB (evL f v S r) q ≤ 2 ^ (q - r)
  | [], r, q => by
    have : 0 < 2 ^ (q - r) := Nat.pos_of_ne_zero (by simp)
    simp only [evL, cntB, List.filter_nil, List.length_nil]
    omega
  | u :: S, r, q => by
    rw [evL, cntB_cons, cntB_app]
    by_cases c : r < q
    · have h1 := (hf u (r + 1) q).2
      have h2 := evL_pow (v := v) hf S (r + 1) q
      have e : q - r = (q - (r + 1)) + 1 := by omega
      rw [e, Nat.pow_succ, if_pos c]
      omega
    · have h1 : cntB (f u (r + 1)) q = 0 := cntB_zero fun e he => by have := (hf u (r + 1) q).1 e he; omega
      have h2 := evL_pow (v := v) hf S (r + 1) q
      have e : q - r = 0 := by omega
      have e2 : q - (r + 1) = 0 := by omega
      rw [e, if_neg c]
      rw [e2] at h2
      omega
theorem evF_pow (row : Int → List Int) (T : Int → Int → Int) : ∀ (k : Nat) (v w : Int) (r q : Nat), 1 + cntB (evF row T k v w r) q ≤ 2 ^ (q - r)
  | 0, v, w, r, q => by
    have : 0 < 2 ^ (q - r) := Nat.pos_of_ne_zero (by simp)
    simp only [evF, cntB, List.filter_nil, List.length_nil]
    omega
  | k + 1, v, w, r, q => evL_pow (fun u r q => ⟨fun e he => evF_ge row T k u v r e he, evF_pow row T k u v r q⟩) _ r q
end Go.Proofs.Ytmhfkhlamnapdaa
end
section
open Go Go.HL
namespace Go.Proofs.Ytmhfkhlamnapdaa
def evR (l : List (Int × Int)) (x : Int) : List Ev := evF (rowE l) (tm (rowE l)) 150 x (-1) 0
structure SpR (m : Nat) (l : List (Int × Int)) (x : Nat) : Prop where
  eq : spR l (x : Int) = (List.range (tm (rowE l) x (-1)).toNat).map (rdOf (evR l x))
  told : Told (nrR m l) (x : Int) (evR l x)
  len : (evR l x).length + 1 = m
  lt : ∀ e, e ∈ evR l x → e.1 < (tm (rowE l) x (-1)).toNat
  full : ∀ j, j < (tm (rowE l) x (-1)).toNat → 1 ≤ (rdOf (evR l x) j).length
  pow : ∀ j, 1 + cntB (evR l x) j ≤ 2 ^ j
  small : (tm (rowE l) x (-1)).toNat + 1 ≤ m
theorem tree_spread {m : Nat} {l : List (Int × Int)} (hok : treeOk (m : Int) l = true) {x : Nat} (hx : x < m) : SpR m l x := by
  obtain ⟨⟨hn, hl⟩, hv, hr⟩ := tree_rtd hok
  have hR := hr x hx
  obtain ⟨hO, _⟩ := hR.ori hx hv hl
  have hTs := tree_small hok hx
  have hT0 := (tm_bd (row := rowE l) (fun v => by have := rowE_len l v; omega) (x : Int) (-1)).1
  have hD : Dn l (fun v => ((bfs (fun y => (adjOf m l).getD y []) m x).getD v.toNat 0).toNat) (x : Int) (-1) := by
    intro u hu
    have hne := hO.neq (keep_mem.1 hu).1
    have h0 := hR.root
    dsimp only at hne h0 ⊢
    omega
  have hnd := ds_nodup hO 150 x (-1) hD
  have hdr : ∀ z, z ∈ ds (rowE l) 150 x (-1) → 0 ≤ z ∧ z < (m : Int) := fun z hz => ds_range hv 150 x (-1) z ⟨by omega, by omega⟩ hz
  have hdl := ints_len hnd hdr
  have hmu := mu_le l (fun v => ((bfs (fun y => (adjOf m l).getD y []) m x).getD v.toNat 0).toNat) m (x : Int) (-1) (hR.le x hx)
  have hG : Gd l m (x : Int) (-1) := ⟨⟨by omega, by omega⟩, .inl rfl⟩
  have hMs := hO.msr hv
  have hcov : ∀ z : Nat, z < m → (z : Int) ∈ ds (rowE l) 150 x (-1) := fun z hz => by
    have h1 := hR.anc hv m z hz (hR.le z hz)
    have h2 := hR.le z hz
    exact ds_cover 150 x (-1) z h1 (Nat.le_trans h2 (Nat.le_trans (by omega : m ≤ 150) (Nat.le_add_left 150 _))) (fun u hu _ => by
      have := (valid_row hv hu).1; omega)
  have hdl2 : m ≤ (ds (rowE l) 150 x (-1)).length := by
    have hnd2 : ((List.range m).map fun z : Nat => (z : Int)).Nodup := by
      unfold List.Nodup
      rw [List.pairwise_map]
      exact List.nodup_range.imp fun {a b} hab => by omega
    rcases Nat.lt_or_ge (ds (rowE l) 150 x (-1)).length ((List.range m).map fun z : Nat => (z : Int)).length with hlt | hge
    · have := perm_of_sub ((List.range m).map fun z : Nat => (z : Int)) (ds (rowE l) 150 x (-1)) hnd2 (fun v hv' => by
        obtain ⟨z, hz, rfl⟩ := List.mem_map.1 hv'
        exact hcov z (List.mem_range.1 hz)) (by omega)
      rw [this.length_eq, List.length_map, List.length_range]; exact Nat.le_refl _
    · rw [List.length_map, List.length_range] at hge; exact hge
  have hlen := evF_len (rowE l) (tm (rowE l)) 150 x (-1) 0
  have hcl := evF_cld (rowE l) (tm (rowE l)) 150 x (-1) 0
  have hon := evF_once (rowE l) (tm (rowE l)) 150 x (-1) 0 hnd
  have hlt : ∀ e, e ∈ evR l x → e.1 < (tm (rowE l) x (-1)).toNat := fun e he => by
    have := evF_lt hMs 150 (x : Int) (-1) 0 hG (by omega) (by omega) e he
    omega
  refine ⟨?_, ⟨fun e he => ?_, hcl.nodup_iff.2 hnd, fun e he => ?_, hon.1⟩, by unfold evR; omega, hlt, fun j hj => ?_, fun j => ?_, by omega⟩
  · rw [spR, spF_ev]
    exact fil_new hlt
  · have h1 := evF_row (rowE l) (tm (rowE l)) 150 x (-1) 0 e he
    obtain ⟨p, hp, hE⟩ := rowE_mem.1 h1
    have h2 := hdr _ (hon.2 e he)
    have h3 := valid_row hv h1
    simp only [nrR, inR, Bool.and_eq_true, decide_eq_true_eq, List.any_eq_true, isNear]
    refine ⟨h2, h3, p, hp, ?_⟩
    rcases hE with ⟨h4, h5⟩ | ⟨h4, h5⟩
    · exact .inl (Prod.ext h4 h5)
    · exact .inr (Prod.ext h5 h4)
  · rcases evF_clr (rowE l) (tm (rowE l)) 150 x (-1) 0 e he with h | ⟨e', h1, h2, h3⟩
    · exact .inl h
    · exact .inr ⟨e', h1, h2, h3⟩
  · obtain ⟨e, h1, h2⟩ := evF_full hMs 150 (x : Int) (-1) 0 hG (by omega) (by omega) j (Nat.zero_le _) (by omega)
    have : e.2 ∈ rdOf (evR l x) j := rdOf_mem.2 (by rw [← h2]; exact h1)
    exact List.length_pos_of_mem this
  · have := evF_pow (rowE l) (tm (rowE l)) 150 x (-1) 0 j
    rwa [Nat.sub_zero] at this
theorem SpR.ok {m : Nat} {l : List (Int × Int)} {x : Nat} (h : SpR m l x) : spOk (nrR m l) (m : Int) (x : Int) (spR l x) = true := by
  obtain ⟨kn, h1, h2⟩ := told_ck h.told (tm (rowE l) x (-1)).toNat
  rw [spOk, h.eq, h1]
  have h3 := cntB_all h.lt
  have h4 := h.len
  exact decide_eq_true (by omega)
end Go.Proofs.Ytmhfkhlamnapdaa
end
section
open Go Go.HL
namespace Go.Proofs.Ytmhfkhlamnapdaa
theorem tameAt_ok (l : List Int) (n : Nat) (hn : n ≤ 1000) : Mk (tameAt l) n := by
  intro j h1 h2
  unfold tameAt
  split
  · have := modW_bounds (by assumption) (j : Int) (by omega) (by omega)
    omega
  · omega
end Go.Proofs.Ytmhfkhlamnapdaa
end
section
open Go Go.HL
namespace Go.Proofs.Ytmhfkhlamnapdaa
def spreadL (R : List (List (Int × Int))) : List (List (Int × Int)) := (R.take 60).map (·.take 40)
def spread28 : List HV → Option HV
  | [.imm .arg 1 rv] => match mapO decRd rv with | some R => some (.own 1 ((spreadL R).map encPs)) | none => none
  | _ => none
end Go.Proofs.Ytmhfkhlamnapdaa
end
section
open Go Go.HL
namespace Go.Proofs.Ytmhfkhlamnapdaa
def primG (g : FuncId) : Option (List HV → Option HV) :=
  if g == 19 then some awakeF else if g == 16 then some few16 else if g == 28 then some spread28 else if g == 29 then some check29 else if g == 18 then some tree18 else if g == 30 then some complete30 else none
def polG : Pol := { pol with prim := primG }
end Go.Proofs.Ytmhfkhlamnapdaa
end
section
open Go Go.HL
namespace Go.Proofs.Ytmhfkhlamnapdaa
theorem arg_pl {H : Heap} {l : List (Int × Int)} {b m mx : Nat} (hm : l.length = m) (hb : H[b]? = some (.arr 2 (l.map encP) true mx)) : toArg H 6 (.sl b 0 m none m 2) = some (.imm .arg 2 (l.map encP)) := by
  subst hm
  have e : toArg H 6 (.sl b 0 l.length none l.length 2) = if l.length = 0 then some (.imm .arg 2 []) else match view H b 0 l.length l.length 2 with | some l => (match mapO (toArg H 5) l with | some l => some (.imm .arg 2 l) | none => none) | none => none := rfl
  rw [e]
  split
  · rename_i h0
    rw [List.length_eq_zero_iff.1 h0]; rfl
  · have hv : view H b 0 l.length l.length 2 = some (l.map encP) := by
      simp only [view, hb, List.length_map]
      rw [if_pos ⟨trivial, by omega, trivial⟩]
      simp [List.take_of_length_le]
    have hm : mapO (toArg H 5) (l.map encP) = some (l.map encP) := mapO_self (f := toArg H 5) (g := encP) (fun _ => rfl) l
    rw [hv]
    simp only [hm]
theorem encP_any (l : List (Int × Int)) : (l.map encP).any isOwn = false := by
  rw [List.any_eq_false]
  intro v hv
  obtain ⟨k, _, rfl⟩ := List.mem_map.1 hv
  simp [encP, isOwn]
theorem g16 (l : List (Int × Int)) (B : Blk) : ∀ k, callN Try.prog polG (k + 1) 16 [.imm .arg 2 (l.map encP)] [B] = some (.sl 1 0 (l.take 201).length none (l.take 201).length 2, [B, .arr 2 ((l.take 201).map encP) true 0]) := fun k => by
  rw [prim_call (pol := polG) (g := 16) (F := few16) (by kernel_rfl) (rs := [.imm .arg 2 (l.map encP)]) (by simp only [mapO, arg_pairs']) (res := .own 2 ((l.take 201).map encP)) (by simp only [few16, mapO_map decP_enc])]
  simp only [recv, recvVal, recvCell, encP_any, List.length_map]
  rfl
end Go.Proofs.Ytmhfkhlamnapdaa
end
section
open Go Go.HL
namespace Go.Proofs.Ytmhfkhlamnapdaa
theorem arg_il {H : Heap} {l : List Int} {b m : Nat} (hm : l.length = m) (hb : H[b]? = some (bI l)) : toArg H 6 (.sl b 0 m none m 1) = some (.imm .arg 1 (l.map encI)) := by
  subst hm
  have e : toArg H 6 (.sl b 0 l.length none l.length 1) = if l.length = 0 then some (.imm .arg 1 []) else match view H b 0 l.length l.length 1 with | some l => (match mapO (toArg H 5) l with | some l => some (.imm .arg 1 l) | none => none) | none => none := rfl
  rw [e]
  split
  · rename_i h0
    rw [List.length_eq_zero_iff.1 h0]; rfl
  · have hv : view H b 0 l.length l.length 1 = some (l.map encI) := by
      simp only [view, hb, List.length_map]
      rw [if_pos ⟨trivial, by omega, trivial⟩]
      simp [List.take_of_length_le]
    have hm : mapO (toArg H 5) (l.map encI) = some (l.map encI) := mapO_self (f := toArg H 5) (g := encI) (fun _ => rfl) l
    rw [hv]
    simp only [hm]
theorem encI_any3 (l : List Int) : (l.map encI).any isOwn = false := by
  rw [List.any_eq_false]
  intro v hv
  obtain ⟨k, _, rfl⟩ := List.mem_map.1 hv
  simp [encI, isOwn]
theorem centers_same {n : Nat} {l : List (Int × Int)} (h : treeOk (n : Int) l = true) : cenGo 0 (n : Int) [] (timesL n l) = (minL (timesL n l), sel (minL (timesL n l)) 0 (timesL n l)) := by
  obtain ⟨⟨hn, _⟩, _, _⟩ := tree_rtd h
  have hs := tree_small h (x := 0) (by omega)
  obtain ⟨m, rfl⟩ : ∃ m, n = m + 1 := ⟨n - 1, by omega⟩
  have e : timesL (m + 1) l = tm (rowE l) ((0 : Nat) : Int) (-1) :: ((List.range m).map Nat.succ).map fun i : Nat => tm (rowE l) i (-1) := by
    rw [timesL, List.range_succ_eq_map, List.map_cons]
  rw [cenGo_eq, e]
  simp only [List.foldl_cons, minL]
  have hm : min ((m + 1 : Nat) : Int) (tm (rowE l) ((0 : Nat) : Int) (-1)) = tm (rowE l) ((0 : Nat) : Int) (-1) := by omega
  simp only [hm]
  split <;> simp
end Go.Proofs.Ytmhfkhlamnapdaa
end
section
open Go Go.HL
namespace Go.Proofs.Ytmhfkhlamnapdaa
theorem res9 : Try.f9.results.toList = [.tmp 6] := by kernel_rfl
theorem oo22 (x n : Int) (hn : 0 < n ∧ n < 9223372036854775808) (H : Heap) : ∀ k, callN Try.prog pol9 (k + 1) 22 [.int .i64 x, .int .i64 n] H = some (.int .i64 (modW x n), H) := fun k => by
  rw [prim_call (pol := pol9) (g := 22) (F := modF) (by kernel_rfl) (rs := [.int .i64 x, .int .i64 n]) rfl (res := .int .i64 (modW x n)) (by simp only [modF]; rw [if_pos hn])]; rfl
theorem oo23 (l : List Int) {m : Nat} (hm : 1 ≤ m ∧ m ≤ 1000) (H : Heap) : ∀ k, callN Try.prog pol9 (k + 1) 23 [.imm .arg 1 (l.map encI), .int .i64 (m : Int)] H = some (.sl H.length 0 (m - 1) none (m - 1) 2, H ++ [.arr 2 ((tl (tameAt l) m).map encP) true 0]) := fun k => by
  have ha : toArg H 6 (.imm .arg 1 (l.map encI)) = some (.imm .arg 1 (l.map encI)) := by
    show argP (.imm .arg 1 (l.map encI)) = _
    simp only [argP, argP_ints']
  rw [prim_call (pol := pol9) (g := 23) (F := tame23) (by kernel_rfl) (rs := [.imm .arg 1 (l.map encI), .int .i64 (m : Int)]) (by simp only [mapO, ha]; rfl) (res := .own 2 ((tl (tameAt l) m).map encP)) (by
    simp only [tame23, mapO_map decI_enc]
    rw [if_pos ⟨by omega, by omega⟩, Int.toNat_natCast, tame_tl])]
  simp only [recv, recvVal, recvCell, encP_any, List.length_map, tl_len]
  rfl
theorem oo16 {l : List (Int × Int)} {H : Heap} {m : Nat} (hm : l.length = m) (h9 : m ≤ 100) (hb : H[0]? = some (.arr 2 (l.map encP) true 0)) : ∀ k, callN Try.prog pol9 (k + 1) 16 [.sl 0 0 m none m 2] H = some (.sl H.length 0 m none m 2, H ++ [.arr 2 (l.map encP) true 0]) := fun k => by
  have ha := arg_pl hm hb
  rw [prim_call (pol := pol9) (g := 16) (F := few16) (by kernel_rfl) (rs := [.imm .arg 2 (l.map encP)]) (by simp only [mapO, ha]) (res := .own 2 (l.map encP)) (by simp only [few16, mapO_map decP_enc]; rw [List.take_of_length_le (by omega)])]
  simp only [recv, recvVal, recvCell, encP_any, List.length_map, hm]
  rfl
section
variable {l : List (Int × Int)} {H : Heap} {m : Nat}
theorem oo31 (hm : l.length = m) (hb : H[0]? = some (.arr 2 (l.map encP) true 0)) {n x : Int} {R : Rds} (he : spreadF n l x = (R, 0)) {t : Nat} (ht : R.length = t) : ∃ H', (∀ k, callN Try.prog pol9 (k + 1) 31 [.int .i64 n, .sl 0 0 m none m 2, .int .i64 x] H = some (.tuple [.sl H.length 0 t none t 1, .int .i64 0], H')) ∧ SO H.length t R H' ∧ H'.length = H.length + 1 + t ∧ ∀ k, k < H.length → H'[k]? = H[k]? := by
  subst ht
  have ha := arg_pl hm hb
  obtain ⟨H', h1, h2, h3, h4⟩ := recv_rounds R 0 H
  refine ⟨H', fun k => ?_, h2, h3, h4⟩
  rw [prim_call (pol := pol9) (g := 31) (F := spread31d) (by kernel_rfl) (rs := [.int .i64 n, .imm .arg 2 (l.map encP), .int .i64 x]) (by simp only [mapO, ha]; rfl) (res := .tuple [.own 1 (R.map encD), .int .i64 0]) (by simp only [spread31d, mapO_map decP_enc, he]), h1]
end
section
variable {l : List (Int × Int)} {H : Heap} {m : Nat}
theorem oo25 (hm : l.length = m) (hb : H[0]? = some (.arr 2 (l.map encP) true 0)) {n x : Int} {o : List Int} (he : pfarF n l x = (o, 0)) : ∀ k, callN Try.prog pol9 (k + 1) 25 [.int .i64 n, .sl 0 0 m none m 2, .int .i64 x] H = some (.tuple [.sl H.length 0 o.length none o.length 1, .int .i64 0], H ++ [bI o]) := fun k => by
  have ha := arg_pl hm hb
  rw [prim_call (pol := pol9) (g := 25) (F := far25) (by kernel_rfl) (rs := [.int .i64 n, .imm .arg 2 (l.map encP), .int .i64 x]) (by simp only [mapO, ha]; rfl) (res := .tuple [.own 1 (o.map encI), .int .i64 0]) (by simp only [far25, mapO_map decP_enc, he])]
  simp only [recv, recvVals, recvVal, recvCell, encI_any3, List.length_map]
  rfl
end
section
variable {l : List (Int × Int)} {H : Heap} {m : Nat}
theorem oo17 (hm : l.length = m) (hb : H[0]? = some (.arr 2 (l.map encP) true 0)) {n : Int} {o : List Int} {c : Int} (he : centersF n l = .tuple [.own 1 (o.map encI), .int .i64 c, .int .i64 0]) : ∀ k, callN Try.prog pol9 (k + 1) 17 [.int .i64 n, .sl 0 0 m none m 2] H = some (.tuple [.sl H.length 0 o.length none o.length 1, .int .i64 c, .int .i64 0], H ++ [bI o]) := fun k => by
  have ha := arg_pl hm hb
  rw [prim_call (pol := pol9) (g := 17) (F := centers17) (by kernel_rfl) (rs := [.int .i64 n, .imm .arg 2 (l.map encP)]) (by simp only [mapO, ha]; rfl) (res := .tuple [.own 1 (o.map encI), .int .i64 c, .int .i64 0]) (by simp only [centers17, mapO_map decP_enc, he])]
  simp only [recv, recvVals, recvVal, recvCell, encI_any3, List.length_map]
  rfl
end
section
variable {l : List (Int × Int)} {H : Heap} {m : Nat}
theorem oo20 (hm : l.length = m) (hb : H[1]? = some (.arr 2 (l.map encP) true 0)) {n : Nat} {o : List Int} {c : Int} (ht : treeOk (n : Int) l = true) (he : cenGo 0 (n : Int) [] (timesL n l) = (c, o)) : ∀ k, callN Try.prog pol9 (k + 1) 20 [.int .i64 (n : Int), .sl 1 0 m none m 2] H = some (.tuple [.sl H.length 0 o.length none o.length 1, .int .i64 c], H ++ [bI o]) := fun k => by
  have ha := arg_pl hm hb
  rw [prim_call (pol := pol9) (g := 20) (F := centers20) (by kernel_rfl) (rs := [.int .i64 (n : Int), .imm .arg 2 (l.map encP)]) (by simp only [mapO, ha]; rfl) (res := .tuple [.own 1 (o.map encI), .int .i64 c]) (by
    simp only [centers20, mapO_map decP_enc]
    rw [if_pos ht, Int.toNat_natCast, he])]
  simp only [recv, recvVals, recvVal, recvCell, encI_any3, List.length_map]
  rfl
end
section
variable {l : List (Int × Int)} {H : Heap} {m : Nat}
theorem oo32 (hm : l.length = m) (h9 : m ≤ 1000) (hb : H[0]? = some (.arr 2 (l.map encP) true 0)) (hc : H[1]? = some (.arr 2 (l.map encP) true 0)) : ∀ k, callN Try.prog pol9 (k + 1) 32 [.sl 0 0 m none m 2, .sl 1 0 m none m 2] H = some (.bool true, H) := fun k => by
  have ha := arg_pl hm hb
  have hd := arg_pl hm hc
  rw [prim_call (pol := pol9) (g := 32) (F := pairs32) (by kernel_rfl) (rs := [.imm .arg 2 (l.map encP), .imm .arg 2 (l.map encP)]) (by simp only [mapO, ha, hd]) (res := .bool true) (by simp only [pairs32, mapO_map decP_enc]; rw [if_pos (by omega), decide_eq_true trivial])]; rfl
end
section
variable {l : List (Int × Int)} {H : Heap} {m : Nat}
theorem arg_SO {ob t : Nat} {R : Rds} (h : SO ob t R H) : toArg H 6 (.sl ob 0 t none t 1) = some (.imm .arg 1 (R.map encRd)) := by
  have e : toArg H 6 (.sl ob 0 t none t 1) = if t = 0 then some (.imm .arg 1 []) else match view H ob 0 t t 1 with | some l => (match mapO (toArg H 5) l with | some l => some (.imm .arg 1 l) | none => none) | none => none := rfl
  rw [e]
  split
  · rename_i h0
    have hl := h.len
    rw [h0] at hl
    rw [List.length_eq_zero_iff.1 hl]; rfl
  · rw [h.vw]
    have := mapO_gen (f := toArg H 5) (g := encRd) (l := prsF ob R) (adj := R) (prsF_len ob R) (fun j v r hv hr => by
      rw [prsF_get, hr] at hv
      cases hv
      have e : toArg H 5 (prOf ob j r) = if r.length = 0 then some (.imm .arg 2 []) else match view H (ob + 1 + j) 0 r.length r.length 2 with | some l => (match mapO (toArg H 4) l with | some l => some (.imm .arg 2 l) | none => none) | none => none := rfl
      rw [e]
      split
      · rename_i h0
        rw [List.length_eq_zero_iff.1 h0]; rfl
      · have hm : mapO (toArg H 4) (r.map encP) = some (r.map encP) := mapO_self (f := toArg H 4) (g := encP) (fun _ => rfl) r
        rw [h.vr hr]
        simp only [hm]
        rfl)
    simp only [this]
end
section
variable {l : List (Int × Int)} {H : Heap} {m : Nat}
theorem oo30 (hm : l.length = m) (h9 : m ≤ 1000) (hb : H[1]? = some (.arr 2 (l.map encP) true 0)) {n t oc : Nat} {R : Rds} (hS : SO oc t R H) (hn : n ≤ 1000) (ht : t ≤ 1000) (hr : ∀ r, r ∈ R → r.length ≤ 1000) {x : Int} (hx : 0 ≤ x ∧ x < (n : Int)) : ∀ k, callN Try.prog pol9 (k + 1) 30 [.int .i64 (n : Int), .sl 1 0 m none m 2, .int .i64 x, .sl oc 0 t none t 1] H = some (.bool (completeF n l x R), H) := fun k => by
  have ha := arg_pl hm hb
  have hs := arg_SO hS
  rw [prim_call (pol := pol9) (g := 30) (F := complete30) (by kernel_rfl) (rs := [.int .i64 (n : Int), .imm .arg 2 (l.map encP), .int .i64 x, .imm .arg 1 (R.map encRd)]) (by simp only [mapO, ha, hs]; rfl) (res := .bool (completeF n l x R)) (by
    simp only [complete30, mapO_map decP_enc, mapO_map decRd_enc]
    rw [if_pos ⟨⟨⟨⟨by omega, by omega⟩, by omega⟩, by omega, by omega⟩, by rw [hS.len]; exact ht, List.all_eq_true.2 fun r h => decide_eq_true (hr r h)⟩, Int.toNat_natCast])]; rfl
end
section
variable {l : List (Int × Int)} {H : Heap} {m : Nat}
theorem oo21 {o : List Int} {a b : Nat} (ho : o.length ≤ 1000) (h2 : H[a]? = some (bI o)) (h3 : H[b]? = some (bI o)) : ∀ k, callN Try.prog pol9 (k + 1) 21 [.sl a 0 o.length none o.length 1, .sl b 0 o.length none o.length 1] H = some (.bool true, H) := fun k => by
  have ha := arg_il rfl h2
  have hb := arg_il rfl h3
  rw [prim_call (pol := pol9) (g := 21) (F := ints21) (by kernel_rfl) (rs := [.imm .arg 1 (o.map encI), .imm .arg 1 (o.map encI)]) (by simp only [mapO, ha, hb]) (res := .bool true) (by simp only [ints21, mapO_map decI_enc]; rw [if_pos ho, decide_eq_true trivial])]; rfl
end
theorem SO.setr {ob t : Nat} {R : Rds} {H : Heap} (h : SO ob t R H) {i : Nat} {r r' : List (Int × Int)} (hi : R[i]? = some r) (hl : r'.length = r.length) : SO ob t (R.set i r') (H.set (ob + 1 + i) (.arr 2 (r'.map encP) true 0)) := by
  obtain ⟨mx, h1, h2⟩ := h.out
  have hil := lt_of_get hi
  have hR : prsF ob (R.set i r') = prsF ob R := by
    apply List.ext_getElem?
    intro j
    rw [prsF_get, prsF_get, List.getElem?_set]
    by_cases e : i = j
    · subst e
      rw [if_pos rfl, if_pos hil, hi]
      simp only [Option.map_some, prOf, hl]
    · rw [if_neg e]
  refine ⟨⟨mx, h1, by rw [List.getElem?_set_ne (by omega), hR]; exact h2⟩, fun j q hj => ?_, by rw [List.length_set]; exact h.len⟩
  rw [List.getElem?_set] at hj
  by_cases e : i = j
  · subst e
    rw [if_pos rfl, if_pos hil] at hj
    cases hj
    rw [List.getElem?_set_self (lt_of_get (h.rows i r hi))]
  · rw [if_neg e] at hj
    rw [List.getElem?_set_ne (by omega)]
    exact h.rows j q hj
theorem u22o : Try.prog.underlying 22 = some (.slice 33) := by kernel_rfl
section
variable {n : Int} {la : List HV} {x : Int} {m t fb q cb u : Nat}
abbrev oaE (n : Int) (la : List HV) (x : Int) (m t fb q cb u : Nat) (v16 v17 : HV) : Env := env9 (.int .i64 n) (.imm .arg 1 la) (.int .i64 x) (.bool false) (.sl 0 0 m none m 2) (.sl 1 0 m none m 2) (.sl 2 0 t none t 1) (.int .i64 0) (.sl fb 0 q none q 1) (.int .i64 0) (.sl cb 0 u none u 1) (.int .i64 0) v16 v17 .undef .undef .undef .undef .undef .undef .undef .undef
end
section
variable {n : Int} {la : List HV} {x : Int} {m t fb q cb u : Nat}
theorem ow_in {i : Nat} (ht9 : t ≤ 1000) : ∀ (d j : Nat) (r : List (Int × Int)) (R : Rds) (H : Heap), R[i]? = some r → r.length ≤ 1000 → j + d = r.length → SO 2 t R H → (∀ q, q ∈ R → q.length ≤ 1000) →
    ∃ H' R', RunsTo Try.prog pol9 9 (sub [1, 1, 1, 1, 1, 1, 1, 1, 0, 1, 0, 0, 1, 0, 0, 1, 0] B9) (oaE n la x m t fb q cb u (.int .i64 (i : Int)) (.int .i64 (j : Int))) H (.exit 2) (pol9.keys 9) (oaE n la x m t fb q cb u (.int .i64 (i : Int)) (.int .i64 (r.length : Int))) H' ∧ SO 2 t R' H' ∧ (∀ q, q ∈ R' → q.length ≤ 1000) ∧ H'.length = H.length ∧ ∀ k, (k < 2 ∨ 2 + t < k) → H'[k]? = H[k]? := by
  intro d
  induction d with
  | zero =>
    intro j r R H hi hr hj hS hR
    have hj : j = r.length := by omega
    subst hj
    have hit : i < t := by have := lt_of_get hi; rw [hS.len] at this; exact this
    have gi : idxV Try.prog 44 (.sl 2 0 t none t 1) (.int .i64 (i : Int)) = some (.ptr 2 i 0 t) := by
      have := idx_sl (P := Try.prog) (t := 44) (e := 22) (k := 1) (b := 2) (len := t) (tot := t) (cap := none) (ik := .i64) (n := (i : Int)) (by kernel_rfl) z22sp (by omega) (by omega)
      rwa [Int.toNat_natCast] at this
    have l1 := ow_l_1 n la x m m H 2 t 0 fb q 0 cb u 0 0 i r.length (2 + 1 + i) r.length gi (hS.row hi) (by omega)
    exact ⟨H, R, RunsTo.loop_out (RunsTo.seq_out l1 (by simp) (c := sub [1, 1, 1, 1, 1, 1, 1, 1, 0, 1, 0, 0, 1, 0, 0, 1, 0, 0] B9) (b := sub [1, 1, 1, 1, 1, 1, 1, 1, 0, 1, 0, 0, 1, 0, 0, 1, 0, 0, 1] B9) (by kernel_rfl)) (by simp) (by kernel_rfl) (by kernel_rfl), hS, hR, rfl, fun _ _ => rfl⟩
  | succ d ih =>
    intro j r R H hi hr hj hS hR
    have hit : i < t := by have := lt_of_get hi; rw [hS.len] at this; exact this
    have hjr : j < r.length := by omega
    have gi : idxV Try.prog 44 (.sl 2 0 t none t 1) (.int .i64 (i : Int)) = some (.ptr 2 i 0 t) := by
      have := idx_sl (P := Try.prog) (t := 44) (e := 22) (k := 1) (b := 2) (len := t) (tot := t) (cap := none) (ik := .i64) (n := (i : Int)) (by kernel_rfl) z22sp (by omega) (by omega)
      rwa [Int.toNat_natCast] at this
    have gj : idxV Try.prog 22 (.sl (2 + 1 + i) 0 r.length none r.length 2) (.int .i64 (j : Int)) = some (.ptr (2 + 1 + i) j 0 r.length) := by
      have := idx_sl (P := Try.prog) (t := 22) (e := 33) (k := 2) (b := 2 + 1 + i) (len := r.length) (tot := r.length) (cap := none) (ik := .i64) (n := (j : Int)) u22o s33c (by omega) (by omega)
      rwa [Int.toNat_natCast] at this
    have hrow := hS.rows i r hi
    have hat : (r.map encP)[j]? = some (.agg [.int .i64 r[j].1, .int .i64 r[j].2]) := by rw [List.getElem?_map, List.getElem?_eq_getElem hjr]; rfl
    have hst := store_agg (P := Try.prog) (t := 33) (b := 2 + 1 + i) (i := j) (tot := r.length) (new := [.int .i64 (-7), .int .i64 (-7)]) hrow (by simp) hat s33c rfl (by simp) rfl rfl
    have hset : (r.map encP).set j (.agg [.int .i64 (-7), .int .i64 (-7)]) = (r.set j (-7, -7)).map encP := by rw [List.map_set]; rfl
    rw [hset] at hst
    have l0 := ow_l_0 n la x m m H 2 t 0 fb q 0 cb u 0 0 i j (2 + 1 + i) r.length gi (hS.row hi) (by omega)
    have m0 := ow_m_0 n la x m m H 2 t 0 fb q 0 cb u 0 0 i j (2 + 1 + i) r.length _ gi (hS.row hi) gj hst
    have n0 := ow_n_0 n la x m m (H.set (2 + 1 + i) (.arr 2 ((r.set j (-7, -7)).map encP) true 0)) 2 t 0 fb q 0 cb u 0 0 i j (2 + 1 + i) r.length
    rw [wrap_succ (by omega)] at n0
    have hS' := hS.setr hi (r' := r.set j (-7, -7)) (by simp)
    obtain ⟨H', R', rr, e1, e2, e3, e4⟩ := ih (j + 1) (r.set j (-7, -7)) (R.set i (r.set j (-7, -7))) _ (by rw [List.getElem?_set_self (lt_of_get hi)]) (by simpa using hr) (by rw [List.length_set]; omega) hS' (fun q hq => by
      rcases List.mem_or_eq_of_mem_set hq with hq | rfl
      · exact hR q hq
      · simpa using hr)
    rw [List.length_set] at rr
    have t1 := RunsTo.block_normal (i := 3) (c := sub [1, 1, 1, 1, 1, 1, 1, 1, 0, 1, 0, 0, 1, 0, 0, 1, 0, 0, 1, 0] B9) m0 (by kernel_rfl)
    have t2 := RunsTo.seq l0 (RunsTo.seq t1 n0 (c := sub [1, 1, 1, 1, 1, 1, 1, 1, 0, 1, 0, 0, 1, 0, 0, 1, 0, 0, 1] B9) (by kernel_rfl) (by kernel_rfl)) (c := sub [1, 1, 1, 1, 1, 1, 1, 1, 0, 1, 0, 0, 1, 0, 0, 1, 0, 0] B9) (by kernel_rfl) (by kernel_rfl)
    refine ⟨H', R', RunsTo.loop t2 (by kernel_rfl) (gc_eq _ (by simp)) rr rfl (by kernel_rfl) (by kernel_rfl), e1, e2, by rw [e3, List.length_set], fun k hk => by rw [e4 k hk, List.getElem?_set_ne (by omega)]⟩
end
section
variable {n : Int} {la : List HV} {x : Int} {m t fb q cb u : Nat}
theorem ow_out (ht9 : t ≤ 1000) : ∀ (d i : Nat) (R : Rds) (H : Heap), i + d = t → SO 2 t R H → (∀ q, q ∈ R → q.length ≤ 1000) →
    ∃ H', RunsTo Try.prog pol9 9 (sub [1, 1, 1, 1, 1, 1, 1, 1, 0, 1, 0] B9) (oaE n la x m t fb q cb u (.int .i64 (i : Int)) .undef) H (.exit 0) (pol9.keys 9) (oaE n la x m t fb q cb u (.int .i64 (t : Int)) .undef) H' ∧ H'.length = H.length ∧ ∀ k, (k < 2 ∨ 2 + t < k) → H'[k]? = H[k]? := by
  intro d
  induction d with
  | zero =>
    intro i R H hi hS hR
    have hi : i = t := by omega
    subst hi
    exact ⟨H, RunsTo.loop_out (RunsTo.seq_out (ow_j_1 n la x m m H 2 i 0 fb q 0 cb u 0 0 i 0 0 0 (by omega)) (by simp) (c := sub [1, 1, 1, 1, 1, 1, 1, 1, 0, 1, 0, 0] B9) (b := sub [1, 1, 1, 1, 1, 1, 1, 1, 0, 1, 0, 0, 1] B9) (by kernel_rfl)) (by simp) (by kernel_rfl) (by kernel_rfl), rfl, fun _ _ => rfl⟩
  | succ d ih =>
    intro i R H hi hS hR
    have hit : i < R.length := by rw [hS.len]; omega
    have j0 := ow_j_0 n la x m m H 2 t 0 fb q 0 cb u 0 0 i 0 0 0 (by omega)
    have k0 := ow_k_0 n la x m m H 2 t 0 fb q 0 cb u 0 0 i 0 0 0
    have hr := hR _ (List.getElem_mem hit)
    obtain ⟨H1, R1, r1, e1, e2, e3, e4⟩ := ow_in (n := n) (la := la) (x := x) (m := m) (t := t) (fb := fb) (q := q) (cb := cb) (u := u) (i := i) ht9 R[i].length 0 R[i] R H (List.getElem?_eq_getElem hit) hr (by omega) hS hR
    have r1' := RunsTo.loop_in (e0 := oaE n la x m t fb q cb u (.int .i64 (i : Int)) (.int .i64 0)) r1 (b := sub [1, 1, 1, 1, 1, 1, 1, 1, 0, 1, 0, 0, 1, 0, 0, 1, 0, 0] B9) (by kernel_rfl) (by kernel_rfl) (by kernel_rfl)
    have o0 := ow_o_0 n la x m m H1 2 t 0 fb q 0 cb u 0 0 i R[i].length 0 0
    rw [wrap_succ (by omega)] at o0
    obtain ⟨H', r2, f1, f2⟩ := ih (i + 1) R1 H1 (by omega) e1 e2
    have t1 := RunsTo.seq k0 (RunsTo.block_exit (c := sub [1, 1, 1, 1, 1, 1, 1, 1, 0, 1, 0, 0, 1, 0, 0, 1] B9) r1' (by kernel_rfl)) (c := sub [1, 1, 1, 1, 1, 1, 1, 1, 0, 1, 0, 0, 1, 0, 0] B9) (by kernel_rfl) (by kernel_rfl)
    have t2 := RunsTo.block_normal (i := 1) (c := sub [1, 1, 1, 1, 1, 1, 1, 1, 0, 1, 0, 0, 1, 0] B9) t1 (by kernel_rfl)
    have t3 := RunsTo.seq j0 (RunsTo.seq t2 o0 (c := sub [1, 1, 1, 1, 1, 1, 1, 1, 0, 1, 0, 0, 1] B9) (by kernel_rfl) (by kernel_rfl)) (c := sub [1, 1, 1, 1, 1, 1, 1, 1, 0, 1, 0, 0] B9) (by kernel_rfl) (by kernel_rfl)
    exact ⟨H', RunsTo.loop t3 (by kernel_rfl) (gc_eq _ e3) r2 rfl (by kernel_rfl) (by kernel_rfl), by rw [f1, e3], fun k hk => by rw [f2 k hk, e4 k hk]⟩
end
section
variable {n : Int} {la : List HV} {x : Int} {m t fb q cb u : Nat}
abbrev obE (n : Int) (la : List HV) (x : Int) (m ab : Nat) (v19 v20 : HV) : Env := env9 (.int .i64 n) (.imm .arg 1 la) (.int .i64 x) (.bool false) (.sl 0 0 m none m 2) (.sl 1 0 m none m 2) .undef (.int .i64 0) .undef (.int .i64 0) .undef (.int .i64 0) .undef .undef (.sl ab 0 2 (some 2) 2 1) v19 v20 .undef .undef .undef .undef .undef
end
section
variable {n : Int} {la : List HV} {x : Int} {m t fb q cb u : Nat}
theorem z24o : tySize Try.prog 24 = some 1 := by kernel_rfl
end
section
variable {n : Int} {la : List HV} {x : Int} {m t fb q cb u : Nat}
theorem u55o : Try.prog.underlying 55 = some (.slice 24) := by kernel_rfl
end
section
variable {n : Int} {la : List HV} {x : Int} {m t fb q cb u : Nat}
theorem a24o : tyAgg Try.prog 24 = false := by kernel_rfl
end
section
variable {n : Int} {la : List HV} {x : Int} {m t fb q cb u : Nat}
theorem i24o : (Try.prog.underlying 24).isSome = true := by kernel_rfl
end
section
variable {n : Int} {la : List HV} {x : Int} {m t fb q cb u : Nat}
theorem ow_in2 {ab i xb z : Nat} (hi : i < 2) (hz : z ≤ 1000) (hab : xb ≠ ab) : ∀ (d j : Nat) (o : List Int) (H : Heap), j + d = z → o.length = z → H[xb]? = some (bI o) → loadV Try.prog H 24 (.ptr ab i 0 2) = some (.sl xb 0 z none z 1) → (∀ H' : Heap, H'[ab]? = H[ab]? → loadV Try.prog H' 24 (.ptr ab i 0 2) = some (.sl xb 0 z none z 1)) →
    ∃ H' o', RunsTo Try.prog pol9 9 (sub [1, 1, 1, 1, 1, 1, 1, 1, 1, 1, 0, 1, 0, 0, 1, 0, 0, 1, 0] B9) (obE n la x m ab (.int .i64 (i : Int)) (.int .i64 (j : Int))) H (.exit 6) (pol9.keys 9) (obE n la x m ab (.int .i64 (i : Int)) (.int .i64 (z : Int))) H' ∧ H'[xb]? = some (bI o') ∧ o'.length = z ∧ H'.length = H.length ∧ ∀ k, k ≠ xb → H'[k]? = H[k]? := by
  intro d
  have gi : idxV Try.prog 55 (.sl ab 0 2 (some 2) 2 1) (.int .i64 (i : Int)) = some (.ptr ab i 0 2) := by
    have := idx_sl (P := Try.prog) (t := 55) (e := 24) (k := 1) (b := ab) (len := 2) (tot := 2) (cap := some 2) (ik := .i64) (n := (i : Int)) u55o z24o (by omega) (by omega)
    rwa [Int.toNat_natCast] at this
  induction d with
  | zero =>
    intro j o H hj ho hb hl hL
    have hj : j = z := by omega
    subst hj
    have l1 := ow_t_1 n la x m m H 0 0 0 ab i j xb j gi hl (by omega)
    exact ⟨H, o, RunsTo.loop_out (RunsTo.seq_out l1 (by simp) (c := sub [1, 1, 1, 1, 1, 1, 1, 1, 1, 1, 0, 1, 0, 0, 1, 0, 0, 1, 0, 0] B9) (b := sub [1, 1, 1, 1, 1, 1, 1, 1, 1, 1, 0, 1, 0, 0, 1, 0, 0, 1, 0, 0, 1] B9) (by kernel_rfl)) (by simp) (by kernel_rfl) (by kernel_rfl), hb, ho, rfl, fun _ _ => rfl⟩
  | succ d ih =>
    intro j o H hj ho hb hl hL
    have hjz : j < z := by omega
    have hst := store_out hb (y := j) (by omega) (-7)
    rw [ho] at hst
    have l0 := ow_t_0 n la x m m H 0 0 0 ab i j xb z gi hl (by omega)
    have m0 := ow_u_0 n la x m m H 0 0 0 ab i j xb z _ gi hl (gi2 hjz) hst
    have n0 := ow_v_0 n la x m m (H.set xb (bI (o.set j (-7)))) 0 0 0 ab i j xb z
    rw [wrap_succ (by omega)] at n0
    have hab' : (H.set xb (bI (o.set j (-7))))[ab]? = H[ab]? := List.getElem?_set_ne hab
    obtain ⟨H', o', rr, e1, e2, e3, e4⟩ := ih (j + 1) (o.set j (-7)) _ (by omega) (by simpa using ho) (List.getElem?_set_self (lt_of_get hb)) (hL _ hab') (fun H2 h2 => hL H2 (by rw [h2, hab']))
    have t1 := RunsTo.block_normal (i := 7) (c := sub [1, 1, 1, 1, 1, 1, 1, 1, 1, 1, 0, 1, 0, 0, 1, 0, 0, 1, 0, 0, 1, 0] B9) m0 (by kernel_rfl)
    have t2 := RunsTo.seq l0 (RunsTo.seq t1 n0 (c := sub [1, 1, 1, 1, 1, 1, 1, 1, 1, 1, 0, 1, 0, 0, 1, 0, 0, 1, 0, 0, 1] B9) (by kernel_rfl) (by kernel_rfl)) (c := sub [1, 1, 1, 1, 1, 1, 1, 1, 1, 1, 0, 1, 0, 0, 1, 0, 0, 1, 0, 0] B9) (by kernel_rfl) (by kernel_rfl)
    exact ⟨H', o', RunsTo.loop t2 (by kernel_rfl) (gc_eq _ (by simp)) rr rfl (by kernel_rfl) (by kernel_rfl), e1, e2, by rw [e3, List.length_set], fun k hk => by rw [e4 k hk, List.getElem?_set_ne (fun e => hk e.symm)]⟩
end
section
variable {n : Int} {la : List HV} {x : Int} {m t fb q cb u : Nat}
structure AM (fb q cb u ab : Nat) (H : Heap) : Prop where
  f : ∃ o, H[fb]? = some (bI o) ∧ o.length = q
  c : ∃ o, H[cb]? = some (bI o) ∧ o.length = u
  a : ∃ mx, H[ab]? = some (.arr 1 [.sl fb 0 q none q 1, .sl cb 0 u none u 1] true mx)
end
section
variable {n : Int} {la : List HV} {x : Int} {m t fb q cb u : Nat}
theorem ow_out2 {ab : Nat} (hq : q ≤ 1000) (hu : u ≤ 1000) (h1 : fb ≠ ab) (h2 : cb ≠ ab) (h3 : fb ≠ cb) : ∀ (d i : Nat) (H : Heap), i + d = 2 → AM fb q cb u ab H →
    ∃ H', RunsTo Try.prog pol9 9 (sub [1, 1, 1, 1, 1, 1, 1, 1, 1, 1, 0, 1, 0] B9) (obE n la x m ab (.int .i64 (i : Int)) .undef) H (.exit 4) (pol9.keys 9) (obE n la x m ab (.int .i64 2) .undef) H' ∧ H'.length = H.length ∧ ∀ k, k ≠ fb → k ≠ cb → H'[k]? = H[k]? := by
  intro d
  induction d with
  | zero =>
    intro i H hi hA
    have hi : i = 2 := by omega
    subst hi
    exact ⟨H, RunsTo.loop_out (RunsTo.seq_out (ow_r_1 n la x m m H 0 0 0 ab 2 0 0 0 (by omega)) (by simp) (c := sub [1, 1, 1, 1, 1, 1, 1, 1, 1, 1, 0, 1, 0, 0] B9) (b := sub [1, 1, 1, 1, 1, 1, 1, 1, 1, 1, 0, 1, 0, 0, 1] B9) (by kernel_rfl)) (by simp) (by kernel_rfl) (by kernel_rfl), rfl, fun _ _ _ => rfl⟩
  | succ d ih =>
    intro i H hi hA
    obtain ⟨mx, ha⟩ := hA.a
    have j0 := ow_r_0 n la x m m H 0 0 0 ab i 0 0 0 (by omega)
    have k0 := ow_s_0 n la x m m H 0 0 0 ab i 0 0 0
    have key : ∃ H1 z, RunsTo Try.prog pol9 9 (sub [1, 1, 1, 1, 1, 1, 1, 1, 1, 1, 0, 1, 0, 0, 1, 0, 0, 1, 0] B9) (obE n la x m ab (.int .i64 (i : Int)) (.int .i64 0)) H (.exit 6) (pol9.keys 9) (obE n la x m ab (.int .i64 (i : Int)) (.int .i64 ((z : Nat) : Int))) H1 ∧ AM fb q cb u ab H1 ∧ H1.length = H.length ∧ ∀ k, k ≠ fb → k ≠ cb → H1[k]? = H[k]? := by
      obtain ⟨o, ho, hol⟩ := hA.f
      obtain ⟨c, hc, hcl⟩ := hA.c
      match i, hi with
      | 0, _ =>
        have hL : ∀ H' : Heap, H'[ab]? = H[ab]? → loadV Try.prog H' 24 (.ptr ab 0 0 2) = some (.sl fb 0 q none q 1) := fun H' h => load_elem (by rw [h]; exact ha) rfl rfl rfl a24o i24o
        obtain ⟨H1, o', r, e1, e2, e3, e4⟩ := ow_in2 (n := n) (la := la) (x := x) (m := m) (ab := ab) (i := 0) (by omega) hq h1 q 0 o H (by omega) hol ho (hL H rfl) hL
        exact ⟨H1, q, r, ⟨⟨o', e1, e2⟩, ⟨c, by rw [e4 _ (fun e => h3 e.symm)]; exact hc, hcl⟩, ⟨mx, by rw [e4 _ (fun e => h1 e.symm)]; exact ha⟩⟩, e3, fun k k1 _ => e4 k k1⟩
      | 1, _ =>
        have hL : ∀ H' : Heap, H'[ab]? = H[ab]? → loadV Try.prog H' 24 (.ptr ab 1 0 2) = some (.sl cb 0 u none u 1) := fun H' h => load_elem (by rw [h]; exact ha) rfl rfl rfl a24o i24o
        obtain ⟨H1, o', r, e1, e2, e3, e4⟩ := ow_in2 (n := n) (la := la) (x := x) (m := m) (ab := ab) (i := 1) (by omega) hu h2 u 0 c H (by omega) hcl hc (hL H rfl) hL
        exact ⟨H1, u, r, ⟨⟨o, by rw [e4 _ h3]; exact ho, hol⟩, ⟨o', e1, e2⟩, ⟨mx, by rw [e4 _ (fun e => h2 e.symm)]; exact ha⟩⟩, e3, fun k _ k2 => e4 k k2⟩
      | i + 2, hi => omega
    obtain ⟨H1, z, r1, hA1, e3, e4⟩ := key
    have r1' := RunsTo.loop_in (e0 := obE n la x m ab (.int .i64 (i : Int)) (.int .i64 0)) r1 (b := sub [1, 1, 1, 1, 1, 1, 1, 1, 1, 1, 0, 1, 0, 0, 1, 0, 0, 1, 0, 0] B9) (by kernel_rfl) (by kernel_rfl) (by kernel_rfl)
    have o0 := ow_w_0 n la x m m H1 0 0 0 ab i z 0 0
    rw [wrap_succ (by omega)] at o0
    obtain ⟨H', r2, f1, f2⟩ := ih (i + 1) H1 (by omega) hA1
    have t1 := RunsTo.seq k0 (RunsTo.block_exit (c := sub [1, 1, 1, 1, 1, 1, 1, 1, 1, 1, 0, 1, 0, 0, 1, 0, 0, 1] B9) r1' (by kernel_rfl)) (c := sub [1, 1, 1, 1, 1, 1, 1, 1, 1, 1, 0, 1, 0, 0, 1, 0, 0] B9) (by kernel_rfl) (by kernel_rfl)
    have t2 := RunsTo.block_normal (i := 5) (c := sub [1, 1, 1, 1, 1, 1, 1, 1, 1, 1, 0, 1, 0, 0, 1, 0] B9) t1 (by kernel_rfl)
    have t3 := RunsTo.seq j0 (RunsTo.seq t2 o0 (c := sub [1, 1, 1, 1, 1, 1, 1, 1, 1, 1, 0, 1, 0, 0, 1] B9) (by kernel_rfl) (by kernel_rfl)) (c := sub [1, 1, 1, 1, 1, 1, 1, 1, 1, 1, 0, 1, 0, 0] B9) (by kernel_rfl) (by kernel_rfl)
    exact ⟨H', RunsTo.loop t3 (by kernel_rfl) (gc_eq _ e3) r2 rfl (by kernel_rfl) (by kernel_rfl), by rw [f1, e3], fun k k1 k2 => by rw [f2 k k1 k2, e4 k k1 k2]⟩
end
theorem lit_two {H : Heap} {fb q cb u : Nat} : ∃ mx, litV Try.prog false true 55 2 [(0, .sl fb 0 q none q 1), (1, .sl cb 0 u none u 1)] H = some (.sl H.length 0 2 (some 2) 2 1, H ++ [.arr 1 [.sl fb 0 q none q 1, .sl cb 0 u none u 1] true mx]) := by
  have hI := info24
  cases hi : Try.prog.info? 24 with
  | none => rw [hi] at hI; cases hI
  | some i =>
    rw [hi] at hI
    simp only [Option.map_some, Option.some.injEq, Prod.mk.injEq] at hI
    obtain ⟨h1, _, hz⟩ := hI
    cases hz2 : i.zero with
    | none => rw [hz2] at hz; cases hz
    | some z =>
      rw [hz2] at hz
      simp only [Option.map_some, Option.some.injEq] at hz
      refine ⟨bndL [.sl fb 0 q none q 1, .sl cb 0 u none u 1], ?_⟩
      simp only [litV, u55o, hi, hz2, Bool.false_eq_true, if_false, List.map_cons, List.map_nil, h1, hz]
      rw [if_pos ⟨by omega, rfl, rfl, by omega, by simp [cellsOf, cellV], by simp⟩]
      simp
end Go.Proofs.Ytmhfkhlamnapdaa
end
