/- A part of the proof. -/
import Derived.Test.YtmhfkhlamnapdaaP6C
set_option linter.unusedVariables false
set_option linter.unusedSimpArgs false
section
open Go Go.HL
namespace Go.Proofs.Ytmhfkhlamnapdaa
theorem s46_ok {n : Nat} {l : List (Int × Int)} (hg : ((1 ≤ (n : Int) ∧ (n : Int) ≤ 30) ∧ (l.length : Int) = (n : Int) - 1) ∧ l.all (validB (n : Int)) = true) (b : Bool) (hb : farOk (adjOf n l) = b) : ∀ kf, callN Try.prog polS (kf + 1) 46 [.int .i64 (n : Int), .imm .arg 2 (l.map encP)] [] = some (.tuple [TV n, .bool b], [.arr 1 ((adjOf n l).map rowO) true 0, .map [] [] 0]) := fun kf => by
  have hl : (adjOf n l).length = n := (adjOf_inv (List.all_eq_true.1 hg.2)).len
  rw [prim_call (pol := polS) (g := 46) (F := newTree46) (by kernel_rfl) (rs := [.int .i64 (n : Int), .imm .arg 2 (l.map encP)]) (by simp only [mapO, arg_pairs']; rfl) (res := .tuple [treeV (adjOf n l), .bool b]) (by simp only [newTree46, mapO_map decP_enc]; rw [newTreeF, if_pos hg, Int.toNat_natCast, hb])]
  have hno := rowO_any (adjOf n l)
  simp only [recv, recvVals, recvVal, treeV, recvCells, recvCell, hno, List.length_map, hl]
  rfl
theorem s46_bad {n : Int} {l : List (Int × Int)} (hg : ¬ (((1 ≤ n ∧ n ≤ 30) ∧ (l.length : Int) = n - 1) ∧ l.all (validB n) = true)) : ∀ kf, callN Try.prog polS (kf + 1) 46 [.int .i64 n, .imm .arg 2 (l.map encP)] [] = some (.tuple [.agg [.sl 0 0 0 none 0 0, .nilmap], .bool false], [.arr 0 [] true 0]) := fun kf => by
  rw [prim_call (pol := polS) (g := 46) (F := newTree46) (by kernel_rfl) (rs := [.int .i64 n, .imm .arg 2 (l.map encP)]) (by simp only [mapO, arg_pairs']; rfl) (res := .tuple [.agg [.own 0 [], .nilmap], .bool false]) (by simp only [newTree46, mapO_map decP_enc]; rw [newTreeF, if_neg hg])]
  rfl
theorem same_rows (adj : List (List Nat)) : sameH [.arr 1 (adj.map rowO) true 0] [.arr 1 (adj.map rowO) true 0] = true := same_arr fun v hv => by
  obtain ⟨r, _, rfl⟩ := List.mem_map.1 hv
  have : sameL (r.map encN) (r.map encN) = true := sameL_all fun v hv => by
    obtain ⟨k, _, rfl⟩ := List.mem_map.1 hv
    simp [encN, encI, same]
  simp [rowO, same, this]
theorem mem_start (adj : List (List Nat)) (T : Int → Int → Int) : Mem adj T [.arr 1 (adj.map rowO) true 0, .map [] [] 0] := by
  refine ⟨rfl, ⟨[], rfl⟩, ?_, by simp [mxs, Blk.mx]⟩
  have := same_rows adj
  simp only [sameH, Bool.and_eq_true] at this ⊢
  simp [this.1.1.1.2, sameL]
section
variable {adj : List (List Nat)} {T : Int → Int → Int} {n : Nat}
theorem Gr.cut_set {H H0 : Heap} (h : Gr adj T H H0) (h2 : 2 ≤ H.length) {k : Nat} (hk : 2 ≤ k ∧ k < H.length) (l : List Int) {r : Nat} (hr : r ≤ H.length) :
    Mem adj T (gc H.length r (H0.set k (bI l))) ∧ (gc H.length r (H0.set k (bI l))).length = H.length ∧ (gc H.length r (H0.set k (bI l)))[k]? = some (bI l) ∧ ∀ j, j ≠ 1 → j ≠ k → (gc H.length r (H0.set k (bI l)))[j]? = H[j]? := by
  have hG : Gr adj T (H.set k (bI l)) (H0.set k (bI l)) := by
    refine ⟨h.mem.set hk.1 (same_bI l) (Nat.zero_le _), by simp [h.len], fun j h1 hj => ?_, ?_⟩
    · rw [List.length_set] at hj
      rw [List.getElem?_set, List.getElem?_set]
      have := h.len
      by_cases e : k = j
      · rw [if_pos e, if_pos e, if_pos (by omega), if_pos (by omega)]
      · rw [if_neg e, if_neg e]; exact h.same j h1 hj
    · rw [List.length_set, mxs_le]
      intro B hB
      rcases List.mem_or_eq_of_mem_set hB with hB | rfl
      · exact mxs_le.1 h.mx B hB
      · exact Nat.zero_le _
  have hc := hG.cut (r := r) (by rw [List.length_set]; exact h2) (by rw [List.length_set]; exact hr)
  rw [List.length_set] at hc
  obtain ⟨c1, c2, c3⟩ := hc
  refine ⟨c1, c2, ?_, fun j h1 hj => ?_⟩
  · rw [c3 k (by omega)]; exact List.getElem?_set_self hk.2
  · rw [c3 j h1, List.getElem?_set_ne (fun e => hj e.symm)]
end
section
variable {adj : List (List Nat)} {T : Int → Int → Int} {n : Nat}
/-- The memory in 'Centers'. -/
structure CM (adj : List (List Nat)) (T : Int → Int → Int) (n : Nat) (ts o : List Int) (H : Heap) : Prop where
  mem : Mem adj T H
  len : H.length = 5
  t : H[2]? = some (boxT n)
  ts : H[3]? = some (bI ts)
  o : H[4]? = some (bI o)
end
section
variable {adj : List (List Nat)} {T : Int → Int → Int} {n : Nat}
abbrev ceE (n : Int) (lc : List HV) (k i : Nat) : Env := env17 (.int .i64 n) (.imm .arg 2 lc) (.imm .lit 1 []) (.int .i64 0) (.int .i64 0) (.ptr 2 0 0 1) .undef (.sl 3 0 k none k 1) (.sl 4 0 0 none 0 1) .undef .undef .undef .undef (.int .i64 n) (.int .i64 (i : Int)) .undef .undef .undef
end
section
variable {adj : List (List Nat)} {T : Int → Int → Int} {n : Nat}
theorem take_map_range (f : Nat → Int) {n i : Nat} (h : i < n) : ((List.range n).map f).take (i + 1) = ((List.range n).map f).take i ++ [f i] := by
  rw [List.take_add_one]
  simp [h]
end
section
variable {adj : List (List Nat)} {T : Int → Int → Int} {n : Nat}
theorem ce_loop1 {lc : List HV} (hn : n ≤ 30) (hT : ∀ i : Nat, i < n → TimeOk adj T n i (-1)) : ∀ d i H, i + d = n → CM adj T n (((List.range n).map fun i : Nat => T i (-1)).take i) [] H →
    ∃ H', RunsTo Try.prog polS 17 (sub [1, 1, 1, 1, 0, 1, 0] B17) (ceE n lc i i) H (.exit 0) (polS.keys 17) (ceE n lc n n) H' ∧ CM adj T n ((List.range n).map fun i : Nat => T i (-1)) [] H' := by
  intro d
  induction d with
  | zero =>
    intro i H hi hC
    have hi : i = n := by omega
    subst hi
    rw [List.take_of_length_le (by simp)] at hC
    exact ⟨H, RunsTo.loop_out (ce_l_1 0 (i : Int) lc i H i i (by omega)) (by simp) (by kernel_rfl) (by kernel_rfl), hC⟩
  | succ d ih =>
    intro i H hi hC
    obtain ⟨H0, hcl, hG⟩ := hT i (by omega) H hC.mem
    obtain ⟨N, hN⟩ := hcl.from
    have h3 : H0[3]? = some (bI (((List.range n).map fun i : Nat => T i (-1)).take i)) := by rw [hG.same 3 (by omega) (by rw [hC.len]; omega)]; exact hC.ts
    have hlen : (((List.range n).map fun i : Nat => T i (-1)).take i).length = i := by simp; omega
    have ha := appV_ints (xs := [T i (-1)]) h3 (by rw [hlen]; simp; omega) (by simp)
    rw [← take_map_range (fun i : Nat => T i (-1)) (by omega), hlen] at ha
    have s := ce_l_0 N (n : Int) lc n H i i (T i (-1)) H0 _ (by omega) (ld_T hC.t) hN ha
    rw [wrap_succ (by omega)] at s
    have hlt := hC.len
    obtain ⟨c1, c2, c3, c4⟩ := hG.cut_set (by omega) (k := 3) (by omega) (((List.range n).map fun i : Nat => T i (-1)).take (i + 1)) (r := bndE (ceE n lc (i + 1) (i + 1))) (by simp only [bndE, bnd]; omega)
    obtain ⟨H', r, hC'⟩ := ih (i + 1) _ (by omega) ⟨c1, by rw [c2]; exact hC.len, by rw [c4 2 (by omega) (by omega)]; exact hC.t, c3, by rw [c4 4 (by omega) (by omega)]; exact hC.o⟩
    exact ⟨H', RunsTo.loop s (by kernel_rfl) rfl r rfl (by kernel_rfl) (by kernel_rfl), hC'⟩
end
section
variable {adj : List (List Nat)} {T : Int → Int → Int} {n : Nat}
abbrev cmE (n : Int) (lc : List HV) (le : Int) (k i j : Nat) : Env := env17 (.int .i64 n) (.imm .arg 2 lc) (.imm .lit 1 []) (.int .i64 0) (.int .i64 0) .undef .undef .undef (.sl 4 0 j none j 1) .undef (.int .i64 le) .undef .undef .undef .undef (.sl 3 0 k none k 1) (.int .i64 (k : Int)) (.int .i64 (i : Int))
end
section
variable {adj : List (List Nat)} {T : Int → Int → Int} {n : Nat}
theorem ce_loop2 {lc : List HV} {m : Int} {le : Int} {ts : List Int} (hts : ts.length = n) (hn : n ≤ 30) : ∀ d i (o : List Int) H, i + d = n → o.length ≤ i → H[3]? = some (bI ts) → H[4]? = some (bI o) →
    ∃ H', RunsTo Try.prog polS 17 (sub [1, 1, 1, 1, 1, 1, 0, 1, 0] B17) (cmE m lc le n i o.length) H (.exit 2) (polS.keys 17) (cmE m lc le n n (o ++ sel le i (ts.drop i)).length) H' ∧ H'[4]? = some (bI (o ++ sel le i (ts.drop i))) := by
  intro d
  induction d with
  | zero =>
    intro i o H hi ho h3 h4
    have hi : i = n := by omega
    subst hi
    rw [List.drop_of_length_le (by omega), sel, List.append_nil]
    exact ⟨H, RunsTo.loop_out (ce_m_2 0 m lc 0 H i i o.length le (by omega)) (by simp) (by kernel_rfl) (by kernel_rfl), h4⟩
  | succ d ih =>
    intro i o H hi ho h3 h4
    have hit : i < ts.length := by omega
    rw [List.drop_eq_getElem_cons hit, sel, ← getD_at hit]
    by_cases c : ts.getD i 0 = le
    · rw [if_pos c]
      have ha := appV_ints (xs := [(i : Int)]) h4 (by simp; omega) (by simp)
      have s := ce_m_0 0 m lc 0 H n i o.length le _ _ (by omega) (gi2 (by omega)) (gl2 h3 hts (by omega)) c ha
      rw [wrap_succ (by omega)] at s
      obtain ⟨H', r, h5⟩ := ih (i + 1) (o ++ [(i : Int)]) (H.set 4 (bI (o ++ [(i : Int)]))) (by omega) (by simp; omega) (by rw [List.getElem?_set_ne (by omega)]; exact h3) (List.getElem?_set_self (lt_of_get h4))
      rw [List.append_assoc, List.singleton_append] at r h5
      rw [List.length_append, List.length_singleton] at r
      exact ⟨H', RunsTo.loop s (by kernel_rfl) (gc_eq _ (by simp)) r rfl (by kernel_rfl) (by kernel_rfl), h5⟩
    · rw [if_neg c]
      have s := ce_m_1 0 m lc 0 H n i o.length le _ (by omega) (gi2 (by omega)) (gl2 h3 hts (by omega)) c
      rw [wrap_succ (by omega)] at s
      obtain ⟨H', r, h5⟩ := ih (i + 1) o H (by omega) (by omega) h3 h4
      exact ⟨H', RunsTo.loop s (by kernel_rfl) (gc_eq _ rfl) r rfl (by kernel_rfl) (by kernel_rfl), h5⟩
end
/-- What 'Centers' answers. -/
def centersF (n : Int) (l : List (Int × Int)) : HV := if treeOk n l = true then .tuple [.own 1 ((sel (minL (timesL n.toNat l)) 0 (timesL n.toNat l)).map encI), .int .i64 (minL (timesL n.toNat l)), .int .i64 0] else .tuple [.own 1 [], .int .i64 0, .int .i64 2]
def centers17 : List HV → Option HV
  | [.int .i64 n, .imm .arg 2 lc] => match mapO decP lc with | some l => some (centersF n l) | none => none
  | _ => none
theorem centers17_ok : PrimOk Try.prog 17 centers17 := by
  refine primOk_pure (pol := polS) (fn := Try.f17) (cd := B17) follows_mixed soundS (by kernel_rfl) (by kernel_rfl) (fnok polS.prim _ _ (by kernel_rfl)) (by kernel_rfl) ?_
  intro args res h
  unfold centers17 at h
  split at h
  · rename_i n lc
    split at h
    · rename_i l hl
      cases h
      rw [mapO_inv decP_inv hl]
      have a := ce_a_0 0 n (l.map encP)
      by_cases hg : ((1 ≤ n ∧ n ≤ 30) ∧ (l.length : Int) = n - 1) ∧ l.all (validB n) = true
      · obtain ⟨m, rfl⟩ : ∃ m : Nat, n = (m : Int) := ⟨n.toNat, by omega⟩
        cases hb : farOk (adjOf m l) with
        | true =>
          have hok : treeOk (m : Int) l = true := by rw [treeOk, Bool.and_eq_true, decide_eq_true_eq]; exact ⟨hg, by rw [Int.toNat_natCast]; exact hb⟩
          have hF : centersF (m : Int) l = .tuple [.own 1 ((sel (minL (timesL m l)) 0 (timesL m l)).map encI), .int .i64 (minL (timesL m l)), .int .i64 0] := by rw [centersF, if_pos hok, Int.toNat_natCast]
          rw [hF]
          have b := ce_b_0 0 (m : Int) (l.map encP) m _ (s46_ok hg true hb)
          have c := ce_c_0 0 (m : Int) (l.map encP) m ((adjOf m l).map rowO)
          have d := ce_d_0 0 (m : Int) (l.map encP) m ((adjOf m l).map rowO)
          have hC : CM (adjOf m l) (tm (rowE l)) m [] [] [.arr 1 ((adjOf m l).map rowO) true 0, .map [] [] 0, boxT m, bI [], bI []] := by
            have h1 := ((mem_start (adjOf m l) (tm (rowE l))).app (same_T m) (by show 2 ≤ _; simp)).app (same_bI []) (Nat.zero_le _)
            have h2 := h1.app (same_bI []) (Nat.zero_le _)
            exact ⟨h2, rfl, rfl, rfl, rfl⟩
          have e := ce_e_0 0 (m : Int) (l.map encP) m [.arr 1 ((adjOf m l).map rowO) true 0, .map [] [] 0, boxT m, bI [], bI []]
          obtain ⟨H1, r1, hC1⟩ := ce_loop1 (lc := l.map encP) (n := m) (by omega) (fun i hi => (tree_time hok (x := (i : Int)) (by omega)).1) m 0 _ (by omega) (by rw [List.take_zero]; exact hC)
          have r1' := RunsTo.loop_in (e0 := env17 (.int .i64 (m : Int)) (.imm .arg 2 (l.map encP)) (.imm .lit 1 []) (.int .i64 0) (.int .i64 0) (.ptr 2 0 0 1) (.bool true) (.sl 3 0 0 none 0 1) (.sl 4 0 0 none 0 1) .undef .undef .undef .undef (.int .i64 (m : Int)) (.int .i64 0) .undef .undef .undef) r1 (b := sub [1, 1, 1, 1, 0, 1, 0, 0] B17) (by kernel_rfl) (by kernel_rfl) (by kernel_rfl)
          have htl : (timesL m l).length = m := by simp [timesL]
          obtain ⟨N, hN⟩ := (min_call (l := timesL m l) hC1.ts htl (by omega) (by omega)).from
          have f := ce_f_0 N (m : Int) (l.map encP) m H1 m m _ H1 hN
          have g := ce_g_0 0 (m : Int) (l.map encP) m H1 m m (minL (timesL m l))
          obtain ⟨H2, r2, h4⟩ := ce_loop2 (lc := l.map encP) (m := (m : Int)) (le := minL (timesL m l)) htl (by omega) m 0 [] H1 (by omega) (by simp) hC1.ts hC1.o
          rw [List.drop_zero, List.nil_append] at r2 h4
          have r2' := RunsTo.loop_in (e0 := env17 (.int .i64 (m : Int)) (.imm .arg 2 (l.map encP)) (.imm .lit 1 []) (.int .i64 0) (.int .i64 0) (.ptr 2 0 0 1) .undef (.sl 3 0 m none m 1) (.sl 4 0 0 none 0 1) .undef (.int .i64 (minL (timesL m l))) .undef .undef (.int .i64 (m : Int)) (.int .i64 (m : Int)) (.sl 3 0 m none m 1) (.int .i64 (m : Int)) (.int .i64 0)) r2 (b := sub [1, 1, 1, 1, 1, 1, 0, 1, 0, 0] B17) (by kernel_rfl) (by kernel_rfl) (by kernel_rfl)
          have z := ce_z_0 0 (m : Int) (l.map encP) m H2 m m (sel (minL (timesL m l)) 0 (timesL m l)).length (minL (timesL m l))
          have t1 := RunsTo.seq g (RunsTo.block_exit (c := sub [1, 1, 1, 1, 1, 1, 0, 1] B17) r2' (by kernel_rfl)) (c := sub [1, 1, 1, 1, 1, 1, 0] B17) (by kernel_rfl) (by kernel_rfl)
          have t2 := RunsTo.seq f (RunsTo.seq t1 z (c := sub [1, 1, 1, 1, 1, 1] B17) (by kernel_rfl) (by kernel_rfl)) (c := sub [1, 1, 1, 1, 1] B17) (by kernel_rfl) (by kernel_rfl)
          have t3 := RunsTo.seq e (RunsTo.block_exit (c := sub [1, 1, 1, 1, 0, 1] B17) r1' (by kernel_rfl)) (c := sub [1, 1, 1, 1, 0] B17) (by kernel_rfl) (by kernel_rfl)
          have t4 := RunsTo.seq d (RunsTo.seq t3 t2 (c := sub [1, 1, 1, 1] B17) (by kernel_rfl) (by kernel_rfl)) (c := sub [1, 1, 1] B17) (by kernel_rfl) (by kernel_rfl)
          have t5 := RunsTo.seq b (RunsTo.seq c t4 (c := sub [1, 1] B17) (by kernel_rfl) (by kernel_rfl)) (c := sub [1] B17) (by kernel_rfl) (by kernel_rfl)
          exact ⟨_, _, _, _, RunsTo.seq a t5 (c := B17) (by kernel_rfl) (by kernel_rfl), by simp, by simp only [resultsV, res17, mapO, resultV]; rfl, res_out h4 rfl [minL (timesL m l), 0]⟩
        | false =>
          have hok : ¬ treeOk (m : Int) l = true := by rw [treeOk, Bool.and_eq_true, Int.toNat_natCast, hb]; simp
          rw [centersF, if_neg hok]
          have b := ce_b_1 0 (m : Int) (l.map encP) m _ (s46_ok hg false hb)
          have c := ce_cf_0 0 (m : Int) (l.map encP) m ((adjOf m l).map rowO)
          have t1 := RunsTo.seq b (RunsTo.seq_out c (by simp) (c := sub [1, 1] B17) (b := sub [1, 1, 1] B17) (by kernel_rfl)) (c := sub [1] B17) (by kernel_rfl) (by kernel_rfl)
          exact ⟨_, _, _, _, RunsTo.seq a t1 (c := B17) (by kernel_rfl) (by kernel_rfl), by simp, by simp only [resultsV, res17, mapO, resultV]; rfl, rfl⟩
      · have hok : ¬ treeOk n l = true := by rw [treeOk, Bool.and_eq_true, decide_eq_true_eq]; exact fun h => hg h.1
        rw [centersF, if_neg hok]
        have b := ce_b_2 0 n (l.map encP) (s46_bad hg)
        have c := ce_cb_0 0 n (l.map encP)
        have t1 := RunsTo.seq b (RunsTo.seq_out c (by simp) (c := sub [1, 1] B17) (b := sub [1, 1, 1] B17) (by kernel_rfl)) (c := sub [1] B17) (by kernel_rfl) (by kernel_rfl)
        exact ⟨_, _, _, _, RunsTo.seq a t1 (c := B17) (by kernel_rfl) (by kernel_rfl), by simp, by simp only [resultsV, res17, mapO, resultV]; rfl, rfl⟩
    · cases h
  · cases h
end Go.Proofs.Ytmhfkhlamnapdaa
end
section
open Go Go.HL
namespace Go.Proofs.Ytmhfkhlamnapdaa
theorem res24 : Try.f24.results.toList = [.tmp 6, .tmp 7] := by kernel_rfl
theorem res25 : Try.f25.results.toList = [.tmp 6, .tmp 7] := by kernel_rfl
def timeF (n : Int) (l : List (Int × Int)) (x : Int) : Int × Int := if treeOk n l = true ∧ (0 ≤ x ∧ x ≤ n - 1) then (tm (rowE l) x (-1), 0) else (0, 2)
def time24 : List HV → Option HV
  | [.int .i64 n, .imm .arg 2 lc, .int .i64 x] => match mapO decP lc with | some l => some (.tuple [.int .i64 (timeF n l x).1, .int .i64 (timeF n l x).2]) | none => none
  | _ => none
def pfarF (n : Int) (l : List (Int × Int)) (x : Int) : List Int × Int := if treeOk n l = true ∧ (0 ≤ x ∧ x ≤ n - 1) then (farF (adjOf n.toNat l) x.toNat, 0) else ([], 2)
def far25 : List HV → Option HV
  | [.int .i64 n, .imm .arg 2 lc, .int .i64 x] => match mapO decP lc with | some l => some (.tuple [.own 1 ((pfarF n l x).1.map encI), .int .i64 (pfarF n l x).2]) | none => none
  | _ => none
theorem s49 (a b : Int) (H : Heap) (r : Bool) (h : decide (0 ≤ a ∧ a ≤ b) = r) : ∀ kf, callN Try.prog polS (kf + 1) 49 [.int .i64 a, .int .i64 0, .int .i64 b] H = some (.bool r, H) := fun kf => by
  rw [prim_call (pol := polS) (g := 49) (F := withinF) (by kernel_rfl) (rs := [.int .i64 a, .int .i64 0, .int .i64 b]) rfl (res := .bool r) (by rw [← h]; rfl)]; rfl
theorem s50 {n : Nat} {l : List (Int × Int)} (hn : n ≤ 30) (hl : l.length ≤ 40) (hv : ∀ p ∈ l, validB (n : Int) p = true) {x : Int} (hx : 0 ≤ x ∧ x < (n : Int)) : ∀ kf, callN Try.prog polS (kf + 1) 50 [TV n, .int .i64 x] [.arr 1 ((adjOf n l).map rowO) true 0, .map [] [] 0, boxT n] = some (.sl 3 0 n none n 1, [.arr 1 ((adjOf n l).map rowO) true 0, .map [] [] 0, boxT n, bI (farF (adjOf n l) x.toNat)]) := fun kf => by
  have hA := adjOf_inv hv
  have hrow : ∀ rs : List (List Nat), mapO (toArg [.arr 1 ((adjOf n l).map rowO) true 0, .map [] [] 0, boxT n] 4) (rs.map rowO) = some (rs.map encR) := by
    intro rs
    induction rs with
    | nil => rfl
    | cons r rs ih =>
      have e : toArg [.arr 1 ((adjOf n l).map rowO) true 0, .map [] [] 0, boxT n] 4 (rowO r) = some (encR r) := by
        show (match argPL (r.map encN) with | some l => some (HV.imm .arg 1 l) | none => none) = _
        rw [rowI_enc, argP_ints', encR, rowI_enc]
      simp only [List.map_cons, mapO, e, ih]
  have ha : toArg [.arr 1 ((adjOf n l).map rowO) true 0, .map [] [] 0, boxT n] 6 (TV n) = some (.agg [.imm .arg 1 ((adjOf n l).map encR), .imap .arg [] []]) := by
    have e : toArg [.arr 1 ((adjOf n l).map rowO) true 0, .map [] [] 0, boxT n] 6 (TV n) = match mapO (toArg [.arr 1 ((adjOf n l).map rowO) true 0, .map [] [] 0, boxT n] 5) [.sl 0 0 n none n 1, .map 1] with | some l => some (.agg l) | none => none := rfl
    have e1 : toArg [.arr 1 ((adjOf n l).map rowO) true 0, .map [] [] 0, boxT n] 5 (.sl 0 0 n none n 1) = some (.imm .arg 1 ((adjOf n l).map encR)) := by
      have e : toArg [.arr 1 ((adjOf n l).map rowO) true 0, .map [] [] 0, boxT n] 5 (.sl 0 0 n none n 1) = if n = 0 then some (.imm .arg 1 []) else match view [.arr 1 ((adjOf n l).map rowO) true 0, .map [] [] 0, boxT n] 0 0 n n 1 with | some l' => (match mapO (toArg [.arr 1 ((adjOf n l).map rowO) true 0, .map [] [] 0, boxT n] 4) l' with | some l => some (.imm .arg 1 l) | none => none) | none => none := rfl
      have hv : view [.arr 1 ((adjOf n l).map rowO) true 0, .map [] [] 0, boxT n] 0 0 n n 1 = some ((adjOf n l).map rowO) := by
        have h0 : ([.arr 1 ((adjOf n l).map rowO) true 0, .map [] [] 0, boxT n] : Heap)[0]? = some (.arr 1 ((adjOf n l).map rowO) true 0) := rfl
        simp only [view, h0, List.length_map, hA.len]
        rw [if_pos ⟨trivial, by omega, trivial⟩, List.drop_zero, List.take_of_length_le (by rw [List.length_map, hA.len]; omega)]
      rw [e, if_neg (by omega), hv]
      simp only [hrow]
    have e2 : toArg [.arr 1 ((adjOf n l).map rowO) true 0, .map [] [] 0, boxT n] 5 (.map 1) = some (.imap .arg [] []) := rfl
    rw [e]
    simp only [mapO, e1, e2]
  have hok : rowsOk (adjOf n l) = true := rowsOk_iff.2 fun r hr => by
    have := hA.row r hr
    rw [hA.len]
    exact ⟨by omega, this.2⟩
  rw [prim_call (pol := polS) (g := 50) (F := far50) (by kernel_rfl) (rs := [.agg [.imm .arg 1 ((adjOf n l).map encR), .imap .arg [] []], .int .i64 x]) (by simp only [mapO, ha]; rfl) (res := .own 1 ((farF (adjOf n l) x.toNat).map encI)) (by
    simp only [far50, mapO_map decR_enc]
    rw [if_pos ⟨⟨by rw [hA.len]; omega, hok⟩, hx.1, by rw [hA.len]; exact hx.2⟩]), recv_ints]
  have hlen : (farF (adjOf n l) x.toNat).length = n := by rw [farF, bfs_len]; exact hA.len
  rw [hlen]
  rfl
theorem time24_ok : PrimOk Try.prog 24 time24 := by
  refine primOk_pure (pol := polS) (fn := Try.f24) (cd := B24) follows_mixed soundS (by kernel_rfl) (by kernel_rfl) (fnok polS.prim _ _ (by kernel_rfl)) (by kernel_rfl) ?_
  intro args res h
  unfold time24 at h
  split at h
  · rename_i n lc x
    split at h
    · rename_i l hl
      cases h
      rw [mapO_inv decP_inv hl]
      have a := tg_a_0 0 n (l.map encP) x
      by_cases hg : ((1 ≤ n ∧ n ≤ 30) ∧ (l.length : Int) = n - 1) ∧ l.all (validB n) = true
      · obtain ⟨m, rfl⟩ : ∃ m : Nat, n = (m : Int) := ⟨n.toNat, by omega⟩
        have hw : IntKind.i64.wrap ((m : Int) - 1) = (m : Int) - 1 := by rw [wrapI64]; omega
        cases hb : farOk (adjOf m l) with
        | true =>
          have hok : treeOk (m : Int) l = true := by rw [treeOk, Bool.and_eq_true, decide_eq_true_eq]; exact ⟨hg, by rw [Int.toNat_natCast]; exact hb⟩
          have b := tg_b_0 0 (m : Int) (l.map encP) x m _ (s46_ok hg true hb)
          by_cases hx : 0 ≤ x ∧ x ≤ (m : Int) - 1
          · have hF : timeF (m : Int) l x = (tm (rowE l) x (-1), 0) := by rw [timeF, if_pos ⟨hok, hx⟩]
            rw [hF]
            have c := tg_c_0 0 (m : Int) (l.map encP) x m ((adjOf m l).map rowO) (by rw [hw]; exact s49 _ _ _ true (decide_eq_true hx))
            have hM : Mem (adjOf m l) (tm (rowE l)) [.arr 1 ((adjOf m l).map rowO) true 0, .map [] [] 0, boxT m] := (mem_start (adjOf m l) (tm (rowE l))).app (same_T m) (by show 2 ≤ _; simp)
            obtain ⟨H1, hcl, _⟩ := (tree_time hok (x := x) (by omega)).1 _ hM
            obtain ⟨N, hN⟩ := hcl.from
            have z := tg_z_0 N (m : Int) (l.map encP) x m ((adjOf m l).map rowO) _ H1 hN
            have t1 := RunsTo.seq c z (c := sub [1, 1] B24) (by kernel_rfl) (by kernel_rfl)
            have t2 := RunsTo.seq b t1 (c := sub [1] B24) (by kernel_rfl) (by kernel_rfl)
            exact ⟨_, _, _, _, RunsTo.seq a t2 (c := B24) (by kernel_rfl) (by kernel_rfl), by simp, by simp only [resultsV, res24, mapO, resultV]; rfl, rfl⟩
          · have hF : timeF (m : Int) l x = (0, 2) := by rw [timeF, if_neg (fun h => hx h.2)]
            rw [hF]
            have c := tg_c_1 0 (m : Int) (l.map encP) x m ((adjOf m l).map rowO) (by rw [hw]; exact s49 _ _ _ false (decide_eq_false hx))
            have t2 := RunsTo.seq b (RunsTo.seq_out c (by simp) (c := sub [1, 1] B24) (b := sub [1, 1, 1] B24) (by kernel_rfl)) (c := sub [1] B24) (by kernel_rfl) (by kernel_rfl)
            exact ⟨_, _, _, _, RunsTo.seq a t2 (c := B24) (by kernel_rfl) (by kernel_rfl), by simp, by simp only [resultsV, res24, mapO, resultV]; rfl, rfl⟩
        | false =>
          have hok : ¬ treeOk (m : Int) l = true := by rw [treeOk, Bool.and_eq_true, Int.toNat_natCast, hb]; simp
          have hF : timeF (m : Int) l x = (0, 2) := by rw [timeF, if_neg (fun h => hok h.1)]
          rw [hF]
          have b := tg_b_1 0 (m : Int) (l.map encP) x m _ (s46_ok hg false hb)
          have c := tg_cf_0 0 (m : Int) (l.map encP) x m ((adjOf m l).map rowO)
          have t2 := RunsTo.seq b (RunsTo.seq_out c (by simp) (c := sub [1, 1] B24) (b := sub [1, 1, 1] B24) (by kernel_rfl)) (c := sub [1] B24) (by kernel_rfl) (by kernel_rfl)
          exact ⟨_, _, _, _, RunsTo.seq a t2 (c := B24) (by kernel_rfl) (by kernel_rfl), by simp, by simp only [resultsV, res24, mapO, resultV]; rfl, rfl⟩
      · have hok : ¬ treeOk n l = true := by rw [treeOk, Bool.and_eq_true, decide_eq_true_eq]; exact fun h => hg h.1
        have hF : timeF n l x = (0, 2) := by rw [timeF, if_neg (fun h => hok h.1)]
        rw [hF]
        have b := tg_b_2 0 n (l.map encP) x (s46_bad hg)
        have c := tg_cb_0 0 n (l.map encP) x
        have t2 := RunsTo.seq b (RunsTo.seq_out c (by simp) (c := sub [1, 1] B24) (b := sub [1, 1, 1] B24) (by kernel_rfl)) (c := sub [1] B24) (by kernel_rfl) (by kernel_rfl)
        exact ⟨_, _, _, _, RunsTo.seq a t2 (c := B24) (by kernel_rfl) (by kernel_rfl), by simp, by simp only [resultsV, res24, mapO, resultV]; rfl, rfl⟩
    · cases h
  · cases h
theorem far25_ok : PrimOk Try.prog 25 far25 := by
  refine primOk_pure (pol := polS) (fn := Try.f25) (cd := B25) follows_mixed soundS (by kernel_rfl) (by kernel_rfl) (fnok polS.prim _ _ (by kernel_rfl)) (by kernel_rfl) ?_
  intro args res h
  unfold far25 at h
  split at h
  · rename_i n lc x
    split at h
    · rename_i l hl
      cases h
      rw [mapO_inv decP_inv hl]
      have a := fr_a_0 0 n (l.map encP) x
      by_cases hg : ((1 ≤ n ∧ n ≤ 30) ∧ (l.length : Int) = n - 1) ∧ l.all (validB n) = true
      · obtain ⟨m, rfl⟩ : ∃ m : Nat, n = (m : Int) := ⟨n.toNat, by omega⟩
        have hw : IntKind.i64.wrap ((m : Int) - 1) = (m : Int) - 1 := by rw [wrapI64]; omega
        cases hb : farOk (adjOf m l) with
        | true =>
          have hok : treeOk (m : Int) l = true := by rw [treeOk, Bool.and_eq_true, decide_eq_true_eq]; exact ⟨hg, by rw [Int.toNat_natCast]; exact hb⟩
          have b := fr_b_0 0 (m : Int) (l.map encP) x m _ (s46_ok hg true hb)
          by_cases hx : 0 ≤ x ∧ x ≤ (m : Int) - 1
          · have hF : pfarF (m : Int) l x = (farF (adjOf m l) x.toNat, 0) := by rw [pfarF, if_pos ⟨hok, hx⟩, Int.toNat_natCast]
            rw [hF]
            have c := fr_c_0 0 (m : Int) (l.map encP) x m ((adjOf m l).map rowO) (by rw [hw]; exact s49 _ _ _ true (decide_eq_true hx))
            have z := fr_z_0 0 (m : Int) (l.map encP) x m ((adjOf m l).map rowO) _ _ (s50 (by omega) (by omega) (List.all_eq_true.1 hg.2) (by omega))
            have hlen : (farF (adjOf m l) x.toNat).length = m := by rw [farF, bfs_len]; exact (adjOf_inv (List.all_eq_true.1 hg.2)).len
            have t1 := RunsTo.seq c z (c := sub [1, 1] B25) (by kernel_rfl) (by kernel_rfl)
            have t2 := RunsTo.seq b t1 (c := sub [1] B25) (by kernel_rfl) (by kernel_rfl)
            exact ⟨_, _, _, _, RunsTo.seq a t2 (c := B25) (by kernel_rfl) (by kernel_rfl), by simp, by simp only [resultsV, res25, mapO, resultV]; rfl, res_out (b := 3) rfl hlen [0]⟩
          · have hF : pfarF (m : Int) l x = ([], 2) := by rw [pfarF, if_neg (fun h => hx h.2)]
            rw [hF]
            have c := fr_c_1 0 (m : Int) (l.map encP) x m ((adjOf m l).map rowO) (by rw [hw]; exact s49 _ _ _ false (decide_eq_false hx))
            have t2 := RunsTo.seq b (RunsTo.seq_out c (by simp) (c := sub [1, 1] B25) (b := sub [1, 1, 1] B25) (by kernel_rfl)) (c := sub [1] B25) (by kernel_rfl) (by kernel_rfl)
            exact ⟨_, _, _, _, RunsTo.seq a t2 (c := B25) (by kernel_rfl) (by kernel_rfl), by simp, by simp only [resultsV, res25, mapO, resultV]; rfl, rfl⟩
        | false =>
          have hok : ¬ treeOk (m : Int) l = true := by rw [treeOk, Bool.and_eq_true, Int.toNat_natCast, hb]; simp
          have hF : pfarF (m : Int) l x = ([], 2) := by rw [pfarF, if_neg (fun h => hok h.1)]
          rw [hF]
          have b := fr_b_1 0 (m : Int) (l.map encP) x m _ (s46_ok hg false hb)
          have c := fr_cf_0 0 (m : Int) (l.map encP) x m ((adjOf m l).map rowO)
          have t2 := RunsTo.seq b (RunsTo.seq_out c (by simp) (c := sub [1, 1] B25) (b := sub [1, 1, 1] B25) (by kernel_rfl)) (c := sub [1] B25) (by kernel_rfl) (by kernel_rfl)
          exact ⟨_, _, _, _, RunsTo.seq a t2 (c := B25) (by kernel_rfl) (by kernel_rfl), by simp, by simp only [resultsV, res25, mapO, resultV]; rfl, rfl⟩
      · have hok : ¬ treeOk n l = true := by rw [treeOk, Bool.and_eq_true, decide_eq_true_eq]; exact fun h => hg h.1
        have hF : pfarF n l x = ([], 2) := by rw [pfarF, if_neg (fun h => hok h.1)]
        rw [hF]
        have b := fr_b_2 0 n (l.map encP) x (s46_bad hg)
        have c := fr_cb_0 0 n (l.map encP) x
        have t2 := RunsTo.seq b (RunsTo.seq_out c (by simp) (c := sub [1, 1] B25) (b := sub [1, 1, 1] B25) (by kernel_rfl)) (c := sub [1] B25) (by kernel_rfl) (by kernel_rfl)
        exact ⟨_, _, _, _, RunsTo.seq a t2 (c := B25) (by kernel_rfl) (by kernel_rfl), by simp, by simp only [resultsV, res25, mapO, resultV]; rfl, rfl⟩
    · cases h
  · cases h
end Go.Proofs.Ytmhfkhlamnapdaa
end
section
open Go Go.HL
namespace Go.Proofs.Ytmhfkhlamnapdaa
/-- The policy of the made trees. -/
def primT1 (g : FuncId) : Option (List HV → Option HV) := if g == 22 then some modF else none
def polT1 : Pol := { pol with prim := primT1 }
theorem primT1_ok (g : FuncId) (f : List HV → Option HV) (h : primT1 g = some f) : PrimOk Try.prog g f := by
  unfold primT1 at h
  split at h
  · rename_i hg; cases h; rw [eq_of_beq hg]; exact mod_ok
  · cases h
theorem soundT1 (n : Nat) : CallSound Try.prog (callN Try.prog polT1 n) := sound_prim primT1 primT1_ok n
end Go.Proofs.Ytmhfkhlamnapdaa
end
section
open Go Go.HL
namespace Go.Proofs.Ytmhfkhlamnapdaa
set_option maxRecDepth 100000
noncomputable def B23 : Code := Try.f23.body.getD .skip
abbrev env23 (v0 v1 v4 v5 v6 v7 : HV) : Env := [(0, v0), (1, v1), (4, v4), (5, v5), (6, v6), (7, v7)]
theorem tm_a_0 (la : List HV) (n : Int)   : RunsTo Try.prog polT1 23 (sub [0] B23) [(0, .imm .arg 1 la), (1, .int .i64 n)] [] (.normal) (polT1.keys 23) (env23 (.imm .arg 1 la) (.int .i64 n) (.imm .lit 2 []) .undef .undef .undef) [] :=
  RunsTo.hint 1 60 [] fun kf hk => by
    obtain ⟨kf, rfl⟩ : ∃ n, kf = n + 1 := ⟨kf - 1, by omega⟩
    exact ⟨[], by kernel_rfl, Obls.nil⟩
theorem tm_b_0 (la : List HV) (n : Int)   : RunsTo Try.prog polT1 23 (sub [1, 0] B23) (env23 (.imm .arg 1 la) (.int .i64 n) (.imm .lit 2 []) .undef .undef .undef) [] (.normal) (polT1.keys 23) (env23 (.imm .arg 1 la) (.int .i64 n) (.imm .lit 2 []) (.sl 0 0 0 none 0 2) .undef .undef) [.arr 2 [] true 0] :=
  RunsTo.hint 1 60 [] fun kf hk => by
    obtain ⟨kf, rfl⟩ : ∃ n, kf = n + 1 := ⟨kf - 1, by omega⟩
    exact ⟨[], by kernel_rfl, Obls.nil⟩
theorem tm_c_0 (la : List HV) (n : Int) (els : List HV) (p : Nat)   : RunsTo Try.prog polT1 23 (sub [1, 1, 0, 0] B23) (env23 (.imm .arg 1 la) (.int .i64 n) (.imm .lit 2 []) (.sl 0 0 p none p 2) .undef .undef) [.arr 2 els true 0] (.normal) (polT1.keys 23) (env23 (.imm .arg 1 la) (.int .i64 n) (.imm .lit 2 []) (.sl 0 0 p none p 2) (.int .i64 1) .undef) [.arr 2 els true 0] :=
  RunsTo.hint 1 60 [] fun kf hk => by
    obtain ⟨kf, rfl⟩ : ∃ n, kf = n + 1 := ⟨kf - 1, by omega⟩
    exact ⟨[], by kernel_rfl, Obls.nil⟩
theorem tm_l_0 (la : List HV) (n : Int) (els : List HV) (p : Nat) (j : Nat) (x0 : Int) (r0 : Int) (g0 : (j : Int) < n) (g1 : (j : Int) < (la.length : Int)) (g2 : idxV Try.prog 24 (.imm .arg 1 la) (.int .i64 (j : Int)) = some (.vptr (.int .i64 x0))) (g3 : ∀ kf, callN Try.prog polT1 (kf + 1) 22 [.int .i64 x0, .int .i64 (j : Int)] [.arr 2 els true 0] = some (.int .i64 r0, [.arr 2 els true 0])) (g4 : appV [.arr 2 els true 0] 2 16 (.sl 0 0 p none p 2) [.agg [.int .i64 r0, .int .i64 (j : Int)]] = some (.sl 0 0 (p + 1) none (p + 1) 2, [.arr 2 (els ++ [.agg [.int .i64 r0, .int .i64 (j : Int)]]) true 0])) : RunsTo Try.prog polT1 23 (sub [1, 1, 0, 1, 0, 0] B23) (env23 (.imm .arg 1 la) (.int .i64 n) (.imm .lit 2 []) (.sl 0 0 p none p 2) (.int .i64 (j : Int)) .undef) [.arr 2 els true 0] (.normal) (polT1.keys 23) (env23 (.imm .arg 1 la) (.int .i64 n) (.imm .lit 2 []) (.sl 0 0 (p + 1) none (p + 1) 2) (.int .i64 (IntKind.i64.wrap ((j : Int) + 1))) (.int .i64 r0)) [.arr 2 (els ++ [.agg [.int .i64 r0, .int .i64 (j : Int)]]) true 0] :=
  RunsTo.hint 1 60 [⟨3, 2, .bool true, [.arr 2 els true 0]⟩, ⟨6, 3, .bool true, [.arr 2 els true 0]⟩, ⟨7, 2, .vptr (.int .i64 x0), [.arr 2 els true 0]⟩, ⟨7, 5, .int .i64 r0, [.arr 2 els true 0]⟩, ⟨8, 5, .sl 0 0 (p + 1) none (p + 1) 2, [.arr 2 (els ++ [.agg [.int .i64 r0, .int .i64 (j : Int)]]) true 0]⟩] fun kf hk => by
    obtain ⟨kf, rfl⟩ : ∃ n, kf = n + 1 := ⟨kf - 1, by omega⟩
    exact ⟨[some (HV.bool (decide ((j : Int) < n)), ([.arr 2 els true 0] : Heap)) = some (.bool true, [.arr 2 els true 0]), some (HV.bool (decide ((j : Int) < (la.length : Int))), ([.arr 2 els true 0] : Heap)) = some (.bool true, [.arr 2 els true 0]), (idxV Try.prog 24 (.imm .arg 1 la) (.int .i64 (j : Int))).map (fun v => (v, ([.arr 2 els true 0] : Heap))) = some (.vptr (.int .i64 x0), [.arr 2 els true 0]), callN Try.prog polT1 (kf + 1) 22 [.int .i64 x0, .int .i64 (j : Int)] [.arr 2 els true 0] = some (.int .i64 r0, [.arr 2 els true 0]), appV [.arr 2 els true 0] 2 16 (.sl 0 0 p none p 2) [.agg [.int .i64 r0, .int .i64 (j : Int)]] = some (.sl 0 0 (p + 1) none (p + 1) 2, [.arr 2 (els ++ [.agg [.int .i64 r0, .int .i64 (j : Int)]]) true 0])], by kernel_rfl, Obls.cons (hintB (decide_eq_true g0)) (Obls.cons (hintB (decide_eq_true g1)) (Obls.cons (hintOp g2) (Obls.cons (g3 kf) (Obls.cons (g4) Obls.nil))))⟩
theorem tm_l_1 (la : List HV) (n : Int) (els : List HV) (p : Nat) (j : Nat)  (g0 : (j : Int) < n) (g1 : ¬ ((j : Int) < (la.length : Int))) (g2 : appV [.arr 2 els true 0] 2 16 (.sl 0 0 p none p 2) [.agg [.int .i64 (IntKind.i64.wrap ((j : Int) - 1)), .int .i64 (j : Int)]] = some (.sl 0 0 (p + 1) none (p + 1) 2, [.arr 2 (els ++ [.agg [.int .i64 (IntKind.i64.wrap ((j : Int) - 1)), .int .i64 (j : Int)]]) true 0])) : RunsTo Try.prog polT1 23 (sub [1, 1, 0, 1, 0, 0] B23) (env23 (.imm .arg 1 la) (.int .i64 n) (.imm .lit 2 []) (.sl 0 0 p none p 2) (.int .i64 (j : Int)) .undef) [.arr 2 els true 0] (.normal) (polT1.keys 23) (env23 (.imm .arg 1 la) (.int .i64 n) (.imm .lit 2 []) (.sl 0 0 (p + 1) none (p + 1) 2) (.int .i64 (IntKind.i64.wrap ((j : Int) + 1))) (.int .i64 (IntKind.i64.wrap ((j : Int) - 1)))) [.arr 2 (els ++ [.agg [.int .i64 (IntKind.i64.wrap ((j : Int) - 1)), .int .i64 (j : Int)]]) true 0] :=
  RunsTo.hint 1 60 [⟨3, 2, .bool true, [.arr 2 els true 0]⟩, ⟨6, 3, .bool false, [.arr 2 els true 0]⟩, ⟨8, 5, .sl 0 0 (p + 1) none (p + 1) 2, [.arr 2 (els ++ [.agg [.int .i64 (IntKind.i64.wrap ((j : Int) - 1)), .int .i64 (j : Int)]]) true 0]⟩] fun kf hk => by
    obtain ⟨kf, rfl⟩ : ∃ n, kf = n + 1 := ⟨kf - 1, by omega⟩
    exact ⟨[some (HV.bool (decide ((j : Int) < n)), ([.arr 2 els true 0] : Heap)) = some (.bool true, [.arr 2 els true 0]), some (HV.bool (decide ((j : Int) < (la.length : Int))), ([.arr 2 els true 0] : Heap)) = some (.bool false, [.arr 2 els true 0]), appV [.arr 2 els true 0] 2 16 (.sl 0 0 p none p 2) [.agg [.int .i64 (IntKind.i64.wrap ((j : Int) - 1)), .int .i64 (j : Int)]] = some (.sl 0 0 (p + 1) none (p + 1) 2, [.arr 2 (els ++ [.agg [.int .i64 (IntKind.i64.wrap ((j : Int) - 1)), .int .i64 (j : Int)]]) true 0])], by kernel_rfl, Obls.cons (hintB (decide_eq_true g0)) (Obls.cons (hintB (decide_eq_false g1)) (Obls.cons (g2) Obls.nil))⟩
theorem tm_l_2 (la : List HV) (n : Int) (els : List HV) (p : Nat) (j : Nat)  (g0 : ¬ ((j : Int) < n)) : RunsTo Try.prog polT1 23 (sub [1, 1, 0, 1, 0, 0] B23) (env23 (.imm .arg 1 la) (.int .i64 n) (.imm .lit 2 []) (.sl 0 0 p none p 2) (.int .i64 (j : Int)) .undef) [.arr 2 els true 0] (.exit 0) (polT1.keys 23) (env23 (.imm .arg 1 la) (.int .i64 n) (.imm .lit 2 []) (.sl 0 0 p none p 2) (.int .i64 (j : Int)) .undef) [.arr 2 els true 0] :=
  RunsTo.hint 1 60 [⟨3, 2, .bool false, [.arr 2 els true 0]⟩] fun kf hk => by
    obtain ⟨kf, rfl⟩ : ∃ n, kf = n + 1 := ⟨kf - 1, by omega⟩
    exact ⟨[some (HV.bool (decide ((j : Int) < n)), ([.arr 2 els true 0] : Heap)) = some (.bool false, [.arr 2 els true 0])], by kernel_rfl, Obls.cons (hintB (decide_eq_false g0)) Obls.nil⟩
theorem tm_z_0 (la : List HV) (n : Int) (els : List HV) (p : Nat) (j : Nat)   : RunsTo Try.prog polT1 23 (sub [1, 1, 1] B23) (env23 (.imm .arg 1 la) (.int .i64 n) (.imm .lit 2 []) (.sl 0 0 p none p 2) (.int .i64 (j : Int)) .undef) [.arr 2 els true 0] (.ret) (polT1.keys 23) (env23 (.imm .arg 1 la) (.int .i64 n) (.sl 0 0 p none p 2) (.sl 0 0 p none p 2) (.int .i64 (j : Int)) .undef) [.arr 2 els true 0] :=
  RunsTo.hint 1 60 [] fun kf hk => by
    obtain ⟨kf, rfl⟩ : ∃ n, kf = n + 1 := ⟨kf - 1, by omega⟩
    exact ⟨[], by kernel_rfl, Obls.nil⟩
end Go.Proofs.Ytmhfkhlamnapdaa
end
section
open Go Go.HL
namespace Go.Proofs.Ytmhfkhlamnapdaa
/-- The place that place j is joined to. -/
def tameAt (l : List Int) (j : Nat) : Int := match l[j]? with | some x => modW x (j : Int) | none => (j : Int) - 1
def tameGo (l : List Int) : Nat → Nat → List (Int × Int) → List (Int × Int)
  | _, 0, acc => acc
  | j, d + 1, acc => tameGo l (j + 1) d (acc ++ [(tameAt l j, (j : Int))])
def tameL (l : List Int) (m : Nat) : List (Int × Int) := tameGo l 1 (m - 1) []
theorem u24t : Try.prog.underlying 24 = some (.slice 3) := by kernel_rfl
theorem z3t : tySize Try.prog 3 = some 1 := by kernel_rfl
abbrev tmE (la : List HV) (m : Nat) (p j : Nat) : Env := env23 (.imm .arg 1 la) (.int .i64 (m : Int)) (.imm .lit 2 []) (.sl 0 0 p none p 2) (.int .i64 (j : Int)) .undef
theorem tame_loop (l : List Int) (m : Nat) (hm : m ≤ 1000) : ∀ (d j : Nat) (acc : List (Int × Int)), j + d = m → 0 < j → acc.length ≤ j →
    RunsTo Try.prog polT1 23 (sub [1, 1, 0, 1, 0] B23) (tmE (l.map encI) m acc.length j) [bPs acc]
      (.exit 0) (polT1.keys 23) (tmE (l.map encI) m (tameGo l j d acc).length m) [bPs (tameGo l j d acc)] := by
  intro d
  induction d with
  | zero =>
    intro j acc hj h0 ha
    have hj : j = m := by omega
    subst hj
    exact RunsTo.loop_out (tm_l_2 (l.map encI) (j : Int) (acc.map encP) acc.length j (by omega)) (by simp) (by kernel_rfl) (by kernel_rfl)
  | succ d ih =>
    intro j acc hj h0 ha
    have h := ih (j + 1) (acc ++ [(tameAt l j, (j : Int))]) (by omega) (by omega) (by simp only [List.length_append, List.length_singleton]; omega)
    rw [show tameGo l j (d + 1) acc = tameGo l (j + 1) d (acc ++ [(tameAt l j, (j : Int))]) from rfl]
    have hap : ∀ y : Int, appV [bPs acc] 2 16 (.sl 0 0 acc.length none acc.length 2) [.agg [.int .i64 y, .int .i64 (j : Int)]] = some (.sl 0 0 (acc.length + 1) none (acc.length + 1) 2, [.arr 2 (acc.map encP ++ [.agg [.int .i64 y, .int .i64 (j : Int)]]) true 0]) := fun y =>
      app_sl (H := [bPs acc]) (k := 2) (bytes := 16) (b := 0) (n := acc.length) (mx := 0) (els := acc.map encP) (xs := [encP (y, (j : Int))]) rfl (by simp) (by simp) (by simp only [List.length_singleton, roomMax]; omega) rfl
    have e1 : ∀ y : Int, (acc ++ [(y, (j : Int))]).map encP = acc.map encP ++ [.agg [.int .i64 y, .int .i64 (j : Int)]] := fun y => by simp [encP]
    have e2 : ∀ y : Int, (acc ++ [(y, (j : Int))]).length = acc.length + 1 := fun y => by simp
    unfold bPs at h
    rw [e1, e2] at h
    by_cases hjl : j < l.length
    · have ga : (l.map encI)[j]? = some (encI l[j]) := by rw [List.getElem?_map, List.getElem?_eq_getElem hjl]; rfl
      have g1 : idxV Try.prog 24 (.imm .arg 1 (l.map encI)) (.int .i64 (j : Int)) = some (.vptr (.int .i64 l[j])) := idx_imm u24t z3t (by omega) (by rw [Int.toNat_natCast]; exact ga)
      have ht : tameAt l j = modW l[j] (j : Int) := by rw [tameAt, List.getElem?_eq_getElem hjl]
      rw [ht] at h ⊢
      have gm : ∀ (k : Nat), callN Try.prog polT1 (k + 1) 22 [.int .i64 l[j], .int .i64 (j : Int)] [bPs acc] = some (.int .i64 (modW l[j] (j : Int)), [bPs acc]) := fun k => by
        rw [prim_call (pol := polT1) (g := 22) (F := modF) (by kernel_rfl) (rs := [.int .i64 l[j], .int .i64 (j : Int)]) rfl (res := .int .i64 (modW l[j] (j : Int))) (by simp only [modF]; rw [if_pos ⟨by omega, by omega⟩])]; rfl
      have s1 := tm_l_0 (l.map encI) (m : Int) (acc.map encP) acc.length j _ _ (by omega) (by rw [List.length_map]; omega) g1 gm (hap _)
      rw [wrap_succ (by omega)] at s1
      exact RunsTo.loop s1 (by kernel_rfl) (gc_same (by simp)) h rfl (by kernel_rfl) (by kernel_rfl)
    · have ht : tameAt l j = (j : Int) - 1 := by rw [tameAt, List.getElem?_eq_none (by omega)]
      have hw : IntKind.i64.wrap ((j : Int) - 1) = (j : Int) - 1 := by rw [wrapI64]; omega
      rw [ht] at h ⊢
      have s1 := tm_l_1 (l.map encI) (m : Int) (acc.map encP) acc.length j (by omega) (by rw [List.length_map]; omega) (by rw [hw]; exact hap _)
      rw [hw, wrap_succ (by omega)] at s1
      exact RunsTo.loop s1 (by kernel_rfl) (gc_same (by simp)) h rfl (by kernel_rfl) (by kernel_rfl)
def tame23 : List HV → Option HV
  | [.imm .arg 1 la, .int .i64 n] => match mapO decI la with | some l => if 1 ≤ n ∧ n ≤ 1000 then some (.own 2 ((tameL l n.toNat).map encP)) else none | none => none
  | _ => none
theorem res23 : Try.f23.results.toList = [.tmp 4] := by kernel_rfl
theorem tame_ok : PrimOk Try.prog 23 tame23 := by
  refine primOk_pure (pol := polT1) (fn := Try.f23) (cd := B23) follows_mixed soundT1 (by kernel_rfl) (by kernel_rfl) (fnok polT1.prim _ _ (by kernel_rfl)) (by kernel_rfl) ?_
  intro args res h
  unfold tame23 at h
  split at h
  · rename_i la n
    split at h
    · rename_i l hl
      split at h
      · rename_i hn
        cases h
        rw [mapO_inv decI_inv hl]
        obtain ⟨m, rfl⟩ : ∃ m : Nat, n = (m : Int) := ⟨n.toNat, by omega⟩
        rw [Int.toNat_natCast]
        have a1 := tm_a_0 (l.map encI) (m : Int)
        have b1 := tm_b_0 (l.map encI) (m : Int)
        have c1 := tm_c_0 (l.map encI) (m : Int) [] 0
        have l1 := tame_loop l m (by omega) (m - 1) 1 [] (by omega) (by omega) (by simp)
        have z1 := tm_z_0 (l.map encI) (m : Int) ((tameL l m).map encP) (tameL l m).length m
        have t1 := RunsTo.seq c1 (RunsTo.block_exit (c := sub [1, 1, 0, 1] B23) l1 (by kernel_rfl)) (c := sub [1, 1, 0] B23) (by kernel_rfl) (by kernel_rfl)
        have t2 := RunsTo.seq t1 z1 (c := sub [1, 1] B23) (by kernel_rfl) (by kernel_rfl)
        have t3 := RunsTo.seq b1 t2 (c := sub [1] B23) (by kernel_rfl) (by kernel_rfl)
        have t4 := RunsTo.seq a1 t3 (c := B23) (by kernel_rfl) (by kernel_rfl)
        have hr := resCell_sl (H := [bPs (tameL l m)]) (no := [0]) (b := 0) (k := 2) (m := (tameL l m).length) (cap := none) (els := (tameL l m).map encP) rfl (by simp) (mapO_self (fun r => frz_pair r) _)
        have ho : ownedAll [bPs (tameL l m)] false (.sl 0 0 (tameL l m).length none (tameL l m).length 2) = [0] := rfl
        refine ⟨_, _, _, .sl 0 0 (tameL l m).length none (tameL l m).length 2, t4, by simp, by simp only [resultsV, res23]; rfl, ?_⟩
        show toRes _ false _ = _
        simp only [toRes, ho, List.nodup_cons, List.not_mem_nil, not_false_eq_true, List.nodup_nil, and_self, if_true, resVal, hr]
      · cases h
    · cases h
  · cases h
end Go.Proofs.Ytmhfkhlamnapdaa
end
section
open Go Go.HL
namespace Go.Proofs.Ytmhfkhlamnapdaa
/-- The policy of the law on the middle. -/
def primX (g : FuncId) : Option (List HV → Option HV) :=
  if g == 19 then some awakeF else if g == 22 then some modF else if g == 23 then some tame23 else if g == 17 then some centers17 else if g == 24 then some time24 else if g == 25 then some far25 else none
def polX : Pol := { pol with prim := primX }
theorem primX_ok (g : FuncId) (f : List HV → Option HV) (h : primX g = some f) : PrimOk Try.prog g f := by
  unfold primX at h
  split at h
  · rename_i hg; cases h; rw [eq_of_beq hg]; exact awake_prim
  split at h
  · rename_i hg; cases h; rw [eq_of_beq hg]; exact mod_ok
  split at h
  · rename_i hg; cases h; rw [eq_of_beq hg]; exact tame_ok
  split at h
  · rename_i hg; cases h; rw [eq_of_beq hg]; exact centers17_ok
  split at h
  · rename_i hg; cases h; rw [eq_of_beq hg]; exact time24_ok
  split at h
  · rename_i hg; cases h; rw [eq_of_beq hg]; exact far25_ok
  · cases h
theorem soundX (n : Nat) : CallSound Try.prog (callN Try.prog polX n) := sound_prim primX primX_ok n
end Go.Proofs.Ytmhfkhlamnapdaa
end
section
open Go Go.HL
namespace Go.Proofs.Ytmhfkhlamnapdaa
set_option maxRecDepth 100000
noncomputable def B6 : Code := Try.f6.body.getD .skip
abbrev env6 (v0 v1 v2 v6 v7 v8 v9 v10 v11 v12 v13 v14 v15 v16 v17 v18 : HV) : Env := [(0, v0), (1, v1), (2, v2), (6, v6), (7, v7), (8, v8), (9, v9), (10, v10), (11, v11), (12, v12), (13, v13), (14, v14), (15, v15), (16, v16), (17, v17), (18, v18)]
theorem md_a_0 (n : Int) (la : List HV) (x : Int)   : RunsTo Try.prog polX 6 (sub [0] B6) [(0, .int .i64 n), (1, .imm .arg 1 la), (2, .int .i64 x)] [] (.normal) (polX.keys 6) (env6 (.int .i64 n) (.imm .arg 1 la) (.int .i64 x) (.bool false) .undef .undef .undef .undef .undef .undef .undef .undef .undef .undef .undef .undef) [] :=
  RunsTo.hint 1 60 [] fun kf hk => by
    obtain ⟨kf, rfl⟩ : ∃ n, kf = n + 1 := ⟨kf - 1, by omega⟩
    exact ⟨[], by kernel_rfl, Obls.nil⟩
theorem md_b_0 (n : Int) (la : List HV) (x : Int) (r0 : Int) (g0 : ∀ kf, callN Try.prog polX (kf + 1) 22 [.int .i64 n, .int .i64 30] [] = some (.int .i64 r0, [])) : RunsTo Try.prog polX 6 (sub [1, 0] B6) (env6 (.int .i64 n) (.imm .arg 1 la) (.int .i64 x) (.bool false) .undef .undef .undef .undef .undef .undef .undef .undef .undef .undef .undef .undef) [] (.normal) (polX.keys 6) (env6 (.int .i64 (IntKind.i64.wrap (1 + r0))) (.imm .arg 1 la) (.int .i64 x) (.bool false) .undef .undef .undef .undef .undef .undef .undef .undef .undef .undef .undef .undef) [] :=
  RunsTo.hint 1 60 [⟨1, 1, .int .i64 r0, []⟩] fun kf hk => by
    obtain ⟨kf, rfl⟩ : ∃ n, kf = n + 1 := ⟨kf - 1, by omega⟩
    exact ⟨[callN Try.prog polX (kf + 1) 22 [.int .i64 n, .int .i64 30] [] = some (.int .i64 r0, [])], by kernel_rfl, Obls.cons (g0 kf) Obls.nil⟩
theorem md_c_0 (n : Nat) (la : List HV) (x : Int) (m : Nat) (els : List HV) (g0 : ∀ kf, callN Try.prog polX (kf + 1) 23 [.imm .arg 1 la, .int .i64 (n : Int)] [] = some (.sl 0 0 m none m 2, [.arr 2 els true 0])) : RunsTo Try.prog polX 6 (sub [1, 1, 0] B6) (env6 (.int .i64 (n : Int)) (.imm .arg 1 la) (.int .i64 x) (.bool false) .undef .undef .undef .undef .undef .undef .undef .undef .undef .undef .undef .undef) [] (.normal) (polX.keys 6) (env6 (.int .i64 (n : Int)) (.imm .arg 1 la) (.int .i64 x) (.bool false) (.sl 0 0 m none m 2) .undef .undef .undef .undef .undef .undef .undef .undef .undef .undef .undef) [.arr 2 els true 0] :=
  RunsTo.hint 1 60 [⟨2, 2, .sl 0 0 m none m 2, [.arr 2 els true 0]⟩] fun kf hk => by
    obtain ⟨kf, rfl⟩ : ∃ n, kf = n + 1 := ⟨kf - 1, by omega⟩
    exact ⟨[callN Try.prog polX (kf + 1) 23 [.imm .arg 1 la, .int .i64 (n : Int)] [] = some (.sl 0 0 m none m 2, [.arr 2 els true 0])], by kernel_rfl, Obls.cons (g0 kf) Obls.nil⟩
theorem md_d_0 (n : Nat) (la : List HV) (x : Int) (m : Nat) (els : List HV) (r0 : Int) (g0 : ∀ kf, callN Try.prog polX (kf + 1) 22 [.int .i64 x, .int .i64 (n : Int)] [.arr 2 els true 0] = some (.int .i64 r0, [.arr 2 els true 0])) : RunsTo Try.prog polX 6 (sub [1, 1, 1, 0] B6) (env6 (.int .i64 (n : Int)) (.imm .arg 1 la) (.int .i64 x) (.bool false) (.sl 0 0 m none m 2) .undef .undef .undef .undef .undef .undef .undef .undef .undef .undef .undef) [.arr 2 els true 0] (.normal) (polX.keys 6) (env6 (.int .i64 (n : Int)) (.imm .arg 1 la) (.int .i64 r0) (.bool false) (.sl 0 0 m none m 2) .undef .undef .undef .undef .undef .undef .undef .undef .undef .undef .undef) [.arr 2 els true 0] :=
  RunsTo.hint 1 60 [⟨3, 2, .int .i64 r0, [.arr 2 els true 0]⟩] fun kf hk => by
    obtain ⟨kf, rfl⟩ : ∃ n, kf = n + 1 := ⟨kf - 1, by omega⟩
    exact ⟨[callN Try.prog polX (kf + 1) 22 [.int .i64 x, .int .i64 (n : Int)] [.arr 2 els true 0] = some (.int .i64 r0, [.arr 2 els true 0])], by kernel_rfl, Obls.cons (g0 kf) Obls.nil⟩
theorem md_e_0 (n : Nat) (la : List HV) (x : Nat) (m : Nat) (els : List HV) (q : Nat) (le : Int) (e : Int) (cs : List HV) (g0 : ∀ kf, callN Try.prog polX (kf + 1) 17 [.int .i64 (n : Int), .sl 0 0 m none m 2] [.arr 2 els true 0] = some (.tuple [.sl 1 0 q none q 1, .int .i64 le, .int .i64 e], [.arr 2 els true 0, .arr 1 cs true 0])) : RunsTo Try.prog polX 6 (sub [1, 1, 1, 1, 0] B6) (env6 (.int .i64 (n : Int)) (.imm .arg 1 la) (.int .i64 (x : Int)) (.bool false) (.sl 0 0 m none m 2) .undef .undef .undef .undef .undef .undef .undef .undef .undef .undef .undef) [.arr 2 els true 0] (.normal) (polX.keys 6) (env6 (.int .i64 (n : Int)) (.imm .arg 1 la) (.int .i64 (x : Int)) (.bool false) (.sl 0 0 m none m 2) (.sl 1 0 q none q 1) (.int .i64 le) (.int .i64 e) .undef .undef .undef .undef .undef .undef .undef .undef) [.arr 2 els true 0, .arr 1 cs true 0] :=
  RunsTo.hint 1 60 [⟨4, 2, .tuple [.sl 1 0 q none q 1, .int .i64 le, .int .i64 e], [.arr 2 els true 0, .arr 1 cs true 0]⟩] fun kf hk => by
    obtain ⟨kf, rfl⟩ : ∃ n, kf = n + 1 := ⟨kf - 1, by omega⟩
    exact ⟨[callN Try.prog polX (kf + 1) 17 [.int .i64 (n : Int), .sl 0 0 m none m 2] [.arr 2 els true 0] = some (.tuple [.sl 1 0 q none q 1, .int .i64 le, .int .i64 e], [.arr 2 els true 0, .arr 1 cs true 0])], by kernel_rfl, Obls.cons (g0 kf) Obls.nil⟩
theorem md_f_0 (n : Nat) (la : List HV) (x : Nat) (m : Nat) (els : List HV) (q : Nat) (le e : Int) (cs : List HV) (s : Int) (f : Int) (g0 : ∀ kf, callN Try.prog polX (kf + 1) 24 [.int .i64 (n : Int), .sl 0 0 m none m 2, .int .i64 (x : Int)] [.arr 2 els true 0, .arr 1 cs true 0] = some (.tuple [.int .i64 s, .int .i64 f], [.arr 2 els true 0, .arr 1 cs true 0])) : RunsTo Try.prog polX 6 (sub [1, 1, 1, 1, 1, 0] B6) (env6 (.int .i64 (n : Int)) (.imm .arg 1 la) (.int .i64 (x : Int)) (.bool false) (.sl 0 0 m none m 2) (.sl 1 0 q none q 1) (.int .i64 le) (.int .i64 e) .undef .undef .undef .undef .undef .undef .undef .undef) [.arr 2 els true 0, .arr 1 cs true 0] (.normal) (polX.keys 6) (env6 (.int .i64 (n : Int)) (.imm .arg 1 la) (.int .i64 (x : Int)) (.bool false) (.sl 0 0 m none m 2) (.sl 1 0 q none q 1) (.int .i64 le) (.int .i64 e) (.int .i64 s) (.int .i64 f) .undef .undef .undef .undef .undef .undef) [.arr 2 els true 0, .arr 1 cs true 0] :=
  RunsTo.hint 1 60 [⟨5, 3, .tuple [.int .i64 s, .int .i64 f], [.arr 2 els true 0, .arr 1 cs true 0]⟩] fun kf hk => by
    obtain ⟨kf, rfl⟩ : ∃ n, kf = n + 1 := ⟨kf - 1, by omega⟩
    exact ⟨[callN Try.prog polX (kf + 1) 24 [.int .i64 (n : Int), .sl 0 0 m none m 2, .int .i64 (x : Int)] [.arr 2 els true 0, .arr 1 cs true 0] = some (.tuple [.int .i64 s, .int .i64 f], [.arr 2 els true 0, .arr 1 cs true 0])], by kernel_rfl, Obls.cons (g0 kf) Obls.nil⟩
theorem md_g_0 (n : Nat) (la : List HV) (x : Nat) (m : Nat) (els : List HV) (q : Nat) (le e : Int) (cs : List HV) (s f : Int) (p : Nat) (g : Int) (os : List HV) (g0 : ∀ kf, callN Try.prog polX (kf + 1) 25 [.int .i64 (n : Int), .sl 0 0 m none m 2, .int .i64 (x : Int)] [.arr 2 els true 0, .arr 1 cs true 0] = some (.tuple [.sl 2 0 p none p 1, .int .i64 g], [.arr 2 els true 0, .arr 1 cs true 0, .arr 1 os true 0])) : RunsTo Try.prog polX 6 (sub [1, 1, 1, 1, 1, 1, 0] B6) (env6 (.int .i64 (n : Int)) (.imm .arg 1 la) (.int .i64 (x : Int)) (.bool false) (.sl 0 0 m none m 2) (.sl 1 0 q none q 1) (.int .i64 le) (.int .i64 e) (.int .i64 s) (.int .i64 f) .undef .undef .undef .undef .undef .undef) [.arr 2 els true 0, .arr 1 cs true 0] (.normal) (polX.keys 6) (env6 (.int .i64 (n : Int)) (.imm .arg 1 la) (.int .i64 (x : Int)) (.bool false) (.sl 0 0 m none m 2) (.sl 1 0 q none q 1) (.int .i64 le) (.int .i64 e) (.int .i64 s) (.int .i64 f) (.sl 2 0 p none p 1) (.int .i64 g) .undef .undef .undef .undef) [.arr 2 els true 0, .arr 1 cs true 0, .arr 1 os true 0] :=
  RunsTo.hint 1 60 [⟨6, 3, .tuple [.sl 2 0 p none p 1, .int .i64 g], [.arr 2 els true 0, .arr 1 cs true 0, .arr 1 os true 0]⟩] fun kf hk => by
    obtain ⟨kf, rfl⟩ : ∃ n, kf = n + 1 := ⟨kf - 1, by omega⟩
    exact ⟨[callN Try.prog polX (kf + 1) 25 [.int .i64 (n : Int), .sl 0 0 m none m 2, .int .i64 (x : Int)] [.arr 2 els true 0, .arr 1 cs true 0] = some (.tuple [.sl 2 0 p none p 1, .int .i64 g], [.arr 2 els true 0, .arr 1 cs true 0, .arr 1 os true 0])], by kernel_rfl, Obls.cons (g0 kf) Obls.nil⟩
theorem md_h_2 (n : Nat) (la : List HV) (x : Nat) (m : Nat) (els : List HV) (q : Nat) (le e : Int) (cs : List HV) (s f : Int) (p : Nat) (g : Int) (os : List HV)  (g0 : e = 0) (g1 : f = 0) (g2 : g = 0) (g3 : (p : Int) = (n : Int)) (g4 : ¬ ((q : Int) < min (n : Int) 2)) (g5 : ¬ (s < le)) : RunsTo Try.prog polX 6 (sub [1, 1, 1, 1, 1, 1, 1, 0] B6) (env6 (.int .i64 (n : Int)) (.imm .arg 1 la) (.int .i64 (x : Int)) (.bool false) (.sl 0 0 m none m 2) (.sl 1 0 q none q 1) (.int .i64 le) (.int .i64 e) (.int .i64 s) (.int .i64 f) (.sl 2 0 p none p 1) (.int .i64 g) .undef .undef .undef .undef) [.arr 2 els true 0, .arr 1 cs true 0, .arr 1 os true 0] (.normal) (polX.keys 6) (env6 (.int .i64 (n : Int)) (.imm .arg 1 la) (.int .i64 (x : Int)) (.bool false) (.sl 0 0 m none m 2) (.sl 1 0 q none q 1) (.int .i64 le) (.int .i64 e) (.int .i64 s) (.int .i64 f) (.sl 2 0 p none p 1) (.int .i64 g) .undef .undef .undef .undef) [.arr 2 els true 0, .arr 1 cs true 0, .arr 1 os true 0] :=
  RunsTo.hint 1 60 [⟨7, 1, .bool false, [.arr 2 els true 0, .arr 1 cs true 0, .arr 1 os true 0]⟩, ⟨7, 4, .bool false, [.arr 2 els true 0, .arr 1 cs true 0, .arr 1 os true 0]⟩, ⟨7, 8, .bool false, [.arr 2 els true 0, .arr 1 cs true 0, .arr 1 os true 0]⟩, ⟨7, 14, .bool false, [.arr 2 els true 0, .arr 1 cs true 0, .arr 1 os true 0]⟩, ⟨7, 21, .bool false, [.arr 2 els true 0, .arr 1 cs true 0, .arr 1 os true 0]⟩, ⟨7, 26, .bool false, [.arr 2 els true 0, .arr 1 cs true 0, .arr 1 os true 0]⟩] fun kf hk => by
    obtain ⟨kf, rfl⟩ : ∃ n, kf = n + 1 := ⟨kf - 1, by omega⟩
    exact ⟨[some (HV.bool (!decide (e = 0)), ([.arr 2 els true 0, .arr 1 cs true 0, .arr 1 os true 0] : Heap)) = some (.bool false, [.arr 2 els true 0, .arr 1 cs true 0, .arr 1 os true 0]), some (HV.bool (!decide (f = 0)), ([.arr 2 els true 0, .arr 1 cs true 0, .arr 1 os true 0] : Heap)) = some (.bool false, [.arr 2 els true 0, .arr 1 cs true 0, .arr 1 os true 0]), some (HV.bool (!decide (g = 0)), ([.arr 2 els true 0, .arr 1 cs true 0, .arr 1 os true 0] : Heap)) = some (.bool false, [.arr 2 els true 0, .arr 1 cs true 0, .arr 1 os true 0]), some (HV.bool (!decide ((p : Int) = (n : Int))), ([.arr 2 els true 0, .arr 1 cs true 0, .arr 1 os true 0] : Heap)) = some (.bool false, [.arr 2 els true 0, .arr 1 cs true 0, .arr 1 os true 0]), some (HV.bool (decide ((q : Int) < min (n : Int) 2)), ([.arr 2 els true 0, .arr 1 cs true 0, .arr 1 os true 0] : Heap)) = some (.bool false, [.arr 2 els true 0, .arr 1 cs true 0, .arr 1 os true 0]), some (HV.bool (decide (s < le)), ([.arr 2 els true 0, .arr 1 cs true 0, .arr 1 os true 0] : Heap)) = some (.bool false, [.arr 2 els true 0, .arr 1 cs true 0, .arr 1 os true 0])], by kernel_rfl, Obls.cons (hintB (congrArg not (decide_eq_true g0))) (Obls.cons (hintB (congrArg not (decide_eq_true g1))) (Obls.cons (hintB (congrArg not (decide_eq_true g2))) (Obls.cons (hintB (congrArg not (decide_eq_true g3))) (Obls.cons (hintB (decide_eq_false g4)) (Obls.cons (hintB (decide_eq_false g5)) Obls.nil)))))⟩
theorem md_i_0 (n : Nat) (la : List HV) (x : Nat) (m : Nat) (els : List HV) (q : Nat) (le e : Int) (cs : List HV) (s f : Int) (p : Nat) (g : Int) (os : List HV)  (g0 : makeV Try.prog false 43 (.int .i64 (n : Int)) (.int .i64 (n : Int)) [.arr 2 els true 0, .arr 1 cs true 0, .arr 1 os true 0] = some (.sl 3 0 n (some n) n 1, [.arr 2 els true 0, .arr 1 cs true 0, .arr 1 os true 0, .arr 1 (List.replicate n (.bool false)) true 0])) : RunsTo Try.prog polX 6 (sub [1, 1, 1, 1, 1, 1, 1, 1, 0] B6) (env6 (.int .i64 (n : Int)) (.imm .arg 1 la) (.int .i64 (x : Int)) (.bool false) (.sl 0 0 m none m 2) (.sl 1 0 q none q 1) (.int .i64 le) (.int .i64 e) (.int .i64 s) (.int .i64 f) (.sl 2 0 p none p 1) (.int .i64 g) .undef .undef .undef .undef) [.arr 2 els true 0, .arr 1 cs true 0, .arr 1 os true 0] (.normal) (polX.keys 6) (env6 (.int .i64 (n : Int)) (.imm .arg 1 la) (.int .i64 (x : Int)) (.bool false) (.sl 0 0 m none m 2) (.sl 1 0 q none q 1) (.int .i64 le) (.int .i64 e) (.int .i64 s) (.int .i64 f) (.sl 2 0 p none p 1) (.int .i64 g) (.sl 3 0 n (some n) n 1) .undef .undef .undef) [.arr 2 els true 0, .arr 1 cs true 0, .arr 1 os true 0, .arr 1 (List.replicate n (.bool false)) true 0] :=
  RunsTo.hint 1 60 [⟨9, 1, .sl 3 0 n (some n) n 1, [.arr 2 els true 0, .arr 1 cs true 0, .arr 1 os true 0, .arr 1 (List.replicate n (.bool false)) true 0]⟩] fun kf hk => by
    obtain ⟨kf, rfl⟩ : ∃ n, kf = n + 1 := ⟨kf - 1, by omega⟩
    exact ⟨[makeV Try.prog false 43 (.int .i64 (n : Int)) (.int .i64 (n : Int)) [.arr 2 els true 0, .arr 1 cs true 0, .arr 1 os true 0] = some (.sl 3 0 n (some n) n 1, [.arr 2 els true 0, .arr 1 cs true 0, .arr 1 os true 0, .arr 1 (List.replicate n (.bool false)) true 0])], by kernel_rfl, Obls.cons (g0) Obls.nil⟩
theorem md_j_0 (n : Nat) (la : List HV) (x : Nat) (m : Nat) (els : List HV) (q : Nat) (le e : Int) (cs : List HV) (s f : Int) (p : Nat) (g : Int) (os : List HV) (bs : List HV)   : RunsTo Try.prog polX 6 (sub [1, 1, 1, 1, 1, 1, 1, 1, 1, 0, 0] B6) (env6 (.int .i64 (n : Int)) (.imm .arg 1 la) (.int .i64 (x : Int)) (.bool false) (.sl 0 0 m none m 2) (.sl 1 0 q none q 1) (.int .i64 le) (.int .i64 e) (.int .i64 s) (.int .i64 f) (.sl 2 0 p none p 1) (.int .i64 g) (.sl 3 0 n (some n) n 1) .undef .undef .undef) [.arr 2 els true 0, .arr 1 cs true 0, .arr 1 os true 0, .arr 1 bs true 0] (.normal) (polX.keys 6) (env6 (.int .i64 (n : Int)) (.imm .arg 1 la) (.int .i64 (x : Int)) (.bool false) (.sl 0 0 m none m 2) (.sl 1 0 q none q 1) (.int .i64 le) (.int .i64 e) (.int .i64 s) (.int .i64 f) (.sl 2 0 p none p 1) (.int .i64 g) (.sl 3 0 n (some n) n 1) (.int .i64 0) .undef .undef) [.arr 2 els true 0, .arr 1 cs true 0, .arr 1 os true 0, .arr 1 bs true 0] :=
  RunsTo.hint 1 60 [] fun kf hk => by
    obtain ⟨kf, rfl⟩ : ∃ n, kf = n + 1 := ⟨kf - 1, by omega⟩
    exact ⟨[], by kernel_rfl, Obls.nil⟩
theorem md_k_0 (n : Nat) (la : List HV) (x : Nat) (m : Nat) (els : List HV) (q : Nat) (le s : Int) (p : Nat) (cs os bs : List HV) (i : Nat)  (g0 : (i : Int) < (q : Int)) : RunsTo Try.prog polX 6 (sub [1, 1, 1, 1, 1, 1, 1, 1, 1, 0, 1, 0, 0, 0] B6) (env6 (.int .i64 (n : Int)) (.imm .arg 1 la) (.int .i64 (x : Int)) (.bool false) (.sl 0 0 m none m 2) (.sl 1 0 q none q 1) (.int .i64 le) .undef (.int .i64 s) .undef (.sl 2 0 p none p 1) .undef (.sl 3 0 n (some n) n 1) (.int .i64 (i : Int)) .undef .undef) [.arr 2 els true 0, .arr 1 cs true 0, .arr 1 os true 0, .arr 1 bs true 0] (.normal) (polX.keys 6) (env6 (.int .i64 (n : Int)) (.imm .arg 1 la) (.int .i64 (x : Int)) (.bool false) (.sl 0 0 m none m 2) (.sl 1 0 q none q 1) (.int .i64 le) .undef (.int .i64 s) .undef (.sl 2 0 p none p 1) .undef (.sl 3 0 n (some n) n 1) (.int .i64 (i : Int)) .undef .undef) [.arr 2 els true 0, .arr 1 cs true 0, .arr 1 os true 0, .arr 1 bs true 0] :=
  RunsTo.hint 1 60 [⟨11, 3, .bool true, [.arr 2 els true 0, .arr 1 cs true 0, .arr 1 os true 0, .arr 1 bs true 0]⟩] fun kf hk => by
    obtain ⟨kf, rfl⟩ : ∃ n, kf = n + 1 := ⟨kf - 1, by omega⟩
    exact ⟨[some (HV.bool (decide ((i : Int) < (q : Int))), ([.arr 2 els true 0, .arr 1 cs true 0, .arr 1 os true 0, .arr 1 bs true 0] : Heap)) = some (.bool true, [.arr 2 els true 0, .arr 1 cs true 0, .arr 1 os true 0, .arr 1 bs true 0])], by kernel_rfl, Obls.cons (hintB (decide_eq_true g0)) Obls.nil⟩
theorem md_k_1 (n : Nat) (la : List HV) (x : Nat) (m : Nat) (els : List HV) (q : Nat) (le s : Int) (p : Nat) (cs os bs : List HV) (i : Nat)  (g0 : ¬ ((i : Int) < (q : Int))) : RunsTo Try.prog polX 6 (sub [1, 1, 1, 1, 1, 1, 1, 1, 1, 0, 1, 0, 0, 0] B6) (env6 (.int .i64 (n : Int)) (.imm .arg 1 la) (.int .i64 (x : Int)) (.bool false) (.sl 0 0 m none m 2) (.sl 1 0 q none q 1) (.int .i64 le) .undef (.int .i64 s) .undef (.sl 2 0 p none p 1) .undef (.sl 3 0 n (some n) n 1) (.int .i64 (i : Int)) .undef .undef) [.arr 2 els true 0, .arr 1 cs true 0, .arr 1 os true 0, .arr 1 bs true 0] (.exit 0) (polX.keys 6) (env6 (.int .i64 (n : Int)) (.imm .arg 1 la) (.int .i64 (x : Int)) (.bool false) (.sl 0 0 m none m 2) (.sl 1 0 q none q 1) (.int .i64 le) .undef (.int .i64 s) .undef (.sl 2 0 p none p 1) .undef (.sl 3 0 n (some n) n 1) (.int .i64 (i : Int)) .undef .undef) [.arr 2 els true 0, .arr 1 cs true 0, .arr 1 os true 0, .arr 1 bs true 0] :=
  RunsTo.hint 1 60 [⟨11, 3, .bool false, [.arr 2 els true 0, .arr 1 cs true 0, .arr 1 os true 0, .arr 1 bs true 0]⟩] fun kf hk => by
    obtain ⟨kf, rfl⟩ : ∃ n, kf = n + 1 := ⟨kf - 1, by omega⟩
    exact ⟨[some (HV.bool (decide ((i : Int) < (q : Int))), ([.arr 2 els true 0, .arr 1 cs true 0, .arr 1 os true 0, .arr 1 bs true 0] : Heap)) = some (.bool false, [.arr 2 els true 0, .arr 1 cs true 0, .arr 1 os true 0, .arr 1 bs true 0])], by kernel_rfl, Obls.cons (hintB (decide_eq_false g0)) Obls.nil⟩
theorem md_l_4 (n : Nat) (la : List HV) (x : Nat) (m : Nat) (els : List HV) (q : Nat) (le s : Int) (p : Nat) (cs os bs : List HV) (i : Nat) (x0 : Int) (x1 : Int) (x2 : Int) (x3 : Int) (x4 : Int) (x5 : Int) (g0 : idxV Try.prog 24 (.sl 1 0 q none q 1) (.int .i64 (i : Int)) = some (.ptr 1 i 0 q)) (g1 : loadV Try.prog [.arr 2 els true 0, .arr 1 cs true 0, .arr 1 os true 0, .arr 1 bs true 0] 3 (.ptr 1 i 0 q) = some (.int .i64 x0)) (g2 : ¬ (x0 < 0)) (g3 : idxV Try.prog 24 (.sl 1 0 q none q 1) (.int .i64 (i : Int)) = some (.ptr 1 i 0 q)) (g4 : loadV Try.prog [.arr 2 els true 0, .arr 1 cs true 0, .arr 1 os true 0, .arr 1 bs true 0] 3 (.ptr 1 i 0 q) = some (.int .i64 x1)) (g5 : ¬ ((n : Int) ≤ x1)) (g6 : 0 < (i : Int)) (g7 : idxV Try.prog 24 (.sl 1 0 q none q 1) (.int .i64 (IntKind.i64.wrap ((i : Int) - 1))) = some (.ptr 1 ((IntKind.i64.wrap ((i : Int) - 1)).toNat) 0 q)) (g8 : loadV Try.prog [.arr 2 els true 0, .arr 1 cs true 0, .arr 1 os true 0, .arr 1 bs true 0] 3 (.ptr 1 ((IntKind.i64.wrap ((i : Int) - 1)).toNat) 0 q) = some (.int .i64 x2)) (g9 : idxV Try.prog 24 (.sl 1 0 q none q 1) (.int .i64 (i : Int)) = some (.ptr 1 i 0 q)) (g10 : loadV Try.prog [.arr 2 els true 0, .arr 1 cs true 0, .arr 1 os true 0, .arr 1 bs true 0] 3 (.ptr 1 i 0 q) = some (.int .i64 x3)) (g11 : ¬ (x3 ≤ x2)) (g12 : idxV Try.prog 24 (.sl 1 0 q none q 1) (.int .i64 (i : Int)) = some (.ptr 1 i 0 q)) (g13 : loadV Try.prog [.arr 2 els true 0, .arr 1 cs true 0, .arr 1 os true 0, .arr 1 bs true 0] 3 (.ptr 1 i 0 q) = some (.int .i64 x4)) (g14 : idxV Try.prog 24 (.sl 2 0 p none p 1) (.int .i64 x4) = some (.ptr 2 ((x4).toNat) 0 p)) (g15 : loadV Try.prog [.arr 2 els true 0, .arr 1 cs true 0, .arr 1 os true 0, .arr 1 bs true 0] 3 (.ptr 2 ((x4).toNat) 0 p) = some (.int .i64 x5)) (g16 : ¬ (IntKind.i64.wrap (le + x5) < s)) : RunsTo Try.prog polX 6 (sub [1, 1, 1, 1, 1, 1, 1, 1, 1, 0, 1, 0, 0, 1, 0, 0, 0] B6) (env6 (.int .i64 (n : Int)) (.imm .arg 1 la) (.int .i64 (x : Int)) (.bool false) (.sl 0 0 m none m 2) (.sl 1 0 q none q 1) (.int .i64 le) .undef (.int .i64 s) .undef (.sl 2 0 p none p 1) .undef (.sl 3 0 n (some n) n 1) (.int .i64 (i : Int)) .undef .undef) [.arr 2 els true 0, .arr 1 cs true 0, .arr 1 os true 0, .arr 1 bs true 0] (.normal) (polX.keys 6) (env6 (.int .i64 (n : Int)) (.imm .arg 1 la) (.int .i64 (x : Int)) (.bool false) (.sl 0 0 m none m 2) (.sl 1 0 q none q 1) (.int .i64 le) .undef (.int .i64 s) .undef (.sl 2 0 p none p 1) .undef (.sl 3 0 n (some n) n 1) (.int .i64 (i : Int)) .undef .undef) [.arr 2 els true 0, .arr 1 cs true 0, .arr 1 os true 0, .arr 1 bs true 0] :=
  RunsTo.hint 1 60 [⟨13, 2, .ptr 1 i 0 q, [.arr 2 els true 0, .arr 1 cs true 0, .arr 1 os true 0, .arr 1 bs true 0]⟩, ⟨13, 3, .int .i64 x0, [.arr 2 els true 0, .arr 1 cs true 0, .arr 1 os true 0, .arr 1 bs true 0]⟩, ⟨13, 4, .bool false, [.arr 2 els true 0, .arr 1 cs true 0, .arr 1 os true 0, .arr 1 bs true 0]⟩, ⟨13, 8, .ptr 1 i 0 q, [.arr 2 els true 0, .arr 1 cs true 0, .arr 1 os true 0, .arr 1 bs true 0]⟩, ⟨13, 9, .int .i64 x1, [.arr 2 els true 0, .arr 1 cs true 0, .arr 1 os true 0, .arr 1 bs true 0]⟩, ⟨13, 11, .bool false, [.arr 2 els true 0, .arr 1 cs true 0, .arr 1 os true 0, .arr 1 bs true 0]⟩, ⟨13, 15, .bool true, [.arr 2 els true 0, .arr 1 cs true 0, .arr 1 os true 0, .arr 1 bs true 0]⟩, ⟨13, 20, .ptr 1 ((IntKind.i64.wrap ((i : Int) - 1)).toNat) 0 q, [.arr 2 els true 0, .arr 1 cs true 0, .arr 1 os true 0, .arr 1 bs true 0]⟩, ⟨13, 21, .int .i64 x2, [.arr 2 els true 0, .arr 1 cs true 0, .arr 1 os true 0, .arr 1 bs true 0]⟩, ⟨13, 24, .ptr 1 i 0 q, [.arr 2 els true 0, .arr 1 cs true 0, .arr 1 os true 0, .arr 1 bs true 0]⟩, ⟨13, 25, .int .i64 x3, [.arr 2 els true 0, .arr 1 cs true 0, .arr 1 os true 0, .arr 1 bs true 0]⟩, ⟨13, 26, .bool false, [.arr 2 els true 0, .arr 1 cs true 0, .arr 1 os true 0, .arr 1 bs true 0]⟩, ⟨13, 35, .ptr 1 i 0 q, [.arr 2 els true 0, .arr 1 cs true 0, .arr 1 os true 0, .arr 1 bs true 0]⟩, ⟨13, 36, .int .i64 x4, [.arr 2 els true 0, .arr 1 cs true 0, .arr 1 os true 0, .arr 1 bs true 0]⟩, ⟨13, 37, .ptr 2 ((x4).toNat) 0 p, [.arr 2 els true 0, .arr 1 cs true 0, .arr 1 os true 0, .arr 1 bs true 0]⟩, ⟨13, 38, .int .i64 x5, [.arr 2 els true 0, .arr 1 cs true 0, .arr 1 os true 0, .arr 1 bs true 0]⟩, ⟨13, 40, .bool false, [.arr 2 els true 0, .arr 1 cs true 0, .arr 1 os true 0, .arr 1 bs true 0]⟩] fun kf hk => by
    obtain ⟨kf, rfl⟩ : ∃ n, kf = n + 1 := ⟨kf - 1, by omega⟩
    exact ⟨[(idxV Try.prog 24 (.sl 1 0 q none q 1) (.int .i64 (i : Int))).map (fun v => (v, ([.arr 2 els true 0, .arr 1 cs true 0, .arr 1 os true 0, .arr 1 bs true 0] : Heap))) = some (.ptr 1 i 0 q, [.arr 2 els true 0, .arr 1 cs true 0, .arr 1 os true 0, .arr 1 bs true 0]), (loadV Try.prog [.arr 2 els true 0, .arr 1 cs true 0, .arr 1 os true 0, .arr 1 bs true 0] 3 (.ptr 1 i 0 q)).map (fun v => (v, ([.arr 2 els true 0, .arr 1 cs true 0, .arr 1 os true 0, .arr 1 bs true 0] : Heap))) = some (.int .i64 x0, [.arr 2 els true 0, .arr 1 cs true 0, .arr 1 os true 0, .arr 1 bs true 0]), some (HV.bool (decide (x0 < 0)), ([.arr 2 els true 0, .arr 1 cs true 0, .arr 1 os true 0, .arr 1 bs true 0] : Heap)) = some (.bool false, [.arr 2 els true 0, .arr 1 cs true 0, .arr 1 os true 0, .arr 1 bs true 0]), (idxV Try.prog 24 (.sl 1 0 q none q 1) (.int .i64 (i : Int))).map (fun v => (v, ([.arr 2 els true 0, .arr 1 cs true 0, .arr 1 os true 0, .arr 1 bs true 0] : Heap))) = some (.ptr 1 i 0 q, [.arr 2 els true 0, .arr 1 cs true 0, .arr 1 os true 0, .arr 1 bs true 0]), (loadV Try.prog [.arr 2 els true 0, .arr 1 cs true 0, .arr 1 os true 0, .arr 1 bs true 0] 3 (.ptr 1 i 0 q)).map (fun v => (v, ([.arr 2 els true 0, .arr 1 cs true 0, .arr 1 os true 0, .arr 1 bs true 0] : Heap))) = some (.int .i64 x1, [.arr 2 els true 0, .arr 1 cs true 0, .arr 1 os true 0, .arr 1 bs true 0]), some (HV.bool (decide ((n : Int) ≤ x1)), ([.arr 2 els true 0, .arr 1 cs true 0, .arr 1 os true 0, .arr 1 bs true 0] : Heap)) = some (.bool false, [.arr 2 els true 0, .arr 1 cs true 0, .arr 1 os true 0, .arr 1 bs true 0]), some (HV.bool (decide (0 < (i : Int))), ([.arr 2 els true 0, .arr 1 cs true 0, .arr 1 os true 0, .arr 1 bs true 0] : Heap)) = some (.bool true, [.arr 2 els true 0, .arr 1 cs true 0, .arr 1 os true 0, .arr 1 bs true 0]), (idxV Try.prog 24 (.sl 1 0 q none q 1) (.int .i64 (IntKind.i64.wrap ((i : Int) - 1)))).map (fun v => (v, ([.arr 2 els true 0, .arr 1 cs true 0, .arr 1 os true 0, .arr 1 bs true 0] : Heap))) = some (.ptr 1 ((IntKind.i64.wrap ((i : Int) - 1)).toNat) 0 q, [.arr 2 els true 0, .arr 1 cs true 0, .arr 1 os true 0, .arr 1 bs true 0]), (loadV Try.prog [.arr 2 els true 0, .arr 1 cs true 0, .arr 1 os true 0, .arr 1 bs true 0] 3 (.ptr 1 ((IntKind.i64.wrap ((i : Int) - 1)).toNat) 0 q)).map (fun v => (v, ([.arr 2 els true 0, .arr 1 cs true 0, .arr 1 os true 0, .arr 1 bs true 0] : Heap))) = some (.int .i64 x2, [.arr 2 els true 0, .arr 1 cs true 0, .arr 1 os true 0, .arr 1 bs true 0]), (idxV Try.prog 24 (.sl 1 0 q none q 1) (.int .i64 (i : Int))).map (fun v => (v, ([.arr 2 els true 0, .arr 1 cs true 0, .arr 1 os true 0, .arr 1 bs true 0] : Heap))) = some (.ptr 1 i 0 q, [.arr 2 els true 0, .arr 1 cs true 0, .arr 1 os true 0, .arr 1 bs true 0]), (loadV Try.prog [.arr 2 els true 0, .arr 1 cs true 0, .arr 1 os true 0, .arr 1 bs true 0] 3 (.ptr 1 i 0 q)).map (fun v => (v, ([.arr 2 els true 0, .arr 1 cs true 0, .arr 1 os true 0, .arr 1 bs true 0] : Heap))) = some (.int .i64 x3, [.arr 2 els true 0, .arr 1 cs true 0, .arr 1 os true 0, .arr 1 bs true 0]), some (HV.bool (decide (x3 ≤ x2)), ([.arr 2 els true 0, .arr 1 cs true 0, .arr 1 os true 0, .arr 1 bs true 0] : Heap)) = some (.bool false, [.arr 2 els true 0, .arr 1 cs true 0, .arr 1 os true 0, .arr 1 bs true 0]), (idxV Try.prog 24 (.sl 1 0 q none q 1) (.int .i64 (i : Int))).map (fun v => (v, ([.arr 2 els true 0, .arr 1 cs true 0, .arr 1 os true 0, .arr 1 bs true 0] : Heap))) = some (.ptr 1 i 0 q, [.arr 2 els true 0, .arr 1 cs true 0, .arr 1 os true 0, .arr 1 bs true 0]), (loadV Try.prog [.arr 2 els true 0, .arr 1 cs true 0, .arr 1 os true 0, .arr 1 bs true 0] 3 (.ptr 1 i 0 q)).map (fun v => (v, ([.arr 2 els true 0, .arr 1 cs true 0, .arr 1 os true 0, .arr 1 bs true 0] : Heap))) = some (.int .i64 x4, [.arr 2 els true 0, .arr 1 cs true 0, .arr 1 os true 0, .arr 1 bs true 0]), (idxV Try.prog 24 (.sl 2 0 p none p 1) (.int .i64 x4)).map (fun v => (v, ([.arr 2 els true 0, .arr 1 cs true 0, .arr 1 os true 0, .arr 1 bs true 0] : Heap))) = some (.ptr 2 ((x4).toNat) 0 p, [.arr 2 els true 0, .arr 1 cs true 0, .arr 1 os true 0, .arr 1 bs true 0]), (loadV Try.prog [.arr 2 els true 0, .arr 1 cs true 0, .arr 1 os true 0, .arr 1 bs true 0] 3 (.ptr 2 ((x4).toNat) 0 p)).map (fun v => (v, ([.arr 2 els true 0, .arr 1 cs true 0, .arr 1 os true 0, .arr 1 bs true 0] : Heap))) = some (.int .i64 x5, [.arr 2 els true 0, .arr 1 cs true 0, .arr 1 os true 0, .arr 1 bs true 0]), some (HV.bool (decide (IntKind.i64.wrap (le + x5) < s)), ([.arr 2 els true 0, .arr 1 cs true 0, .arr 1 os true 0, .arr 1 bs true 0] : Heap)) = some (.bool false, [.arr 2 els true 0, .arr 1 cs true 0, .arr 1 os true 0, .arr 1 bs true 0])], by kernel_rfl, Obls.cons (hintOp g0) (Obls.cons (hintOp g1) (Obls.cons (hintB (decide_eq_false g2)) (Obls.cons (hintOp g3) (Obls.cons (hintOp g4) (Obls.cons (hintB (decide_eq_false g5)) (Obls.cons (hintB (decide_eq_true g6)) (Obls.cons (hintOp g7) (Obls.cons (hintOp g8) (Obls.cons (hintOp g9) (Obls.cons (hintOp g10) (Obls.cons (hintB (decide_eq_false g11)) (Obls.cons (hintOp g12) (Obls.cons (hintOp g13) (Obls.cons (hintOp g14) (Obls.cons (hintOp g15) (Obls.cons (hintB (decide_eq_false g16)) Obls.nil))))))))))))))))⟩
theorem md_l_6 (n : Nat) (la : List HV) (x : Nat) (m : Nat) (els : List HV) (q : Nat) (le s : Int) (p : Nat) (cs os bs : List HV) (i : Nat) (x0 : Int) (x1 : Int) (x2 : Int) (x3 : Int) (g0 : idxV Try.prog 24 (.sl 1 0 q none q 1) (.int .i64 (i : Int)) = some (.ptr 1 i 0 q)) (g1 : loadV Try.prog [.arr 2 els true 0, .arr 1 cs true 0, .arr 1 os true 0, .arr 1 bs true 0] 3 (.ptr 1 i 0 q) = some (.int .i64 x0)) (g2 : ¬ (x0 < 0)) (g3 : idxV Try.prog 24 (.sl 1 0 q none q 1) (.int .i64 (i : Int)) = some (.ptr 1 i 0 q)) (g4 : loadV Try.prog [.arr 2 els true 0, .arr 1 cs true 0, .arr 1 os true 0, .arr 1 bs true 0] 3 (.ptr 1 i 0 q) = some (.int .i64 x1)) (g5 : ¬ ((n : Int) ≤ x1)) (g6 : ¬ (0 < (i : Int))) (g7 : idxV Try.prog 24 (.sl 1 0 q none q 1) (.int .i64 (i : Int)) = some (.ptr 1 i 0 q)) (g8 : loadV Try.prog [.arr 2 els true 0, .arr 1 cs true 0, .arr 1 os true 0, .arr 1 bs true 0] 3 (.ptr 1 i 0 q) = some (.int .i64 x2)) (g9 : idxV Try.prog 24 (.sl 2 0 p none p 1) (.int .i64 x2) = some (.ptr 2 ((x2).toNat) 0 p)) (g10 : loadV Try.prog [.arr 2 els true 0, .arr 1 cs true 0, .arr 1 os true 0, .arr 1 bs true 0] 3 (.ptr 2 ((x2).toNat) 0 p) = some (.int .i64 x3)) (g11 : ¬ (IntKind.i64.wrap (le + x3) < s)) : RunsTo Try.prog polX 6 (sub [1, 1, 1, 1, 1, 1, 1, 1, 1, 0, 1, 0, 0, 1, 0, 0, 0] B6) (env6 (.int .i64 (n : Int)) (.imm .arg 1 la) (.int .i64 (x : Int)) (.bool false) (.sl 0 0 m none m 2) (.sl 1 0 q none q 1) (.int .i64 le) .undef (.int .i64 s) .undef (.sl 2 0 p none p 1) .undef (.sl 3 0 n (some n) n 1) (.int .i64 (i : Int)) .undef .undef) [.arr 2 els true 0, .arr 1 cs true 0, .arr 1 os true 0, .arr 1 bs true 0] (.normal) (polX.keys 6) (env6 (.int .i64 (n : Int)) (.imm .arg 1 la) (.int .i64 (x : Int)) (.bool false) (.sl 0 0 m none m 2) (.sl 1 0 q none q 1) (.int .i64 le) .undef (.int .i64 s) .undef (.sl 2 0 p none p 1) .undef (.sl 3 0 n (some n) n 1) (.int .i64 (i : Int)) .undef .undef) [.arr 2 els true 0, .arr 1 cs true 0, .arr 1 os true 0, .arr 1 bs true 0] :=
  RunsTo.hint 1 60 [⟨13, 2, .ptr 1 i 0 q, [.arr 2 els true 0, .arr 1 cs true 0, .arr 1 os true 0, .arr 1 bs true 0]⟩, ⟨13, 3, .int .i64 x0, [.arr 2 els true 0, .arr 1 cs true 0, .arr 1 os true 0, .arr 1 bs true 0]⟩, ⟨13, 4, .bool false, [.arr 2 els true 0, .arr 1 cs true 0, .arr 1 os true 0, .arr 1 bs true 0]⟩, ⟨13, 8, .ptr 1 i 0 q, [.arr 2 els true 0, .arr 1 cs true 0, .arr 1 os true 0, .arr 1 bs true 0]⟩, ⟨13, 9, .int .i64 x1, [.arr 2 els true 0, .arr 1 cs true 0, .arr 1 os true 0, .arr 1 bs true 0]⟩, ⟨13, 11, .bool false, [.arr 2 els true 0, .arr 1 cs true 0, .arr 1 os true 0, .arr 1 bs true 0]⟩, ⟨13, 15, .bool false, [.arr 2 els true 0, .arr 1 cs true 0, .arr 1 os true 0, .arr 1 bs true 0]⟩, ⟨13, 35, .ptr 1 i 0 q, [.arr 2 els true 0, .arr 1 cs true 0, .arr 1 os true 0, .arr 1 bs true 0]⟩, ⟨13, 36, .int .i64 x2, [.arr 2 els true 0, .arr 1 cs true 0, .arr 1 os true 0, .arr 1 bs true 0]⟩, ⟨13, 37, .ptr 2 ((x2).toNat) 0 p, [.arr 2 els true 0, .arr 1 cs true 0, .arr 1 os true 0, .arr 1 bs true 0]⟩, ⟨13, 38, .int .i64 x3, [.arr 2 els true 0, .arr 1 cs true 0, .arr 1 os true 0, .arr 1 bs true 0]⟩, ⟨13, 40, .bool false, [.arr 2 els true 0, .arr 1 cs true 0, .arr 1 os true 0, .arr 1 bs true 0]⟩] fun kf hk => by
    obtain ⟨kf, rfl⟩ : ∃ n, kf = n + 1 := ⟨kf - 1, by omega⟩
    exact ⟨[(idxV Try.prog 24 (.sl 1 0 q none q 1) (.int .i64 (i : Int))).map (fun v => (v, ([.arr 2 els true 0, .arr 1 cs true 0, .arr 1 os true 0, .arr 1 bs true 0] : Heap))) = some (.ptr 1 i 0 q, [.arr 2 els true 0, .arr 1 cs true 0, .arr 1 os true 0, .arr 1 bs true 0]), (loadV Try.prog [.arr 2 els true 0, .arr 1 cs true 0, .arr 1 os true 0, .arr 1 bs true 0] 3 (.ptr 1 i 0 q)).map (fun v => (v, ([.arr 2 els true 0, .arr 1 cs true 0, .arr 1 os true 0, .arr 1 bs true 0] : Heap))) = some (.int .i64 x0, [.arr 2 els true 0, .arr 1 cs true 0, .arr 1 os true 0, .arr 1 bs true 0]), some (HV.bool (decide (x0 < 0)), ([.arr 2 els true 0, .arr 1 cs true 0, .arr 1 os true 0, .arr 1 bs true 0] : Heap)) = some (.bool false, [.arr 2 els true 0, .arr 1 cs true 0, .arr 1 os true 0, .arr 1 bs true 0]), (idxV Try.prog 24 (.sl 1 0 q none q 1) (.int .i64 (i : Int))).map (fun v => (v, ([.arr 2 els true 0, .arr 1 cs true 0, .arr 1 os true 0, .arr 1 bs true 0] : Heap))) = some (.ptr 1 i 0 q, [.arr 2 els true 0, .arr 1 cs true 0, .arr 1 os true 0, .arr 1 bs true 0]), (loadV Try.prog [.arr 2 els true 0, .arr 1 cs true 0, .arr 1 os true 0, .arr 1 bs true 0] 3 (.ptr 1 i 0 q)).map (fun v => (v, ([.arr 2 els true 0, .arr 1 cs true 0, .arr 1 os true 0, .arr 1 bs true 0] : Heap))) = some (.int .i64 x1, [.arr 2 els true 0, .arr 1 cs true 0, .arr 1 os true 0, .arr 1 bs true 0]), some (HV.bool (decide ((n : Int) ≤ x1)), ([.arr 2 els true 0, .arr 1 cs true 0, .arr 1 os true 0, .arr 1 bs true 0] : Heap)) = some (.bool false, [.arr 2 els true 0, .arr 1 cs true 0, .arr 1 os true 0, .arr 1 bs true 0]), some (HV.bool (decide (0 < (i : Int))), ([.arr 2 els true 0, .arr 1 cs true 0, .arr 1 os true 0, .arr 1 bs true 0] : Heap)) = some (.bool false, [.arr 2 els true 0, .arr 1 cs true 0, .arr 1 os true 0, .arr 1 bs true 0]), (idxV Try.prog 24 (.sl 1 0 q none q 1) (.int .i64 (i : Int))).map (fun v => (v, ([.arr 2 els true 0, .arr 1 cs true 0, .arr 1 os true 0, .arr 1 bs true 0] : Heap))) = some (.ptr 1 i 0 q, [.arr 2 els true 0, .arr 1 cs true 0, .arr 1 os true 0, .arr 1 bs true 0]), (loadV Try.prog [.arr 2 els true 0, .arr 1 cs true 0, .arr 1 os true 0, .arr 1 bs true 0] 3 (.ptr 1 i 0 q)).map (fun v => (v, ([.arr 2 els true 0, .arr 1 cs true 0, .arr 1 os true 0, .arr 1 bs true 0] : Heap))) = some (.int .i64 x2, [.arr 2 els true 0, .arr 1 cs true 0, .arr 1 os true 0, .arr 1 bs true 0]), (idxV Try.prog 24 (.sl 2 0 p none p 1) (.int .i64 x2)).map (fun v => (v, ([.arr 2 els true 0, .arr 1 cs true 0, .arr 1 os true 0, .arr 1 bs true 0] : Heap))) = some (.ptr 2 ((x2).toNat) 0 p, [.arr 2 els true 0, .arr 1 cs true 0, .arr 1 os true 0, .arr 1 bs true 0]), (loadV Try.prog [.arr 2 els true 0, .arr 1 cs true 0, .arr 1 os true 0, .arr 1 bs true 0] 3 (.ptr 2 ((x2).toNat) 0 p)).map (fun v => (v, ([.arr 2 els true 0, .arr 1 cs true 0, .arr 1 os true 0, .arr 1 bs true 0] : Heap))) = some (.int .i64 x3, [.arr 2 els true 0, .arr 1 cs true 0, .arr 1 os true 0, .arr 1 bs true 0]), some (HV.bool (decide (IntKind.i64.wrap (le + x3) < s)), ([.arr 2 els true 0, .arr 1 cs true 0, .arr 1 os true 0, .arr 1 bs true 0] : Heap)) = some (.bool false, [.arr 2 els true 0, .arr 1 cs true 0, .arr 1 os true 0, .arr 1 bs true 0])], by kernel_rfl, Obls.cons (hintOp g0) (Obls.cons (hintOp g1) (Obls.cons (hintB (decide_eq_false g2)) (Obls.cons (hintOp g3) (Obls.cons (hintOp g4) (Obls.cons (hintB (decide_eq_false g5)) (Obls.cons (hintB (decide_eq_false g6)) (Obls.cons (hintOp g7) (Obls.cons (hintOp g8) (Obls.cons (hintOp g9) (Obls.cons (hintOp g10) (Obls.cons (hintB (decide_eq_false g11)) Obls.nil)))))))))))⟩
theorem md_m_0 (n : Nat) (la : List HV) (x : Nat) (m : Nat) (els : List HV) (q : Nat) (le s : Int) (p : Nat) (cs os bs : List HV) (i : Nat) (x0 : Int) (el0 : List HV) (g0 : idxV Try.prog 24 (.sl 1 0 q none q 1) (.int .i64 (i : Int)) = some (.ptr 1 i 0 q)) (g1 : loadV Try.prog [.arr 2 els true 0, .arr 1 cs true 0, .arr 1 os true 0, .arr 1 bs true 0] 3 (.ptr 1 i 0 q) = some (.int .i64 x0)) (g2 : idxV Try.prog 43 (.sl 3 0 n (some n) n 1) (.int .i64 x0) = some (.ptr 3 ((x0).toNat) 0 n)) (g3 : storeV Try.prog [.arr 2 els true 0, .arr 1 cs true 0, .arr 1 os true 0, .arr 1 bs true 0] 4 (.ptr 3 ((x0).toNat) 0 n) (.bool true) = some [.arr 2 els true 0, .arr 1 cs true 0, .arr 1 os true 0, .arr 1 el0 true 0]) : RunsTo Try.prog polX 6 (sub [1, 1, 1, 1, 1, 1, 1, 1, 1, 0, 1, 0, 0, 1, 0, 0, 1] B6) (env6 (.int .i64 (n : Int)) (.imm .arg 1 la) (.int .i64 (x : Int)) (.bool false) (.sl 0 0 m none m 2) (.sl 1 0 q none q 1) (.int .i64 le) .undef (.int .i64 s) .undef (.sl 2 0 p none p 1) .undef (.sl 3 0 n (some n) n 1) (.int .i64 (i : Int)) .undef .undef) [.arr 2 els true 0, .arr 1 cs true 0, .arr 1 os true 0, .arr 1 bs true 0] (.normal) (polX.keys 6) (env6 (.int .i64 (n : Int)) (.imm .arg 1 la) (.int .i64 (x : Int)) (.bool false) (.sl 0 0 m none m 2) (.sl 1 0 q none q 1) (.int .i64 le) .undef (.int .i64 s) .undef (.sl 2 0 p none p 1) .undef (.sl 3 0 n (some n) n 1) (.int .i64 (i : Int)) .undef .undef) [.arr 2 els true 0, .arr 1 cs true 0, .arr 1 os true 0, .arr 1 el0 true 0] :=
  RunsTo.hint 1 60 [⟨15, 3, .ptr 1 i 0 q, [.arr 2 els true 0, .arr 1 cs true 0, .arr 1 os true 0, .arr 1 bs true 0]⟩, ⟨15, 4, .int .i64 x0, [.arr 2 els true 0, .arr 1 cs true 0, .arr 1 os true 0, .arr 1 bs true 0]⟩, ⟨15, 5, .ptr 3 ((x0).toNat) 0 n, [.arr 2 els true 0, .arr 1 cs true 0, .arr 1 os true 0, .arr 1 bs true 0]⟩, ⟨15, 6, .tuple [], [.arr 2 els true 0, .arr 1 cs true 0, .arr 1 os true 0, .arr 1 el0 true 0]⟩] fun kf hk => by
    obtain ⟨kf, rfl⟩ : ∃ n, kf = n + 1 := ⟨kf - 1, by omega⟩
    exact ⟨[(idxV Try.prog 24 (.sl 1 0 q none q 1) (.int .i64 (i : Int))).map (fun v => (v, ([.arr 2 els true 0, .arr 1 cs true 0, .arr 1 os true 0, .arr 1 bs true 0] : Heap))) = some (.ptr 1 i 0 q, [.arr 2 els true 0, .arr 1 cs true 0, .arr 1 os true 0, .arr 1 bs true 0]), (loadV Try.prog [.arr 2 els true 0, .arr 1 cs true 0, .arr 1 os true 0, .arr 1 bs true 0] 3 (.ptr 1 i 0 q)).map (fun v => (v, ([.arr 2 els true 0, .arr 1 cs true 0, .arr 1 os true 0, .arr 1 bs true 0] : Heap))) = some (.int .i64 x0, [.arr 2 els true 0, .arr 1 cs true 0, .arr 1 os true 0, .arr 1 bs true 0]), (idxV Try.prog 43 (.sl 3 0 n (some n) n 1) (.int .i64 x0)).map (fun v => (v, ([.arr 2 els true 0, .arr 1 cs true 0, .arr 1 os true 0, .arr 1 bs true 0] : Heap))) = some (.ptr 3 ((x0).toNat) 0 n, [.arr 2 els true 0, .arr 1 cs true 0, .arr 1 os true 0, .arr 1 bs true 0]), (storeV Try.prog [.arr 2 els true 0, .arr 1 cs true 0, .arr 1 os true 0, .arr 1 bs true 0] 4 (.ptr 3 ((x0).toNat) 0 n) (.bool true)).map (fun H => (HV.tuple [], H)) = some (.tuple [], [.arr 2 els true 0, .arr 1 cs true 0, .arr 1 os true 0, .arr 1 el0 true 0])], by kernel_rfl, Obls.cons (hintOp g0) (Obls.cons (hintOp g1) (Obls.cons (hintOp g2) (Obls.cons (hintSt g3) Obls.nil)))⟩
theorem md_n_0 (n : Nat) (la : List HV) (x : Nat) (m : Nat) (els : List HV) (q : Nat) (le s : Int) (p : Nat) (cs os bs : List HV) (i : Nat)   : RunsTo Try.prog polX 6 (sub [1, 1, 1, 1, 1, 1, 1, 1, 1, 0, 1, 0, 0, 1, 1] B6) (env6 (.int .i64 (n : Int)) (.imm .arg 1 la) (.int .i64 (x : Int)) (.bool false) (.sl 0 0 m none m 2) (.sl 1 0 q none q 1) (.int .i64 le) .undef (.int .i64 s) .undef (.sl 2 0 p none p 1) .undef (.sl 3 0 n (some n) n 1) (.int .i64 (i : Int)) .undef .undef) [.arr 2 els true 0, .arr 1 cs true 0, .arr 1 os true 0, .arr 1 bs true 0] (.normal) (polX.keys 6) (env6 (.int .i64 (n : Int)) (.imm .arg 1 la) (.int .i64 (x : Int)) (.bool false) (.sl 0 0 m none m 2) (.sl 1 0 q none q 1) (.int .i64 le) .undef (.int .i64 s) .undef (.sl 2 0 p none p 1) .undef (.sl 3 0 n (some n) n 1) (.int .i64 (IntKind.i64.wrap ((i : Int) + 1))) .undef .undef) [.arr 2 els true 0, .arr 1 cs true 0, .arr 1 os true 0, .arr 1 bs true 0] :=
  RunsTo.hint 1 60 [] fun kf hk => by
    obtain ⟨kf, rfl⟩ : ∃ n, kf = n + 1 := ⟨kf - 1, by omega⟩
    exact ⟨[], by kernel_rfl, Obls.nil⟩
theorem md_o_0 (n : Nat) (la : List HV) (x : Nat) (m : Nat) (els : List HV) (q : Nat) (le s : Int) (p : Nat) (cs os bs : List HV) (i : Nat)   : RunsTo Try.prog polX 6 (sub [1, 1, 1, 1, 1, 1, 1, 1, 1, 1, 0] B6) (env6 (.int .i64 (n : Int)) (.imm .arg 1 la) (.int .i64 (x : Int)) (.bool false) (.sl 0 0 m none m 2) (.sl 1 0 q none q 1) (.int .i64 le) .undef (.int .i64 s) .undef (.sl 2 0 p none p 1) .undef (.sl 3 0 n (some n) n 1) (.int .i64 (i : Int)) .undef .undef) [.arr 2 els true 0, .arr 1 cs true 0, .arr 1 os true 0, .arr 1 bs true 0] (.normal) (polX.keys 6) (env6 (.int .i64 (n : Int)) (.imm .arg 1 la) (.int .i64 (x : Int)) (.bool false) (.sl 0 0 m none m 2) (.sl 1 0 q none q 1) (.int .i64 le) .undef (.int .i64 s) .undef (.sl 2 0 p none p 1) .undef (.sl 3 0 n (some n) n 1) (.int .i64 (i : Int)) (.int .i64 0) .undef) [.arr 2 els true 0, .arr 1 cs true 0, .arr 1 os true 0, .arr 1 bs true 0] :=
  RunsTo.hint 1 60 [] fun kf hk => by
    obtain ⟨kf, rfl⟩ : ∃ n, kf = n + 1 := ⟨kf - 1, by omega⟩
    exact ⟨[], by kernel_rfl, Obls.nil⟩
theorem md_p_0 (n : Nat) (la : List HV) (x : Nat) (m : Nat) (els : List HV) (q : Nat) (le s : Int) (p : Nat) (cs os bs : List HV) (i : Nat) (j : Int)   : RunsTo Try.prog polX 6 (sub [1, 1, 1, 1, 1, 1, 1, 1, 1, 1, 1, 0, 0] B6) (env6 (.int .i64 (n : Int)) (.imm .arg 1 la) (.int .i64 (x : Int)) (.bool false) (.sl 0 0 m none m 2) (.sl 1 0 q none q 1) (.int .i64 le) .undef (.int .i64 s) .undef (.sl 2 0 p none p 1) .undef (.sl 3 0 n (some n) n 1) (.int .i64 (i : Int)) (.int .i64 j) .undef) [.arr 2 els true 0, .arr 1 cs true 0, .arr 1 os true 0, .arr 1 bs true 0] (.normal) (polX.keys 6) (env6 (.int .i64 (n : Int)) (.imm .arg 1 la) (.int .i64 (x : Int)) (.bool false) (.sl 0 0 m none m 2) (.sl 1 0 q none q 1) (.int .i64 le) .undef (.int .i64 s) .undef (.sl 2 0 p none p 1) .undef (.sl 3 0 n (some n) n 1) (.int .i64 (i : Int)) (.int .i64 j) (.int .i64 0)) [.arr 2 els true 0, .arr 1 cs true 0, .arr 1 os true 0, .arr 1 bs true 0] :=
  RunsTo.hint 1 60 [] fun kf hk => by
    obtain ⟨kf, rfl⟩ : ∃ n, kf = n + 1 := ⟨kf - 1, by omega⟩
    exact ⟨[], by kernel_rfl, Obls.nil⟩
theorem md_q_0 (n : Nat) (la : List HV) (x : Nat) (m : Nat) (els : List HV) (q : Nat) (le s : Int) (cs os bs : List HV) (j : Int) (k : Nat)  (g0 : (k : Int) < (m : Int)) : RunsTo Try.prog polX 6 (sub [1, 1, 1, 1, 1, 1, 1, 1, 1, 1, 1, 0, 1, 0, 0, 0] B6) (env6 (.int .i64 (n : Int)) (.imm .arg 1 la) (.int .i64 (x : Int)) (.bool false) (.sl 0 0 m none m 2) (.sl 1 0 q none q 1) (.int .i64 le) .undef (.int .i64 s) .undef .undef .undef (.sl 3 0 n (some n) n 1) .undef (.int .i64 j) (.int .i64 (k : Int))) [.arr 2 els true 0, .arr 1 cs true 0, .arr 1 os true 0, .arr 1 bs true 0] (.normal) (polX.keys 6) (env6 (.int .i64 (n : Int)) (.imm .arg 1 la) (.int .i64 (x : Int)) (.bool false) (.sl 0 0 m none m 2) (.sl 1 0 q none q 1) (.int .i64 le) .undef (.int .i64 s) .undef .undef .undef (.sl 3 0 n (some n) n 1) .undef (.int .i64 j) (.int .i64 (k : Int))) [.arr 2 els true 0, .arr 1 cs true 0, .arr 1 os true 0, .arr 1 bs true 0] :=
  RunsTo.hint 1 60 [⟨18, 3, .bool true, [.arr 2 els true 0, .arr 1 cs true 0, .arr 1 os true 0, .arr 1 bs true 0]⟩] fun kf hk => by
    obtain ⟨kf, rfl⟩ : ∃ n, kf = n + 1 := ⟨kf - 1, by omega⟩
    exact ⟨[some (HV.bool (decide ((k : Int) < (m : Int))), ([.arr 2 els true 0, .arr 1 cs true 0, .arr 1 os true 0, .arr 1 bs true 0] : Heap)) = some (.bool true, [.arr 2 els true 0, .arr 1 cs true 0, .arr 1 os true 0, .arr 1 bs true 0])], by kernel_rfl, Obls.cons (hintB (decide_eq_true g0)) Obls.nil⟩
theorem md_q_1 (n : Nat) (la : List HV) (x : Nat) (m : Nat) (els : List HV) (q : Nat) (le s : Int) (cs os bs : List HV) (j : Int) (k : Nat)  (g0 : ¬ ((k : Int) < (m : Int))) : RunsTo Try.prog polX 6 (sub [1, 1, 1, 1, 1, 1, 1, 1, 1, 1, 1, 0, 1, 0, 0, 0] B6) (env6 (.int .i64 (n : Int)) (.imm .arg 1 la) (.int .i64 (x : Int)) (.bool false) (.sl 0 0 m none m 2) (.sl 1 0 q none q 1) (.int .i64 le) .undef (.int .i64 s) .undef .undef .undef (.sl 3 0 n (some n) n 1) .undef (.int .i64 j) (.int .i64 (k : Int))) [.arr 2 els true 0, .arr 1 cs true 0, .arr 1 os true 0, .arr 1 bs true 0] (.exit 2) (polX.keys 6) (env6 (.int .i64 (n : Int)) (.imm .arg 1 la) (.int .i64 (x : Int)) (.bool false) (.sl 0 0 m none m 2) (.sl 1 0 q none q 1) (.int .i64 le) .undef (.int .i64 s) .undef .undef .undef (.sl 3 0 n (some n) n 1) .undef (.int .i64 j) (.int .i64 (k : Int))) [.arr 2 els true 0, .arr 1 cs true 0, .arr 1 os true 0, .arr 1 bs true 0] :=
  RunsTo.hint 1 60 [⟨18, 3, .bool false, [.arr 2 els true 0, .arr 1 cs true 0, .arr 1 os true 0, .arr 1 bs true 0]⟩] fun kf hk => by
    obtain ⟨kf, rfl⟩ : ∃ n, kf = n + 1 := ⟨kf - 1, by omega⟩
    exact ⟨[some (HV.bool (decide ((k : Int) < (m : Int))), ([.arr 2 els true 0, .arr 1 cs true 0, .arr 1 os true 0, .arr 1 bs true 0] : Heap)) = some (.bool false, [.arr 2 els true 0, .arr 1 cs true 0, .arr 1 os true 0, .arr 1 bs true 0])], by kernel_rfl, Obls.cons (hintB (decide_eq_false g0)) Obls.nil⟩
theorem md_r_0 (n : Nat) (la : List HV) (x : Nat) (m : Nat) (els : List HV) (q : Nat) (le s : Int) (cs os bs : List HV) (j : Int) (k : Nat) (x0 : Int) (x1 : Int) (g0 : idxV Try.prog 22 (.sl 0 0 m none m 2) (.int .i64 (k : Int)) = some (.ptr 0 k 0 m)) (g1 : loadV Try.prog [.arr 2 els true 0, .arr 1 cs true 0, .arr 1 os true 0, .arr 1 bs true 0] 3 (.ptr 0 k 0 m) = some (.int .i64 x0)) (g2 : idxV Try.prog 43 (.sl 3 0 n (some n) n 1) (.int .i64 x0) = some (.ptr 3 ((x0).toNat) 0 n)) (g3 : loadV Try.prog [.arr 2 els true 0, .arr 1 cs true 0, .arr 1 os true 0, .arr 1 bs true 0] 4 (.ptr 3 ((x0).toNat) 0 n) = some (.bool true)) (g4 : idxV Try.prog 22 (.sl 0 0 m none m 2) (.int .i64 (k : Int)) = some (.ptr 0 k 0 m)) (g5 : loadV Try.prog [.arr 2 els true 0, .arr 1 cs true 0, .arr 1 os true 0, .arr 1 bs true 0] 3 (.ptr 0 k 1 m) = some (.int .i64 x1)) (g6 : idxV Try.prog 43 (.sl 3 0 n (some n) n 1) (.int .i64 x1) = some (.ptr 3 ((x1).toNat) 0 n)) (g7 : loadV Try.prog [.arr 2 els true 0, .arr 1 cs true 0, .arr 1 os true 0, .arr 1 bs true 0] 4 (.ptr 3 ((x1).toNat) 0 n) = some (.bool true)) : RunsTo Try.prog polX 6 (sub [1, 1, 1, 1, 1, 1, 1, 1, 1, 1, 1, 0, 1, 0, 0, 1, 0] B6) (env6 (.int .i64 (n : Int)) (.imm .arg 1 la) (.int .i64 (x : Int)) (.bool false) (.sl 0 0 m none m 2) (.sl 1 0 q none q 1) (.int .i64 le) .undef (.int .i64 s) .undef .undef .undef (.sl 3 0 n (some n) n 1) .undef (.int .i64 j) (.int .i64 (k : Int))) [.arr 2 els true 0, .arr 1 cs true 0, .arr 1 os true 0, .arr 1 bs true 0] (.normal) (polX.keys 6) (env6 (.int .i64 (n : Int)) (.imm .arg 1 la) (.int .i64 (x : Int)) (.bool false) (.sl 0 0 m none m 2) (.sl 1 0 q none q 1) (.int .i64 le) .undef (.int .i64 s) .undef .undef .undef (.sl 3 0 n (some n) n 1) .undef (.int .i64 (IntKind.i64.wrap (j + 1))) (.int .i64 (k : Int))) [.arr 2 els true 0, .arr 1 cs true 0, .arr 1 os true 0, .arr 1 bs true 0] :=
  RunsTo.hint 1 60 [⟨20, 3, .ptr 0 k 0 m, [.arr 2 els true 0, .arr 1 cs true 0, .arr 1 os true 0, .arr 1 bs true 0]⟩, ⟨20, 5, .int .i64 x0, [.arr 2 els true 0, .arr 1 cs true 0, .arr 1 os true 0, .arr 1 bs true 0]⟩, ⟨20, 6, .ptr 3 ((x0).toNat) 0 n, [.arr 2 els true 0, .arr 1 cs true 0, .arr 1 os true 0, .arr 1 bs true 0]⟩, ⟨20, 7, .bool true, [.arr 2 els true 0, .arr 1 cs true 0, .arr 1 os true 0, .arr 1 bs true 0]⟩, ⟨20, 12, .ptr 0 k 0 m, [.arr 2 els true 0, .arr 1 cs true 0, .arr 1 os true 0, .arr 1 bs true 0]⟩, ⟨20, 14, .int .i64 x1, [.arr 2 els true 0, .arr 1 cs true 0, .arr 1 os true 0, .arr 1 bs true 0]⟩, ⟨20, 15, .ptr 3 ((x1).toNat) 0 n, [.arr 2 els true 0, .arr 1 cs true 0, .arr 1 os true 0, .arr 1 bs true 0]⟩, ⟨20, 16, .bool true, [.arr 2 els true 0, .arr 1 cs true 0, .arr 1 os true 0, .arr 1 bs true 0]⟩] fun kf hk => by
    obtain ⟨kf, rfl⟩ : ∃ n, kf = n + 1 := ⟨kf - 1, by omega⟩
    exact ⟨[(idxV Try.prog 22 (.sl 0 0 m none m 2) (.int .i64 (k : Int))).map (fun v => (v, ([.arr 2 els true 0, .arr 1 cs true 0, .arr 1 os true 0, .arr 1 bs true 0] : Heap))) = some (.ptr 0 k 0 m, [.arr 2 els true 0, .arr 1 cs true 0, .arr 1 os true 0, .arr 1 bs true 0]), (loadV Try.prog [.arr 2 els true 0, .arr 1 cs true 0, .arr 1 os true 0, .arr 1 bs true 0] 3 (.ptr 0 k 0 m)).map (fun v => (v, ([.arr 2 els true 0, .arr 1 cs true 0, .arr 1 os true 0, .arr 1 bs true 0] : Heap))) = some (.int .i64 x0, [.arr 2 els true 0, .arr 1 cs true 0, .arr 1 os true 0, .arr 1 bs true 0]), (idxV Try.prog 43 (.sl 3 0 n (some n) n 1) (.int .i64 x0)).map (fun v => (v, ([.arr 2 els true 0, .arr 1 cs true 0, .arr 1 os true 0, .arr 1 bs true 0] : Heap))) = some (.ptr 3 ((x0).toNat) 0 n, [.arr 2 els true 0, .arr 1 cs true 0, .arr 1 os true 0, .arr 1 bs true 0]), (loadV Try.prog [.arr 2 els true 0, .arr 1 cs true 0, .arr 1 os true 0, .arr 1 bs true 0] 4 (.ptr 3 ((x0).toNat) 0 n)).map (fun v => (v, ([.arr 2 els true 0, .arr 1 cs true 0, .arr 1 os true 0, .arr 1 bs true 0] : Heap))) = some (.bool true, [.arr 2 els true 0, .arr 1 cs true 0, .arr 1 os true 0, .arr 1 bs true 0]), (idxV Try.prog 22 (.sl 0 0 m none m 2) (.int .i64 (k : Int))).map (fun v => (v, ([.arr 2 els true 0, .arr 1 cs true 0, .arr 1 os true 0, .arr 1 bs true 0] : Heap))) = some (.ptr 0 k 0 m, [.arr 2 els true 0, .arr 1 cs true 0, .arr 1 os true 0, .arr 1 bs true 0]), (loadV Try.prog [.arr 2 els true 0, .arr 1 cs true 0, .arr 1 os true 0, .arr 1 bs true 0] 3 (.ptr 0 k 1 m)).map (fun v => (v, ([.arr 2 els true 0, .arr 1 cs true 0, .arr 1 os true 0, .arr 1 bs true 0] : Heap))) = some (.int .i64 x1, [.arr 2 els true 0, .arr 1 cs true 0, .arr 1 os true 0, .arr 1 bs true 0]), (idxV Try.prog 43 (.sl 3 0 n (some n) n 1) (.int .i64 x1)).map (fun v => (v, ([.arr 2 els true 0, .arr 1 cs true 0, .arr 1 os true 0, .arr 1 bs true 0] : Heap))) = some (.ptr 3 ((x1).toNat) 0 n, [.arr 2 els true 0, .arr 1 cs true 0, .arr 1 os true 0, .arr 1 bs true 0]), (loadV Try.prog [.arr 2 els true 0, .arr 1 cs true 0, .arr 1 os true 0, .arr 1 bs true 0] 4 (.ptr 3 ((x1).toNat) 0 n)).map (fun v => (v, ([.arr 2 els true 0, .arr 1 cs true 0, .arr 1 os true 0, .arr 1 bs true 0] : Heap))) = some (.bool true, [.arr 2 els true 0, .arr 1 cs true 0, .arr 1 os true 0, .arr 1 bs true 0])], by kernel_rfl, Obls.cons (hintOp g0) (Obls.cons (hintOp g1) (Obls.cons (hintOp g2) (Obls.cons (hintOp g3) (Obls.cons (hintOp g4) (Obls.cons (hintOp g5) (Obls.cons (hintOp g6) (Obls.cons (hintOp g7) Obls.nil)))))))⟩
theorem md_r_1 (n : Nat) (la : List HV) (x : Nat) (m : Nat) (els : List HV) (q : Nat) (le s : Int) (cs os bs : List HV) (j : Int) (k : Nat) (x0 : Int) (x1 : Int) (g0 : idxV Try.prog 22 (.sl 0 0 m none m 2) (.int .i64 (k : Int)) = some (.ptr 0 k 0 m)) (g1 : loadV Try.prog [.arr 2 els true 0, .arr 1 cs true 0, .arr 1 os true 0, .arr 1 bs true 0] 3 (.ptr 0 k 0 m) = some (.int .i64 x0)) (g2 : idxV Try.prog 43 (.sl 3 0 n (some n) n 1) (.int .i64 x0) = some (.ptr 3 ((x0).toNat) 0 n)) (g3 : loadV Try.prog [.arr 2 els true 0, .arr 1 cs true 0, .arr 1 os true 0, .arr 1 bs true 0] 4 (.ptr 3 ((x0).toNat) 0 n) = some (.bool true)) (g4 : idxV Try.prog 22 (.sl 0 0 m none m 2) (.int .i64 (k : Int)) = some (.ptr 0 k 0 m)) (g5 : loadV Try.prog [.arr 2 els true 0, .arr 1 cs true 0, .arr 1 os true 0, .arr 1 bs true 0] 3 (.ptr 0 k 1 m) = some (.int .i64 x1)) (g6 : idxV Try.prog 43 (.sl 3 0 n (some n) n 1) (.int .i64 x1) = some (.ptr 3 ((x1).toNat) 0 n)) (g7 : loadV Try.prog [.arr 2 els true 0, .arr 1 cs true 0, .arr 1 os true 0, .arr 1 bs true 0] 4 (.ptr 3 ((x1).toNat) 0 n) = some (.bool false)) : RunsTo Try.prog polX 6 (sub [1, 1, 1, 1, 1, 1, 1, 1, 1, 1, 1, 0, 1, 0, 0, 1, 0] B6) (env6 (.int .i64 (n : Int)) (.imm .arg 1 la) (.int .i64 (x : Int)) (.bool false) (.sl 0 0 m none m 2) (.sl 1 0 q none q 1) (.int .i64 le) .undef (.int .i64 s) .undef .undef .undef (.sl 3 0 n (some n) n 1) .undef (.int .i64 j) (.int .i64 (k : Int))) [.arr 2 els true 0, .arr 1 cs true 0, .arr 1 os true 0, .arr 1 bs true 0] (.normal) (polX.keys 6) (env6 (.int .i64 (n : Int)) (.imm .arg 1 la) (.int .i64 (x : Int)) (.bool false) (.sl 0 0 m none m 2) (.sl 1 0 q none q 1) (.int .i64 le) .undef (.int .i64 s) .undef .undef .undef (.sl 3 0 n (some n) n 1) .undef (.int .i64 j) (.int .i64 (k : Int))) [.arr 2 els true 0, .arr 1 cs true 0, .arr 1 os true 0, .arr 1 bs true 0] :=
  RunsTo.hint 1 60 [⟨20, 3, .ptr 0 k 0 m, [.arr 2 els true 0, .arr 1 cs true 0, .arr 1 os true 0, .arr 1 bs true 0]⟩, ⟨20, 5, .int .i64 x0, [.arr 2 els true 0, .arr 1 cs true 0, .arr 1 os true 0, .arr 1 bs true 0]⟩, ⟨20, 6, .ptr 3 ((x0).toNat) 0 n, [.arr 2 els true 0, .arr 1 cs true 0, .arr 1 os true 0, .arr 1 bs true 0]⟩, ⟨20, 7, .bool true, [.arr 2 els true 0, .arr 1 cs true 0, .arr 1 os true 0, .arr 1 bs true 0]⟩, ⟨20, 12, .ptr 0 k 0 m, [.arr 2 els true 0, .arr 1 cs true 0, .arr 1 os true 0, .arr 1 bs true 0]⟩, ⟨20, 14, .int .i64 x1, [.arr 2 els true 0, .arr 1 cs true 0, .arr 1 os true 0, .arr 1 bs true 0]⟩, ⟨20, 15, .ptr 3 ((x1).toNat) 0 n, [.arr 2 els true 0, .arr 1 cs true 0, .arr 1 os true 0, .arr 1 bs true 0]⟩, ⟨20, 16, .bool false, [.arr 2 els true 0, .arr 1 cs true 0, .arr 1 os true 0, .arr 1 bs true 0]⟩] fun kf hk => by
    obtain ⟨kf, rfl⟩ : ∃ n, kf = n + 1 := ⟨kf - 1, by omega⟩
    exact ⟨[(idxV Try.prog 22 (.sl 0 0 m none m 2) (.int .i64 (k : Int))).map (fun v => (v, ([.arr 2 els true 0, .arr 1 cs true 0, .arr 1 os true 0, .arr 1 bs true 0] : Heap))) = some (.ptr 0 k 0 m, [.arr 2 els true 0, .arr 1 cs true 0, .arr 1 os true 0, .arr 1 bs true 0]), (loadV Try.prog [.arr 2 els true 0, .arr 1 cs true 0, .arr 1 os true 0, .arr 1 bs true 0] 3 (.ptr 0 k 0 m)).map (fun v => (v, ([.arr 2 els true 0, .arr 1 cs true 0, .arr 1 os true 0, .arr 1 bs true 0] : Heap))) = some (.int .i64 x0, [.arr 2 els true 0, .arr 1 cs true 0, .arr 1 os true 0, .arr 1 bs true 0]), (idxV Try.prog 43 (.sl 3 0 n (some n) n 1) (.int .i64 x0)).map (fun v => (v, ([.arr 2 els true 0, .arr 1 cs true 0, .arr 1 os true 0, .arr 1 bs true 0] : Heap))) = some (.ptr 3 ((x0).toNat) 0 n, [.arr 2 els true 0, .arr 1 cs true 0, .arr 1 os true 0, .arr 1 bs true 0]), (loadV Try.prog [.arr 2 els true 0, .arr 1 cs true 0, .arr 1 os true 0, .arr 1 bs true 0] 4 (.ptr 3 ((x0).toNat) 0 n)).map (fun v => (v, ([.arr 2 els true 0, .arr 1 cs true 0, .arr 1 os true 0, .arr 1 bs true 0] : Heap))) = some (.bool true, [.arr 2 els true 0, .arr 1 cs true 0, .arr 1 os true 0, .arr 1 bs true 0]), (idxV Try.prog 22 (.sl 0 0 m none m 2) (.int .i64 (k : Int))).map (fun v => (v, ([.arr 2 els true 0, .arr 1 cs true 0, .arr 1 os true 0, .arr 1 bs true 0] : Heap))) = some (.ptr 0 k 0 m, [.arr 2 els true 0, .arr 1 cs true 0, .arr 1 os true 0, .arr 1 bs true 0]), (loadV Try.prog [.arr 2 els true 0, .arr 1 cs true 0, .arr 1 os true 0, .arr 1 bs true 0] 3 (.ptr 0 k 1 m)).map (fun v => (v, ([.arr 2 els true 0, .arr 1 cs true 0, .arr 1 os true 0, .arr 1 bs true 0] : Heap))) = some (.int .i64 x1, [.arr 2 els true 0, .arr 1 cs true 0, .arr 1 os true 0, .arr 1 bs true 0]), (idxV Try.prog 43 (.sl 3 0 n (some n) n 1) (.int .i64 x1)).map (fun v => (v, ([.arr 2 els true 0, .arr 1 cs true 0, .arr 1 os true 0, .arr 1 bs true 0] : Heap))) = some (.ptr 3 ((x1).toNat) 0 n, [.arr 2 els true 0, .arr 1 cs true 0, .arr 1 os true 0, .arr 1 bs true 0]), (loadV Try.prog [.arr 2 els true 0, .arr 1 cs true 0, .arr 1 os true 0, .arr 1 bs true 0] 4 (.ptr 3 ((x1).toNat) 0 n)).map (fun v => (v, ([.arr 2 els true 0, .arr 1 cs true 0, .arr 1 os true 0, .arr 1 bs true 0] : Heap))) = some (.bool false, [.arr 2 els true 0, .arr 1 cs true 0, .arr 1 os true 0, .arr 1 bs true 0])], by kernel_rfl, Obls.cons (hintOp g0) (Obls.cons (hintOp g1) (Obls.cons (hintOp g2) (Obls.cons (hintOp g3) (Obls.cons (hintOp g4) (Obls.cons (hintOp g5) (Obls.cons (hintOp g6) (Obls.cons (hintOp g7) Obls.nil)))))))⟩
theorem md_r_2 (n : Nat) (la : List HV) (x : Nat) (m : Nat) (els : List HV) (q : Nat) (le s : Int) (cs os bs : List HV) (j : Int) (k : Nat) (x0 : Int) (g0 : idxV Try.prog 22 (.sl 0 0 m none m 2) (.int .i64 (k : Int)) = some (.ptr 0 k 0 m)) (g1 : loadV Try.prog [.arr 2 els true 0, .arr 1 cs true 0, .arr 1 os true 0, .arr 1 bs true 0] 3 (.ptr 0 k 0 m) = some (.int .i64 x0)) (g2 : idxV Try.prog 43 (.sl 3 0 n (some n) n 1) (.int .i64 x0) = some (.ptr 3 ((x0).toNat) 0 n)) (g3 : loadV Try.prog [.arr 2 els true 0, .arr 1 cs true 0, .arr 1 os true 0, .arr 1 bs true 0] 4 (.ptr 3 ((x0).toNat) 0 n) = some (.bool false)) : RunsTo Try.prog polX 6 (sub [1, 1, 1, 1, 1, 1, 1, 1, 1, 1, 1, 0, 1, 0, 0, 1, 0] B6) (env6 (.int .i64 (n : Int)) (.imm .arg 1 la) (.int .i64 (x : Int)) (.bool false) (.sl 0 0 m none m 2) (.sl 1 0 q none q 1) (.int .i64 le) .undef (.int .i64 s) .undef .undef .undef (.sl 3 0 n (some n) n 1) .undef (.int .i64 j) (.int .i64 (k : Int))) [.arr 2 els true 0, .arr 1 cs true 0, .arr 1 os true 0, .arr 1 bs true 0] (.normal) (polX.keys 6) (env6 (.int .i64 (n : Int)) (.imm .arg 1 la) (.int .i64 (x : Int)) (.bool false) (.sl 0 0 m none m 2) (.sl 1 0 q none q 1) (.int .i64 le) .undef (.int .i64 s) .undef .undef .undef (.sl 3 0 n (some n) n 1) .undef (.int .i64 j) (.int .i64 (k : Int))) [.arr 2 els true 0, .arr 1 cs true 0, .arr 1 os true 0, .arr 1 bs true 0] :=
  RunsTo.hint 1 60 [⟨20, 3, .ptr 0 k 0 m, [.arr 2 els true 0, .arr 1 cs true 0, .arr 1 os true 0, .arr 1 bs true 0]⟩, ⟨20, 5, .int .i64 x0, [.arr 2 els true 0, .arr 1 cs true 0, .arr 1 os true 0, .arr 1 bs true 0]⟩, ⟨20, 6, .ptr 3 ((x0).toNat) 0 n, [.arr 2 els true 0, .arr 1 cs true 0, .arr 1 os true 0, .arr 1 bs true 0]⟩, ⟨20, 7, .bool false, [.arr 2 els true 0, .arr 1 cs true 0, .arr 1 os true 0, .arr 1 bs true 0]⟩] fun kf hk => by
    obtain ⟨kf, rfl⟩ : ∃ n, kf = n + 1 := ⟨kf - 1, by omega⟩
    exact ⟨[(idxV Try.prog 22 (.sl 0 0 m none m 2) (.int .i64 (k : Int))).map (fun v => (v, ([.arr 2 els true 0, .arr 1 cs true 0, .arr 1 os true 0, .arr 1 bs true 0] : Heap))) = some (.ptr 0 k 0 m, [.arr 2 els true 0, .arr 1 cs true 0, .arr 1 os true 0, .arr 1 bs true 0]), (loadV Try.prog [.arr 2 els true 0, .arr 1 cs true 0, .arr 1 os true 0, .arr 1 bs true 0] 3 (.ptr 0 k 0 m)).map (fun v => (v, ([.arr 2 els true 0, .arr 1 cs true 0, .arr 1 os true 0, .arr 1 bs true 0] : Heap))) = some (.int .i64 x0, [.arr 2 els true 0, .arr 1 cs true 0, .arr 1 os true 0, .arr 1 bs true 0]), (idxV Try.prog 43 (.sl 3 0 n (some n) n 1) (.int .i64 x0)).map (fun v => (v, ([.arr 2 els true 0, .arr 1 cs true 0, .arr 1 os true 0, .arr 1 bs true 0] : Heap))) = some (.ptr 3 ((x0).toNat) 0 n, [.arr 2 els true 0, .arr 1 cs true 0, .arr 1 os true 0, .arr 1 bs true 0]), (loadV Try.prog [.arr 2 els true 0, .arr 1 cs true 0, .arr 1 os true 0, .arr 1 bs true 0] 4 (.ptr 3 ((x0).toNat) 0 n)).map (fun v => (v, ([.arr 2 els true 0, .arr 1 cs true 0, .arr 1 os true 0, .arr 1 bs true 0] : Heap))) = some (.bool false, [.arr 2 els true 0, .arr 1 cs true 0, .arr 1 os true 0, .arr 1 bs true 0])], by kernel_rfl, Obls.cons (hintOp g0) (Obls.cons (hintOp g1) (Obls.cons (hintOp g2) (Obls.cons (hintOp g3) Obls.nil)))⟩
theorem md_s_0 (n : Nat) (la : List HV) (x : Nat) (m : Nat) (els : List HV) (q : Nat) (le s : Int) (cs os bs : List HV) (j : Int) (k : Nat)   : RunsTo Try.prog polX 6 (sub [1, 1, 1, 1, 1, 1, 1, 1, 1, 1, 1, 0, 1, 0, 0, 1, 1] B6) (env6 (.int .i64 (n : Int)) (.imm .arg 1 la) (.int .i64 (x : Int)) (.bool false) (.sl 0 0 m none m 2) (.sl 1 0 q none q 1) (.int .i64 le) .undef (.int .i64 s) .undef .undef .undef (.sl 3 0 n (some n) n 1) .undef (.int .i64 j) (.int .i64 (k : Int))) [.arr 2 els true 0, .arr 1 cs true 0, .arr 1 os true 0, .arr 1 bs true 0] (.normal) (polX.keys 6) (env6 (.int .i64 (n : Int)) (.imm .arg 1 la) (.int .i64 (x : Int)) (.bool false) (.sl 0 0 m none m 2) (.sl 1 0 q none q 1) (.int .i64 le) .undef (.int .i64 s) .undef .undef .undef (.sl 3 0 n (some n) n 1) .undef (.int .i64 j) (.int .i64 (IntKind.i64.wrap ((k : Int) + 1)))) [.arr 2 els true 0, .arr 1 cs true 0, .arr 1 os true 0, .arr 1 bs true 0] :=
  RunsTo.hint 1 60 [] fun kf hk => by
    obtain ⟨kf, rfl⟩ : ∃ n, kf = n + 1 := ⟨kf - 1, by omega⟩
    exact ⟨[], by kernel_rfl, Obls.nil⟩
theorem md_z_0 (n : Nat) (la : List HV) (x : Nat) (m : Nat) (els : List HV) (q : Nat) (le s : Int) (cs os bs : List HV) (j : Int) (k : Nat)  (g0 : j = IntKind.i64.wrap ((q : Int) - 1)) (g1 : idxV Try.prog 43 (.sl 3 0 n (some n) n 1) (.int .i64 (x : Int)) = some (.ptr 3 x 0 n)) (g2 : loadV Try.prog [.arr 2 els true 0, .arr 1 cs true 0, .arr 1 os true 0, .arr 1 bs true 0] 4 (.ptr 3 x 0 n) = some (.bool true)) (g3 : s = le) : RunsTo Try.prog polX 6 (sub [1, 1, 1, 1, 1, 1, 1, 1, 1, 1, 1, 1] B6) (env6 (.int .i64 (n : Int)) (.imm .arg 1 la) (.int .i64 (x : Int)) (.bool false) (.sl 0 0 m none m 2) (.sl 1 0 q none q 1) (.int .i64 le) .undef (.int .i64 s) .undef .undef .undef (.sl 3 0 n (some n) n 1) .undef (.int .i64 j) (.int .i64 (k : Int))) [.arr 2 els true 0, .arr 1 cs true 0, .arr 1 os true 0, .arr 1 bs true 0] (.ret) (polX.keys 6) (env6 (.int .i64 (n : Int)) (.imm .arg 1 la) (.int .i64 (x : Int)) (.bool true) (.sl 0 0 m none m 2) (.sl 1 0 q none q 1) (.int .i64 le) .undef (.int .i64 s) .undef .undef .undef (.sl 3 0 n (some n) n 1) .undef (.int .i64 j) (.int .i64 (k : Int))) [.arr 2 els true 0, .arr 1 cs true 0, .arr 1 os true 0, .arr 1 bs true 0] :=
  RunsTo.hint 1 60 [⟨22, 4, .bool true, [.arr 2 els true 0, .arr 1 cs true 0, .arr 1 os true 0, .arr 1 bs true 0]⟩, ⟨22, 8, .ptr 3 x 0 n, [.arr 2 els true 0, .arr 1 cs true 0, .arr 1 os true 0, .arr 1 bs true 0]⟩, ⟨22, 9, .bool true, [.arr 2 els true 0, .arr 1 cs true 0, .arr 1 os true 0, .arr 1 bs true 0]⟩, ⟨22, 12, .bool true, [.arr 2 els true 0, .arr 1 cs true 0, .arr 1 os true 0, .arr 1 bs true 0]⟩] fun kf hk => by
    obtain ⟨kf, rfl⟩ : ∃ n, kf = n + 1 := ⟨kf - 1, by omega⟩
    exact ⟨[some (HV.bool (decide (j = IntKind.i64.wrap ((q : Int) - 1))), ([.arr 2 els true 0, .arr 1 cs true 0, .arr 1 os true 0, .arr 1 bs true 0] : Heap)) = some (.bool true, [.arr 2 els true 0, .arr 1 cs true 0, .arr 1 os true 0, .arr 1 bs true 0]), (idxV Try.prog 43 (.sl 3 0 n (some n) n 1) (.int .i64 (x : Int))).map (fun v => (v, ([.arr 2 els true 0, .arr 1 cs true 0, .arr 1 os true 0, .arr 1 bs true 0] : Heap))) = some (.ptr 3 x 0 n, [.arr 2 els true 0, .arr 1 cs true 0, .arr 1 os true 0, .arr 1 bs true 0]), (loadV Try.prog [.arr 2 els true 0, .arr 1 cs true 0, .arr 1 os true 0, .arr 1 bs true 0] 4 (.ptr 3 x 0 n)).map (fun v => (v, ([.arr 2 els true 0, .arr 1 cs true 0, .arr 1 os true 0, .arr 1 bs true 0] : Heap))) = some (.bool true, [.arr 2 els true 0, .arr 1 cs true 0, .arr 1 os true 0, .arr 1 bs true 0]), some (HV.bool (decide (s = le)), ([.arr 2 els true 0, .arr 1 cs true 0, .arr 1 os true 0, .arr 1 bs true 0] : Heap)) = some (.bool true, [.arr 2 els true 0, .arr 1 cs true 0, .arr 1 os true 0, .arr 1 bs true 0])], by kernel_rfl, Obls.cons (hintB (decide_eq_true g0)) (Obls.cons (hintOp g1) (Obls.cons (hintOp g2) (Obls.cons (hintB (decide_eq_true g3)) Obls.nil)))⟩
theorem md_z_3 (n : Nat) (la : List HV) (x : Nat) (m : Nat) (els : List HV) (q : Nat) (le s : Int) (cs os bs : List HV) (j : Int) (k : Nat)  (g0 : j = IntKind.i64.wrap ((q : Int) - 1)) (g1 : idxV Try.prog 43 (.sl 3 0 n (some n) n 1) (.int .i64 (x : Int)) = some (.ptr 3 x 0 n)) (g2 : loadV Try.prog [.arr 2 els true 0, .arr 1 cs true 0, .arr 1 os true 0, .arr 1 bs true 0] 4 (.ptr 3 x 0 n) = some (.bool false)) (g3 : ¬ (s = le)) : RunsTo Try.prog polX 6 (sub [1, 1, 1, 1, 1, 1, 1, 1, 1, 1, 1, 1] B6) (env6 (.int .i64 (n : Int)) (.imm .arg 1 la) (.int .i64 (x : Int)) (.bool false) (.sl 0 0 m none m 2) (.sl 1 0 q none q 1) (.int .i64 le) .undef (.int .i64 s) .undef .undef .undef (.sl 3 0 n (some n) n 1) .undef (.int .i64 j) (.int .i64 (k : Int))) [.arr 2 els true 0, .arr 1 cs true 0, .arr 1 os true 0, .arr 1 bs true 0] (.ret) (polX.keys 6) (env6 (.int .i64 (n : Int)) (.imm .arg 1 la) (.int .i64 (x : Int)) (.bool true) (.sl 0 0 m none m 2) (.sl 1 0 q none q 1) (.int .i64 le) .undef (.int .i64 s) .undef .undef .undef (.sl 3 0 n (some n) n 1) .undef (.int .i64 j) (.int .i64 (k : Int))) [.arr 2 els true 0, .arr 1 cs true 0, .arr 1 os true 0, .arr 1 bs true 0] :=
  RunsTo.hint 1 60 [⟨22, 4, .bool true, [.arr 2 els true 0, .arr 1 cs true 0, .arr 1 os true 0, .arr 1 bs true 0]⟩, ⟨22, 8, .ptr 3 x 0 n, [.arr 2 els true 0, .arr 1 cs true 0, .arr 1 os true 0, .arr 1 bs true 0]⟩, ⟨22, 9, .bool false, [.arr 2 els true 0, .arr 1 cs true 0, .arr 1 os true 0, .arr 1 bs true 0]⟩, ⟨22, 12, .bool false, [.arr 2 els true 0, .arr 1 cs true 0, .arr 1 os true 0, .arr 1 bs true 0]⟩] fun kf hk => by
    obtain ⟨kf, rfl⟩ : ∃ n, kf = n + 1 := ⟨kf - 1, by omega⟩
    exact ⟨[some (HV.bool (decide (j = IntKind.i64.wrap ((q : Int) - 1))), ([.arr 2 els true 0, .arr 1 cs true 0, .arr 1 os true 0, .arr 1 bs true 0] : Heap)) = some (.bool true, [.arr 2 els true 0, .arr 1 cs true 0, .arr 1 os true 0, .arr 1 bs true 0]), (idxV Try.prog 43 (.sl 3 0 n (some n) n 1) (.int .i64 (x : Int))).map (fun v => (v, ([.arr 2 els true 0, .arr 1 cs true 0, .arr 1 os true 0, .arr 1 bs true 0] : Heap))) = some (.ptr 3 x 0 n, [.arr 2 els true 0, .arr 1 cs true 0, .arr 1 os true 0, .arr 1 bs true 0]), (loadV Try.prog [.arr 2 els true 0, .arr 1 cs true 0, .arr 1 os true 0, .arr 1 bs true 0] 4 (.ptr 3 x 0 n)).map (fun v => (v, ([.arr 2 els true 0, .arr 1 cs true 0, .arr 1 os true 0, .arr 1 bs true 0] : Heap))) = some (.bool false, [.arr 2 els true 0, .arr 1 cs true 0, .arr 1 os true 0, .arr 1 bs true 0]), some (HV.bool (decide (s = le)), ([.arr 2 els true 0, .arr 1 cs true 0, .arr 1 os true 0, .arr 1 bs true 0] : Heap)) = some (.bool false, [.arr 2 els true 0, .arr 1 cs true 0, .arr 1 os true 0, .arr 1 bs true 0])], by kernel_rfl, Obls.cons (hintB (decide_eq_true g0)) (Obls.cons (hintOp g1) (Obls.cons (hintOp g2) (Obls.cons (hintB (decide_eq_false g3)) Obls.nil)))⟩
end Go.Proofs.Ytmhfkhlamnapdaa
end
section
open Go Go.HL
namespace Go.Proofs.Ytmhfkhlamnapdaa
def ds (row : Int → List Int) : Nat → Int → Int → List Int
  | 0, v, _ => [v]
  | k + 1, v, w => v :: (keep w (row v)).flatMap fun u => ds row k u v
inductive Anc (l : List (Int × Int)) (ρ : Int → Nat) (z : Int) : Int → Prop
  | refl : Anc l ρ z z
  | step {u v : Int} : Anc l ρ z u → v ∈ rowE l u → ρ v < ρ u → Anc l ρ z v
def Dn (l : List (Int × Int)) (ρ : Int → Nat) (v w : Int) : Prop := ∀ u, u ∈ keep w (rowE l v) → ρ v < ρ u
section
variable {l : List (Int × Int)} {ρ : Int → Nat} {M : Nat}
theorem Anc.le {z v : Int} (h : Anc l ρ z v) : ρ v ≤ ρ z := by
  induction h with
  | refl => exact Nat.le_refl _
  | step _ _ h2 ih => omega
end
section
variable {l : List (Int × Int)} {ρ : Int → Nat} {M : Nat}
theorem Anc.first {z b : Int} (h : Anc l ρ z b) : z = b ∨ ∃ p, p ∈ rowE l z ∧ ρ p < ρ z ∧ Anc l ρ p b := by
  induction h with
  | refl => exact .inl rfl
  | step h1 h2 h3 ih =>
    rcases ih with rfl | ⟨p, h4, h5, h6⟩
    · exact .inr ⟨_, h2, h3, .refl⟩
    · exact .inr ⟨p, h4, h5, .step h6 h2 h3⟩
end
section
variable {l : List (Int × Int)} {ρ : Int → Nat} {M : Nat}
theorem Anc.chain (hO : Ori l ρ M) {z a b : Int} (h : Anc l ρ z a) (h' : Anc l ρ z b) : Anc l ρ a b ∨ Anc l ρ b a := by
  induction h with
  | refl => exact .inl h'
  | step h1 h2 h3 ih =>
    rcases ih with h4 | h4
    · rcases h4.first with rfl | ⟨p, h5, h6, h7⟩
      · exact .inr (.step .refl h2 h3)
      · rw [hO.low h5 h2 h6 h3] at h7
        exact .inl h7
    · exact .inr (.step h4 h2 h3)
end
section
variable {l : List (Int × Int)} {ρ : Int → Nat} {M : Nat}
theorem Anc.child (hO : Ori l ρ M) {z v a b : Int} (ha : Anc l ρ z a) (hb : Anc l ρ z b) (h1 : v ∈ rowE l a) (h2 : ρ v < ρ a) (h3 : v ∈ rowE l b) (h4 : ρ v < ρ b) : a = b := by
  have key : ∀ a b : Int, Anc l ρ a b → v ∈ rowE l a → ρ v < ρ a → ρ v < ρ b → a = b := by
    intro a b h h1 h2 h4
    rcases h.first with e | ⟨p, h5, h6, h7⟩
    · exact e
    · rw [hO.low h5 h1 h6 h2] at h7
      have := h7.le
      omega
  rcases ha.chain hO hb with h | h
  · exact key a b h h1 h2 h4
  · exact (key b a h h3 h4 h2).symm
end
section
variable {l : List (Int × Int)} {ρ : Int → Nat} {M : Nat}
theorem Dn.next (hO : Ori l ρ M) {v w u : Int} (h : Dn l ρ v w) (hu : u ∈ keep w (rowE l v)) : Dn l ρ u v := by
  intro z hz
  obtain ⟨h1, h2⟩ := keep_mem.1 hz
  have h3 := h u hu
  have hne := hO.neq h1
  rcases Nat.lt_or_ge (ρ u) (ρ z) with h4 | h4
  · exact h4
  · exact absurd (hO.low h1 (rowE_sym (keep_mem.1 hu).1) (by omega) h3) h2
end
section
variable {l : List (Int × Int)} {ρ : Int → Nat} {M : Nat}
theorem ds_anc (hO : Ori l ρ M) : ∀ (k : Nat) (v w z : Int), Dn l ρ v w → z ∈ ds (rowE l) k v w → Anc l ρ z v
  | 0, v, w, z, _, hz => by
    rw [ds, List.mem_singleton] at hz
    rw [hz]; exact .refl
  | k + 1, v, w, z, h, hz => by
    rw [ds] at hz
    rcases List.mem_cons.1 hz with rfl | hz
    · exact .refl
    · obtain ⟨u, hu, hz⟩ := List.mem_flatMap.1 hz
      exact .step (ds_anc hO k u v z (h.next hO hu) hz) (rowE_sym (keep_mem.1 hu).1) (h u hu)
end
section
variable {l : List (Int × Int)} {ρ : Int → Nat} {M : Nat}
theorem ds_nodup (hO : Ori l ρ M) : ∀ (k : Nat) (v w : Int), Dn l ρ v w → (ds (rowE l) k v w).Nodup
  | 0, v, w, _ => by simp [ds]
  | k + 1, v, w, h => by
    rw [ds, List.nodup_cons]
    refine ⟨fun hm => ?_, ?_⟩
    · obtain ⟨u, hu, hz⟩ := List.mem_flatMap.1 hm
      have h1 := (ds_anc hO k u v v (h.next hO hu) hz).le
      have h2 := h u hu
      omega
    · have hnd : (keep w (rowE l v)).Nodup := List.Pairwise.filter _ (hO.nodup v)
      have hsub : ∀ u, u ∈ keep w (rowE l v) → u ∈ keep w (rowE l v) := fun u hu => hu
      generalize hK : keep w (rowE l v) = K at hnd
      have hK2 : ∀ u, u ∈ K → u ∈ keep w (rowE l v) := fun u hu => by rw [hK]; exact hu
      clear hK hsub
      induction K with
      | nil => simp
      | cons a K ih =>
        rw [List.flatMap_cons]
        rw [List.nodup_cons] at hnd
        have ha := hK2 a (by simp)
        refine List.nodup_append.2 ⟨ds_nodup hO k a v (h.next hO ha), ih hnd.2 (fun u hu => hK2 u (by simp [hu])), fun x hx y hy e => ?_⟩
        subst e
        obtain ⟨b, hb, hy⟩ := List.mem_flatMap.1 hy
        have hb' := hK2 b (by simp [hb])
        have : a = b := Anc.child hO (ds_anc hO k a v x (h.next hO ha) hx) (ds_anc hO k b v x (h.next hO hb') hy) (rowE_sym (keep_mem.1 ha).1) (h a ha) (rowE_sym (keep_mem.1 hb').1) (h b hb')
        exact hnd.1 (this ▸ hb)
end
section
variable {l : List (Int × Int)} {ρ : Int → Nat} {M : Nat}
theorem ds_range {n : Nat} (hv : ∀ p ∈ l, validB (n : Int) p = true) : ∀ (k : Nat) (v w z : Int), (0 ≤ v ∧ v < (n : Int)) → z ∈ ds (rowE l) k v w → 0 ≤ z ∧ z < (n : Int)
  | 0, v, w, z, h, hz => by
    rw [ds, List.mem_singleton] at hz
    rw [hz]; exact h
  | k + 1, v, w, z, h, hz => by
    rw [ds] at hz
    rcases List.mem_cons.1 hz with rfl | hz
    · exact h
    · obtain ⟨u, hu, hz⟩ := List.mem_flatMap.1 hz
      exact ds_range hv k u v z (valid_row hv (keep_mem.1 hu).1) hz
end
theorem ints_len {n : Nat} {L : List Int} (hd : L.Nodup) (hr : ∀ z, z ∈ L → 0 ≤ z ∧ z < (n : Int)) : L.length ≤ n := by
  have := nodup_lt_len (n := n) (l := L.map Int.toNat) ?_ ?_
  · simpa using this
  · unfold List.Nodup
    rw [List.pairwise_map]
    refine List.Pairwise.imp_of_mem (fun {a b} ha hb hab => ?_) hd
    have := hr a ha; have := hr b hb
    omega
  · intro y hy
    obtain ⟨z, hz, rfl⟩ := List.mem_map.1 hy
    have := hr z hz
    omega
def sm : List Int → Int
  | [] => 0
  | t :: l => 1 + t + sm l
theorem sm_ins (t : Int) : ∀ l : List Int, sm (dsIns t l) = 1 + t + sm l
  | [] => rfl
  | a :: l => by
    rw [dsIns]
    split
    · rw [sm, sm_ins t l, sm]; omega
    · rfl
theorem sm_acc : ∀ (l acc : List Int), sm (dsAcc acc l) = sm acc + sm l
  | [], acc => by simp [dsAcc, sm]
  | t :: l, acc => by rw [dsAcc, sm_acc l, sm_ins, sm]; omega
theorem sm_nonneg : ∀ (l : List Int), (∀ t, t ∈ l → 0 ≤ t) → 0 ≤ sm l
  | [], _ => Int.le_refl _
  | t :: l, h => by
    have := h t (by simp)
    have := sm_nonneg l (fun t ht => h t (by simp [ht]))
    rw [sm]; omega
theorem bestGo_sm : ∀ (l : List Int) (i : Nat) (mo : Int), (∀ t, t ∈ l → 0 ≤ t) → bestGo i mo l ≤ max mo ((i : Int) + sm l)
  | [], i, mo, _ => by rw [bestGo, sm]; omega
  | t :: l, i, mo, h => by
    have ht := h t (by simp)
    have h1 := sm_nonneg l (fun t ht => h t (by simp [ht]))
    have := bestGo_sm l (i + 1) (max mo ((i : Int) + 1 + t)) (fun t ht => h t (by simp [ht]))
    rw [bestGo, sm]
    omega
theorem tmF_nonneg (row : Int → List Int) : ∀ (k : Nat) (v w : Int), 0 ≤ tmF row k v w
  | 0, _, _ => Int.le_refl _
  | k + 1, v, w => by
    rw [tmF]
    have : ∀ (l : List Int) (i : Nat) (mo : Int), mo ≤ bestGo i mo l := by
      intro l
      induction l with
      | nil => intro i mo; exact Int.le_refl _
      | cons t l ih => intro i mo; rw [bestGo]; have := ih (i + 1) (max mo ((i : Int) + 1 + t)); omega
    exact this _ 0 0
theorem tmF_ds (row : Int → List Int) : ∀ (k : Nat) (v w : Int), tmF row k v w + 1 ≤ ((ds row k v w).length : Int)
  | 0, v, w => by simp [tmF, ds]
  | k + 1, v, w => by
    rw [tmF, ds]
    have h1 := bestGo_sm (dsort ((keep w (row v)).map fun u => tmF row k u v)) 0 0 (fun t ht => by
      rw [(dsort_perm _).mem_iff, List.mem_map] at ht
      obtain ⟨u, _, rfl⟩ := ht
      exact tmF_nonneg row k u v)
    have h2 : sm (dsort ((keep w (row v)).map fun u => tmF row k u v)) = sm ((keep w (row v)).map fun u => tmF row k u v) := by
      rw [dsort, sm_acc]; simp [sm]
    have h3 : ∀ K : List Int, sm (K.map fun u => tmF row k u v) ≤ ((K.flatMap fun u => ds row k u v).length : Int) := by
      intro K
      induction K with
      | nil => simp [sm]
      | cons a K ih =>
        have := tmF_ds row k a v
        rw [List.map_cons, sm, List.flatMap_cons, List.length_append]
        omega
    have h4 := h3 (keep w (row v))
    rw [List.length_cons]
    omega
theorem tree_small {n : Nat} {l : List (Int × Int)} (h : treeOk (n : Int) l = true) {x : Nat} (hx : x < n) : tm (rowE l) x (-1) + 1 ≤ n := by
  obtain ⟨⟨hn, hl⟩, hv, hr⟩ := tree_rtd h
  have hR := hr x hx
  obtain ⟨hO, _⟩ := hR.ori hx hv hl
  have hD : Dn l (fun v => ((bfs (fun y => (adjOf n l).getD y []) n x).getD v.toNat 0).toNat) (x : Int) (-1) := by
    intro u hu
    have hne := hO.neq (keep_mem.1 hu).1
    have h0 := hR.root
    dsimp only at hne h0 ⊢
    omega
  have h1 := tmF_ds (rowE l) 200 x (-1)
  have h2 := ints_len (ds_nodup hO 200 x (-1) hD) (fun z hz => ds_range hv 200 x (-1) z ⟨by omega, by omega⟩ hz)
  unfold tm
  omega
end Go.Proofs.Ytmhfkhlamnapdaa
end
section
open Go Go.HL
namespace Go.Proofs.Ytmhfkhlamnapdaa
def Le2 : List Int → List Int → Prop
  | [], [] => True
  | a :: l, b :: m => a ≤ b ∧ Le2 l m
  | _, _ => False
theorem Le2.refl : ∀ l : List Int, Le2 l l
  | [] => trivial
  | _ :: l => ⟨Int.le_refl _, Le2.refl l⟩
theorem dsIns_top {a : Int} : ∀ {m : List Int}, (∀ b, b ∈ m → b ≤ a) → dsIns a m = a :: m
  | [], _ => rfl
  | b :: m, h => by
    rw [dsIns]
    split
    · rename_i hab
      have hb := h b (by simp)
      have e : a = b := by omega
      subst e
      rw [dsIns_top (fun c hc => h c (by simp [hc]))]
    · rfl
def best (l : List Int) : Int := bestGo 0 0 (dsort l)
theorem bestGo_len : ∀ (l : List Int) (i : Nat) (p : Int), (∀ t, t ∈ l → 0 ≤ t) → l ≠ [] → (i : Int) + l.length ≤ bestGo i p l
  | [], _, _, _, h => absurd rfl h
  | [t], i, p, h, _ => by
    have := h t (by simp)
    simp only [bestGo, List.length_singleton]
    omega
  | t :: a :: l, i, p, h, _ => by
    have := bestGo_len (a :: l) (i + 1) (max p ((i : Int) + 1 + t)) (fun x hx => h x (by simp at hx ⊢; exact .inr hx)) (by simp)
    rw [bestGo]
    simp only [List.length_cons] at this ⊢
    omega
theorem best_len {l : List Int} (h : ∀ t, t ∈ l → 0 ≤ t) : (l.length : Int) ≤ best l := by
  cases l with
  | nil => simp [best, dsort, dsAcc, bestGo]
  | cons a l =>
    have := bestGo_len (dsort (a :: l)) 0 0 (fun t ht => h t ((dsort_perm _).mem_iff.1 ht)) (fun e => by
      have := (dsort_perm (a :: l)).length_eq
      rw [e] at this; simp at this)
    rw [(dsort_perm _).length_eq] at this
    unfold best
    simpa using this
end Go.Proofs.Ytmhfkhlamnapdaa
end
section
open Go Go.HL
namespace Go.Proofs.Ytmhfkhlamnapdaa
theorem bestGo_mono : ∀ (l : List Int) {i j : Nat} {p q : Int}, i ≤ j → p ≤ q → bestGo i p l ≤ bestGo j q l
  | [], _, _, _, _, _, h => h
  | t :: l, i, j, p, q, hij, hpq => by
    rw [bestGo, bestGo]
    exact bestGo_mono l (by omega) (by omega)
theorem bestGo_max (c : Int) : ∀ (l : List Int) (i : Nat) (p : Int), bestGo i (max c p) l = max c (bestGo i p l)
  | [], _, _ => rfl
  | t :: l, i, p => by
    rw [bestGo, bestGo, show max (max c p) ((i : Int) + 1 + t) = max c (max p ((i : Int) + 1 + t)) by omega, bestGo_max c l]
theorem bestGo_shift : ∀ (l : List Int) {i : Nat} {p q : Int}, p ≤ q + 1 → bestGo (i + 1) p l ≤ bestGo i q l + 1
  | [], _, _, _, h => h
  | t :: l, i, p, q, h => by
    rw [bestGo, bestGo]
    exact bestGo_shift l (by omega)
theorem bestGo_ge : ∀ (l : List Int) (i : Nat) (p : Int), p ≤ bestGo i p l
  | [], _, _ => Int.le_refl _
  | t :: l, i, p => by
    rw [bestGo]
    have := bestGo_ge l (i + 1) (max p ((i : Int) + 1 + t))
    omega
theorem bestGo_mem : ∀ (l : List Int) (i : Nat) (p t : Int), t ∈ l → (i : Int) + 1 + t ≤ bestGo i p l
  | a :: l, i, p, t, h => by
    rw [bestGo]
    rcases List.mem_cons.1 h with rfl | h
    · have := bestGo_ge l (i + 1) (max p ((i : Int) + 1 + t))
      omega
    · have := bestGo_mem l (i + 1) (max p ((i : Int) + 1 + a)) t h
      omega
theorem best_mem {l : List Int} {t : Int} (h : t ∈ l) : t + 1 ≤ best l := by
  have := bestGo_mem (dsort l) 0 0 t ((dsort_perm l).mem_iff.2 h)
  unfold best
  omega
theorem dsort_cons (a : Int) (l : List Int) : dsort (a :: l) = dsIns a (dsort l) :=
  (fl_dsort (dsIns_fl a (dsort_fl l)) ((dsIns_perm a (dsort l)).trans ((dsort_perm l).cons a))).symm
theorem bestGo_ins_le (a : Int) : ∀ (S : List Int) (i : Nat) (p : Int), bestGo i p (dsIns a S) ≤ max (max p ((i : Int) + 1 + a)) (bestGo (i + 1) p S)
  | [], i, p => by
    simp only [dsIns, bestGo]
    omega
  | b :: S, i, p => by
    rw [dsIns]
    split
    · rename_i hab
      have h1 := bestGo_ins_le a S (i + 1) (max p ((i : Int) + 1 + b))
      have h2 := bestGo_mono S (i := i + 1 + 1) (j := i + 1 + 1) (p := max p ((i : Int) + 1 + b)) (q := max p (((i + 1 : Nat) : Int) + 1 + b)) (Nat.le_refl _) (by omega)
      have h3 := bestGo_ge S (i + 1 + 1) (max p (((i + 1 : Nat) : Int) + 1 + b))
      rw [bestGo, bestGo]
      omega
    · rw [bestGo, show max p ((i : Int) + 1 + a) = max ((i : Int) + 1 + a) p by omega, bestGo_max]
      omega
theorem bestGo_ins_ge (a : Int) : ∀ (S : List Int) (i : Nat) (p : Int), bestGo i p S ≤ bestGo i p (dsIns a S)
  | [], i, p => by
    simp only [dsIns, bestGo]
    omega
  | b :: S, i, p => by
    rw [dsIns]
    split
    · rw [bestGo, bestGo]
      exact bestGo_ins_ge a S _ _
    · rw [bestGo, bestGo, bestGo]
      exact bestGo_mono S (by omega) (by omega)
theorem best_cons_le (a : Int) (l : List Int) : best (a :: l) ≤ max (max 0 (a + 1)) (best l + 1) := by
  unfold best
  rw [dsort_cons]
  have h1 := bestGo_ins_le a (dsort l) 0 0
  have h2 := bestGo_shift (dsort l) (i := 0) (p := 0) (q := 0) (by omega)
  omega
theorem best_cons_ge (a : Int) (l : List Int) : best l ≤ best (a :: l) := by
  unfold best
  rw [dsort_cons]
  exact bestGo_ins_ge a _ 0 0
theorem best_perm {l m : List Int} (h : l.Perm m) : best l = best m := by unfold best; rw [dsort_eq h]
def sum2 : List Int → Nat
  | [] => 0
  | t :: l => 2 ^ t.toNat + sum2 l
theorem sum2_ins (t : Int) : ∀ l : List Int, sum2 (dsIns t l) = 2 ^ t.toNat + sum2 l
  | [] => rfl
  | a :: l => by
    rw [dsIns]
    split
    · rw [sum2, sum2_ins t l, sum2]; omega
    · rfl
theorem sum2_acc : ∀ (l acc : List Int), sum2 (dsAcc acc l) = sum2 acc + sum2 l
  | [], acc => by simp [dsAcc, sum2]
  | t :: l, acc => by rw [dsAcc, sum2_acc l, sum2_ins, sum2]; omega
theorem sum2_le : ∀ (l : List Int) (i : Nat) (p B : Int), bestGo i p l ≤ B → (∀ t, t ∈ l → 0 ≤ t) → (i : Int) ≤ B → sum2 l + 1 ≤ 2 ^ (B - i).toNat
  | [], i, p, B, _, _, _ => by
    rw [sum2]
    exact Nat.one_le_two_pow
  | t :: l, i, p, B, h, h0, hi => by
    rw [bestGo] at h
    have h1 := bestGo_ge l (i + 1) (max p ((i : Int) + 1 + t))
    have ht := h0 t (by simp)
    have ih := sum2_le l (i + 1) _ B h (fun t ht => h0 t (by simp [ht])) (by omega)
    have h2 : 2 ^ t.toNat ≤ 2 ^ (B - ((i + 1 : Nat) : Int)).toNat := Nat.pow_le_pow_right (by omega) (by omega)
    have h3 : (B - (i : Int)).toNat = (B - ((i + 1 : Nat) : Int)).toNat + 1 := by omega
    rw [sum2, h3, Nat.pow_succ]
    omega
theorem tmF_pow (row : Int → List Int) : ∀ (k : Nat) (v w : Int), (ds row k v w).length ≤ 2 ^ (tmF row k v w).toNat
  | 0, v, w => by simp [ds, tmF]
  | k + 1, v, w => by
    have h2 : sum2 (dsort ((keep w (row v)).map fun u => tmF row k u v)) = sum2 ((keep w (row v)).map fun u => tmF row k u v) := by
      rw [dsort, sum2_acc]; simp [sum2]
    have hn : 0 ≤ tmF row (k + 1) v w := tmF_nonneg row (k + 1) v w
    have h1 := sum2_le (dsort ((keep w (row v)).map fun u => tmF row k u v)) 0 0 (tmF row (k + 1) v w) (by rw [tmF]; exact Int.le_refl _) (fun t ht => by
      rw [(dsort_perm _).mem_iff, List.mem_map] at ht
      obtain ⟨u, _, rfl⟩ := ht
      exact tmF_nonneg row k u v) (by omega)
    have h3 : ∀ K : List Int, (K.flatMap fun u => ds row k u v).length ≤ sum2 (K.map fun u => tmF row k u v) := by
      intro K
      induction K with
      | nil => simp [sum2]
      | cons a K ih =>
        have := tmF_pow row k a v
        rw [List.map_cons, sum2, List.flatMap_cons, List.length_append]
        omega
    have h4 := h3 (keep w (row v))
    have h5 : (tmF row (k + 1) v w - ((0 : Nat) : Int)).toNat = (tmF row (k + 1) v w).toNat := by omega
    rw [h5, h2] at h1
    rw [ds, List.length_cons]
    omega
section
variable {l : List (Int × Int)} {ρ : Int → Nat} {M : Nat}
theorem Anc.trans {z p r : Int} (h : Anc l ρ z p) (h' : Anc l ρ p r) : Anc l ρ z r := by
  induction h' with
  | refl => exact h
  | step _ h2 h3 ih => exact .step ih h2 h3
end
section
variable {l : List (Int × Int)} {ρ : Int → Nat} {M : Nat}
theorem ds_cover : ∀ (k : Nat) (v w z : Int), Anc l ρ z v → ρ z ≤ ρ v + k → (∀ u, u ∈ rowE l v → ρ v < ρ u → u ≠ w) → z ∈ ds (rowE l) k v w
  | 0, v, w, z, h, hk, _ => by
    cases h with
    | refl => simp [ds]
    | step h1 h2 h3 => have := h1.le; omega
  | k + 1, v, w, z, h, hk, hw => by
    rw [ds]
    cases h with
    | refl => simp
    | step h1 h2 h3 =>
      rename_i u
      have hu := rowE_sym h2
      refine List.mem_cons_of_mem _ (List.mem_flatMap.2 ⟨u, keep_mem.2 ⟨hu, hw u hu h3⟩, ds_cover k u v z h1 (by omega) fun x hx hlt e => ?_⟩)
      rw [e] at hlt
      omega
end
section
variable {l : List (Int × Int)} {ρ : Int → Nat} {M : Nat}
theorem Rtd.anc {n r : Nat} (hR : Rtd l n r ρ) (hv : ∀ p ∈ l, validB (n : Int) p = true) : ∀ (k z : Nat), z < n → ρ (z : Int) ≤ k → Anc l ρ (z : Int) (r : Int)
  | 0, z, hz, hk => by
    by_cases e : z = r
    · rw [e]; exact .refl
    · obtain ⟨u, _, h2⟩ := hR.up z hz e
      omega
  | k + 1, z, hz, hk => by
    by_cases e : z = r
    · rw [e]; exact .refl
    · obtain ⟨u, h1, h2⟩ := hR.up z hz e
      have hu := valid_row hv h1
      have e2 : ((u.toNat : Nat) : Int) = u := by omega
      have := Rtd.anc hR hv k u.toNat (by omega) (by rw [e2]; omega)
      rw [e2] at this
      exact Anc.trans (.step .refl h1 (by omega)) this
end
section
variable {l : List (Int × Int)} {ρ : Int → Nat} {M : Nat}
theorem tmF_far (hone : ∀ p ∈ l, ρ p.1 = ρ p.2 + 1 ∨ ρ p.2 = ρ p.1 + 1) : ∀ (k : Nat) (v w z : Int), z ∈ ds (rowE l) k v w → (ρ z : Int) ≤ ρ v + tmF (rowE l) k v w
  | 0, v, w, z, hz => by
    rw [ds, List.mem_singleton] at hz
    rw [hz, tmF]; omega
  | k + 1, v, w, z, hz => by
    rw [ds] at hz
    have h0 := tmF_nonneg (rowE l) (k + 1) v w
    rcases List.mem_cons.1 hz with rfl | hz
    · omega
    · obtain ⟨u, hu, hz⟩ := List.mem_flatMap.1 hz
      have ih := tmF_far hone k u v z hz
      have h1 : tmF (rowE l) k u v + 1 ≤ tmF (rowE l) (k + 1) v w := best_mem (l := (keep w (rowE l v)).map fun u => tmF (rowE l) k u v) (List.mem_map_of_mem hu)
      obtain ⟨p, hp, hE⟩ := rowE_mem.1 (keep_mem.1 hu).1
      have h2 := hone p hp
      have h3 : ρ u ≤ ρ v + 1 := by
        rcases hE with ⟨a, b⟩ | ⟨a, b⟩
        · rw [a, b] at h2; omega
        · rw [a, b] at h2; omega
      omega
end
section
variable {l : List (Int × Int)} {ρ : Int → Nat} {M : Nat}
theorem keep_all {r : List Int} (h : ∀ u, u ∈ r → 0 ≤ u) : keep (-1) r = r := by
  rw [keep, List.filter_eq_self]
  intro u hu
  have := h u hu
  simp
  omega
end
section
variable {l : List (Int × Int)} {ρ : Int → Nat} {M : Nat}
theorem perm_keep {v : Int} : ∀ {r : List Int}, r.Nodup → v ∈ r → r.Perm (v :: keep v r)
  | a :: r, hd, h => by
    rw [List.nodup_cons] at hd
    by_cases e : a = v
    · have : keep v (a :: r) = r := by
        rw [keep, List.filter_cons, if_neg (by simp [e]), List.filter_eq_self]
        intro u hu
        simp only [Bool.not_eq_true', decide_eq_false_iff_not]
        intro e2
        exact hd.1 (by rw [e, ← e2]; exact hu)
      rw [this, e]
    · have h2 : v ∈ r := by
        rcases List.mem_cons.1 h with h | h
        · exact absurd h.symm e
        · exact h
      have ih := perm_keep hd.2 h2
      have : keep v (a :: r) = a :: keep v r := by rw [keep, List.filter_cons, if_pos (by simp [e])]; rfl
      rw [this]
      exact (ih.cons a).trans (.swap _ _ _)
end
section
variable {l : List (Int × Int)} {ρ : Int → Nat} {M : Nat}
theorem tm_near {n : Nat} (hO : Ori l ρ M) (hM : M ≤ 70) (hv : ∀ p ∈ l, validB (n : Int) p = true) {u v : Int} (huv : u ∈ rowE l v) :
    tm (rowE l) u v + 1 ≤ tm (rowE l) v (-1) ∧ tm (rowE l) v u ≤ tm (rowE l) v (-1) ∧ tm (rowE l) v (-1) ≤ max (tm (rowE l) u v + 1) (tm (rowE l) v u + 1) := by
  have hvr := valid_row hv (rowE_sym huv)
  have hur := valid_row hv huv
  have hle := hO.le huv
  have m1 := mu_le l ρ M v (-1) hle.2
  have m2 := mu_le l ρ M v u hle.2
  have e1 := tm_rec (hO.msr hv) (v := v) (w := -1) ⟨hvr, .inl rfl⟩ (by omega)
  have e2 := tm_rec (hO.msr hv) (v := v) (w := u) ⟨hvr, .inr huv⟩ (by omega)
  rw [keep_all (fun z hz => (valid_row hv hz).1)] at e1
  have hp := (perm_keep (hO.nodup v) huv).map fun z => tm (rowE l) z v
  have e3 : tm (rowE l) v (-1) = best (tm (rowE l) u v :: (keep u (rowE l v)).map fun z => tm (rowE l) z v) := by
    rw [e1]
    exact best_perm hp
  have e4 : tm (rowE l) v u = best ((keep u (rowE l v)).map fun z => tm (rowE l) z v) := e2
  have h0 := tmF_nonneg (rowE l) 200 u v
  have h1 := best_cons_le (tm (rowE l) u v) ((keep u (rowE l v)).map fun z => tm (rowE l) z v)
  have h2 := best_cons_ge (tm (rowE l) u v) ((keep u (rowE l v)).map fun z => tm (rowE l) z v)
  have h3 := best_mem (l := tm (rowE l) u v :: (keep u (rowE l v)).map fun z => tm (rowE l) z v) (t := tm (rowE l) u v) (by simp)
  have h4 : 0 ≤ tm (rowE l) u v := h0
  rw [← e3, ← e4] at h1
  rw [← e3, ← e4] at h2
  rw [← e3] at h3
  omega
end
section
variable {l : List (Int × Int)} {ρ : Int → Nat} {M : Nat}
theorem tm_between {n : Nat} (hO : Ori l ρ M) (hM : M ≤ 70) (hv : ∀ p ∈ l, validB (n : Int) p = true) {u v : Int} (huv : u ∈ rowE l v) : tm (rowE l) u (-1) ≤ tm (rowE l) v (-1) + 1 := by
  obtain ⟨a1, a2, _⟩ := tm_near hO hM hv huv
  obtain ⟨_, _, b3⟩ := tm_near hO hM hv (rowE_sym huv)
  omega
end
/-- All of it, for a tree. -/
theorem tree_between {n : Nat} {l : List (Int × Int)} (h : treeOk (n : Int) l = true) {x : Nat} (hx : x < n) :
    (n : Int) ≤ ((2 ^ (tm (rowE l) x (-1)).toNat : Nat) : Int) ∧ ((rowE l x).length : Int) ≤ tm (rowE l) x (-1) ∧
    (∀ y : Nat, y < n → 0 ≤ (farF (adjOf n l) x).getD y 0 ∧ (farF (adjOf n l) x).getD y 0 ≤ tm (rowE l) x (-1) ∧ ((farF (adjOf n l) x).getD y 0 = 0 ↔ y = x) ∧
      ((farF (adjOf n l) x).getD y 0 = 1 → tm (rowE l) x (-1) - 1 ≤ tm (rowE l) y (-1) ∧ tm (rowE l) y (-1) ≤ tm (rowE l) x (-1) + 1)) := by
  obtain ⟨⟨hn, hl⟩, hv, hr⟩ := tree_rtd h
  have hA := adjOf_inv hv
  have hR := hr x hx
  obtain ⟨hO, hone⟩ := hR.ori hx hv hl
  have hD : ∀ u, u ∈ rowE l (x : Int) → (((bfs (fun y => (adjOf n l).getD y []) n x).getD (x : Int).toNat 0).toNat : Nat) < ((bfs (fun y => (adjOf n l).getD y []) n x).getD u.toNat 0).toNat → u ≠ -1 := fun u hu _ => by
    have := (valid_row hv hu).1; omega
  have hcov : ∀ z : Nat, z < n → (z : Int) ∈ ds (rowE l) 200 x (-1) := fun z hz => by
    have h1 := hR.anc hv n z hz (hR.le z hz)
    have h2 := hR.le z hz
    exact ds_cover 200 x (-1) z h1 (Nat.le_trans h2 (Nat.le_trans (by omega : n ≤ 200) (Nat.le_add_left 200 _))) hD
  have hfar : farF (adjOf n l) x = bfs (fun y => (adjOf n l).getD y []) n x := by rw [farF, hA.len]
  refine ⟨?_, ?_, fun y hy => ?_⟩
  · have h1 := tmF_pow (rowE l) 200 x (-1)
    have h2 : ((List.range n).map fun z : Nat => (z : Int)).length ≤ (ds (rowE l) 200 x (-1)).length := by
      have hnd : ((List.range n).map fun z : Nat => (z : Int)).Nodup := by
        unfold List.Nodup
        rw [List.pairwise_map]
        exact List.nodup_range.imp fun {a b} hab => by omega
      rcases Nat.lt_or_ge (ds (rowE l) 200 x (-1)).length ((List.range n).map fun z : Nat => (z : Int)).length with hlt | hge
      · have := perm_of_sub ((List.range n).map fun z : Nat => (z : Int)) (ds (rowE l) 200 x (-1)) hnd (fun v hv' => by
          obtain ⟨z, hz, rfl⟩ := List.mem_map.1 hv'
          exact hcov z (List.mem_range.1 hz)) (by omega)
        rw [this.length_eq]; exact Nat.le_refl _
      · exact hge
    rw [List.length_map, List.length_range] at h2
    unfold tm
    omega
  · have hx0 : Gd l n (x : Int) (-1) := ⟨⟨by omega, by omega⟩, .inl rfl⟩
    have m1 := mu_le l (fun v => ((bfs (fun y => (adjOf n l).getD y []) n x).getD v.toNat 0).toNat) n (x : Int) (-1) (hR.le x hx)
    have e1 := tm_rec (hO.msr hv) hx0 (by omega)
    rw [keep_all (fun z hz => (valid_row hv hz).1)] at e1
    have h1 := best_len (l := (rowE l (x : Int)).map fun u => tm (rowE l) u x) (fun t ht => by
      obtain ⟨u, _, rfl⟩ := List.mem_map.1 ht
      exact tmF_nonneg (rowE l) 200 u x)
    rw [List.length_map] at h1
    rw [e1]
    exact h1
  · have hroot := hR.root
    have hup := hR.up y hy
    have hle := hR.le y hy
    have hf := tmF_far (ρ := fun v => ((bfs (fun y => (adjOf n l).getD y []) n x).getD v.toNat 0).toNat) hone 200 x (-1) y (hcov y hy)
    obtain ⟨p1, p2, p3⟩ := bfs_pnt (fun y => (adjOf n l).getD y []) (r := x) hx (fun z hz w hw => by
      have e : (adjOf n l).getD z [] = (adjOf n l)[z]'(by rw [hA.len]; exact hz) := by simp [List.getD, List.getElem?_eq_getElem (show z < (adjOf n l).length by rw [hA.len]; exact hz)]
      rw [e] at hw
      exact (hA.row _ (List.getElem_mem _)).2 w hw)
    rw [hfar]
    simp only [Int.toNat_natCast] at hroot hup hf
    -- the lengths are not negative
    have hnn : 0 ≤ (bfs (fun y => (adjOf n l).getD y []) n x).getD y 0 := by
      by_cases e : y = x
      · rw [e, p2]; exact Int.le_refl _
      · obtain ⟨u, _, h2⟩ := hup e
        omega
    rw [hroot] at hf
    unfold tm
    refine ⟨hnn, by omega, ⟨fun e => ?_, fun e => by rw [e, p2]⟩, fun e => ?_⟩
    · rcases Nat.eq_or_lt_of_le (Nat.zero_le 0) with _ | _
      · by_cases e2 : y = x
        · exact e2
        · obtain ⟨u, _, h2⟩ := hup e2
          omega
      · omega
    · have hyx : y ≠ x := by
        intro e2
        rw [e2, p2] at e
        omega
      rcases p1 y hy hnn with e2 | ⟨w, hw, h4, h5, h6⟩
      · exact absurd e2 hyx
      · have hw0 : (bfs (fun y => (adjOf n l).getD y []) n x).getD w 0 = 0 := by omega
        have hwx : w = x := by
          by_cases e2 : w = x
          · exact e2
          · obtain ⟨u, _, h2⟩ := hR.up w hw e2
            simp only [Int.toNat_natCast] at h2
            omega
        rw [hwx] at h4
        have hE : (y : Int) ∈ rowE l (x : Int) := by
          obtain ⟨r, h1, h2⟩ := adjOf_row hv hx
          have e3 : (adjOf n l).getD x [] = r := by simp [List.getD, h1]
          have h4 : y ∈ r := by rw [← e3]; exact h4
          rw [← h2, rowI]
          exact List.mem_map_of_mem h4
        have b1 := tm_between hO (by omega) hv hE
        have b2 := tm_between hO (by omega) hv (rowE_sym hE)
        unfold tm at b1 b2
        omega
end Go.Proofs.Ytmhfkhlamnapdaa
end
section
open Go Go.HL
namespace Go.Proofs.Ytmhfkhlamnapdaa
def tl (y : Nat → Int) (n : Nat) : List (Int × Int) := (List.range' 1 (n - 1)).map fun j => (y j, (j : Int))
def Mk (y : Nat → Int) (n : Nat) : Prop := ∀ j : Nat, 1 ≤ j → j < n → 0 ≤ y j ∧ y j < (j : Int)
theorem tl_len (y : Nat → Int) (n : Nat) : (tl y n).length = n - 1 := by simp [tl]
theorem tl_mem {y : Nat → Int} {n : Nat} {p : Int × Int} : p ∈ tl y n ↔ ∃ j : Nat, 1 ≤ j ∧ j < n ∧ p = (y j, (j : Int)) := by
  unfold tl
  rw [List.mem_map]
  constructor
  · rintro ⟨j, hj, rfl⟩
    rw [List.mem_range'_1] at hj
    exact ⟨j, by omega, by omega, rfl⟩
  · rintro ⟨j, h1, h2, rfl⟩
    exact ⟨j, by rw [List.mem_range'_1]; omega, rfl⟩
theorem tl_valid {y : Nat → Int} {n : Nat} (h : Mk y n) : ∀ p ∈ tl y n, validB (n : Int) p = true := by
  intro p hp
  obtain ⟨j, h1, h2, rfl⟩ := tl_mem.1 hp
  have := h j h1 h2
  rw [validB, decide_eq_true_eq]
  dsimp only
  omega
theorem tame_tl (l : List Int) (m : Nat) : tameL l m = tl (tameAt l) m := by
  have h : ∀ (d j : Nat) (acc : List (Int × Int)), tameGo l j d acc = acc ++ (List.range' j d).map fun i => (tameAt l i, (i : Int)) := by
    intro d
    induction d with
    | zero => intro j acc; simp [tameGo]
    | succ d ih =>
      intro j acc
      rw [tameGo, ih, List.range'_succ, List.map_cons, List.append_assoc, List.singleton_append]
  rw [tameL, h, List.nil_append, tl]
theorem tl_ori {y : Nat → Int} {n : Nat} (h : Mk y n) : Ori (tl y n) Int.toNat n := by
  refine ⟨fun p hp => ?_, ?_, fun p hp => ?_⟩
  · obtain ⟨j, h1, h2, rfl⟩ := tl_mem.1 hp
    have := h j h1 h2
    dsimp only
    omega
  · have e : (tl y n).map (chd Int.toNat) = (List.range' 1 (n - 1)).map fun j : Nat => (j : Int) := by
      unfold tl
      rw [List.map_map]
      refine List.map_congr_left fun j hj => ?_
      rw [List.mem_range'_1] at hj
      have := h j (by omega) (by omega)
      simp only [Function.comp, chd]
      rw [if_pos (by omega)]
    rw [e]
    unfold List.Nodup
    rw [List.pairwise_map]
    exact (List.nodup_range' : (List.range' 1 (n - 1)).Nodup).imp fun {a b} hab => by omega
  · obtain ⟨j, h1, h2, rfl⟩ := tl_mem.1 hp
    have := h j h1 h2
    dsimp only
    omega
theorem tl_tree {y : Nat → Int} {n : Nat} (h : Mk y n) (hn : 1 ≤ n ∧ n ≤ 30) : treeOk (n : Int) (tl y n) = true := by
  have hv := tl_valid h
  have hA := adjOf_inv hv
  rw [treeOk, Bool.and_eq_true, decide_eq_true_eq]
  refine ⟨⟨⟨by omega, by rw [tl_len]; omega⟩, List.all_eq_true.2 hv⟩, ?_⟩
  rw [farOk, decide_eq_true_eq, Int.toNat_natCast, farF, hA.len]
  have hE : ∀ x z : Nat, x < n → ((z : Int) ∈ rowE (tl y n) (x : Int) → z ∈ (adjOf n (tl y n)).getD x []) := by
    intro x z hx hz
    obtain ⟨r, h1, h2⟩ := adjOf_row hv hx
    have e : (adjOf n (tl y n)).getD x [] = r := by simp [List.getD, h1]
    rw [← h2, rowI, List.mem_map] at hz
    obtain ⟨k, hk, e2⟩ := hz
    have : k = z := by omega
    rw [e, ← this]; exact hk
  have hnb : ∀ x, x < n → ∀ z ∈ (adjOf n (tl y n)).getD x [], z < n := by
    intro x hx z hz
    have e : (adjOf n (tl y n)).getD x [] = (adjOf n (tl y n))[x]'(by rw [hA.len]; exact hx) := by simp [List.getD, List.getElem?_eq_getElem (show x < (adjOf n (tl y n)).length by rw [hA.len]; exact hx)]
    rw [e] at hz
    exact (hA.row _ (List.getElem_mem _)).2 z hz
  obtain ⟨b1, b2, b3⟩ := bGo_closed (fun z => (adjOf n (tl y n)).getD z []) n hnb n 0 (bInit n 0) (by omega) (bInit_inv (by omega)) (Nat.zero_le _) (fun k x hk => by omega)
  have all : ∀ k : Nat, k < n → k ∈ (bGo (fun z => (adjOf n (tl y n)).getD z []) n 0 (bInit n 0)).2 := by
    intro k
    induction k using Nat.strongRecOn with
    | ind k ih =>
      intro hk
      by_cases h0 : k = 0
      · subst h0; exact b2 0 (by simp [bInit])
      · have hy := h k (by omega) hk
        have h1 := ih (y k).toNat (by omega) (by omega)
        refine b3 _ h1 k (hE _ k (by omega) (rowE_mem.2 ⟨(y k, (k : Int)), tl_mem.2 ⟨k, by omega, hk, rfl⟩, .inl ⟨by dsimp only; omega, rfl⟩⟩))
  intro hm
  obtain ⟨k, hk, e⟩ := List.mem_iff_getElem.1 hm
  have hkl : k < n := by have := bfs_len (fun z => (adjOf n (tl y n)).getD z []) n 0; omega
  have := (b1.got k hkl).2 (all k hkl)
  have e2 : (bGo (fun z => (adjOf n (tl y n)).getD z []) n 0 (bInit n 0)).1.getD k 0 = -1 := by
    rw [← e]
    exact getD_at hk
  omega
end Go.Proofs.Ytmhfkhlamnapdaa
end
section
open Go Go.HL
namespace Go.Proofs.Ytmhfkhlamnapdaa
theorem bestGo_up2 : ∀ (l : List Int) {i : Nat} {p q : Int}, q + 1 ≤ p → bestGo i q l + 1 ≤ bestGo (i + 1) p l
  | [], _, _, _, h => h
  | t :: l, i, p, q, h => by
    rw [bestGo, bestGo]
    exact bestGo_up2 l (by omega)
theorem best_top {a : Int} {l : List Int} (h : ∀ b, b ∈ l → b ≤ a) (h0 : 0 ≤ a) : best l + 1 ≤ best (a :: l) := by
  unfold best
  rw [dsort_cons, dsIns_top (fun b hb => h b ((dsort_perm l).mem_iff.1 hb)), bestGo]
  exact bestGo_up2 _ (by omega)
section
variable {l : List (Int × Int)} {ρ σ : Int → Nat} {M N n : Nat}
/-- A place is not far from any other. -/
theorem tm_reach {r : Nat} (hO : Ori l ρ M) (hM : M ≤ 70) (hv : ∀ p ∈ l, validB (n : Int) p = true) (hR : Rtd l n r ρ) : ∀ (k z : Nat), z < n → ρ (z : Int) ≤ k → tm (rowE l) (r : Int) (-1) ≤ tm (rowE l) (z : Int) (-1) + ρ (z : Int)
  | 0, z, hz, hk => by
    by_cases e : z = r
    · rw [e]; omega
    · obtain ⟨u, _, h2⟩ := hR.up z hz e
      omega
  | k + 1, z, hz, hk => by
    by_cases e : z = r
    · rw [e]; omega
    · obtain ⟨u, h1, h2⟩ := hR.up z hz e
      have hu := valid_row hv h1
      have e2 : ((u.toNat : Nat) : Int) = u := by omega
      have ih := tm_reach hO hM hv hR k u.toNat (by omega) (by rw [e2]; omega)
      rw [e2] at ih
      have := tm_between hO hM hv (rowE_sym h1)
      have h3 := tm_between hO hM hv h1
      omega
end
section
variable {l : List (Int × Int)} {ρ σ : Int → Nat} {M N n : Nat}
theorem tm_step (hO : Ori l ρ M) (hM : M ≤ 70) (hv : ∀ p ∈ l, validB (n : Int) p = true) {q w u : Int} (hw : w ∈ rowE l q) (hu : u ∈ rowE l q) (hne : u ≠ w) : tm (rowE l) u q + 1 ≤ tm (rowE l) q w := by
  have hq := valid_row hv (rowE_sym hw)
  have m := mu_le l ρ M q w (hO.le hw).2
  have e := tm_rec (hO.msr hv) (v := q) (w := w) ⟨hq, .inr hw⟩ (by omega)
  rw [e]
  exact best_mem (l := (keep w (rowE l q)).map fun u => tm (rowE l) u q) (List.mem_map_of_mem (keep_mem.2 ⟨hu, hne⟩))
end
section
variable {l : List (Int × Int)} {ρ σ : Int → Nat} {M N n : Nat}
/-- The root needs more than any branch. -/
theorem tm_root {z : Nat} (hO : Ori l ρ M) (hM : M ≤ 70) (hv : ∀ p ∈ l, validB (n : Int) p = true) (hR : Rtd l n z ρ) : ∀ (k : Nat) (q u : Int), ρ q ≤ k → u ∈ rowE l q → ρ q < ρ u → tm (rowE l) u q + 1 ≤ tm (rowE l) (z : Int) (-1)
  | 0, q, u, hk, hu, hlt => by
    have hq := valid_row hv (rowE_sym hu)
    have e2 : ((q.toNat : Nat) : Int) = q := by omega
    by_cases e : q.toNat = z
    · rw [← e, e2]
      exact (tm_near hO hM hv hu).1
    · obtain ⟨w, h1, h2⟩ := hR.up q.toNat (by omega) e
      rw [e2] at h2
      omega
  | k + 1, q, u, hk, hu, hlt => by
    have hq := valid_row hv (rowE_sym hu)
    have e2 : ((q.toNat : Nat) : Int) = q := by omega
    by_cases e : q.toNat = z
    · rw [← e, e2]
      exact (tm_near hO hM hv hu).1
    · obtain ⟨w, h1, h2⟩ := hR.up q.toNat (by omega) e
      rw [e2] at h1 h2
      have ih := tm_root hO hM hv hR k w q (by omega) (rowE_sym h1) (by omega)
      have hs := tm_step hO hM hv h1 hu (fun e => by rw [e] at hlt; omega)
      omega
end
section
variable {l : List (Int × Int)} {ρ σ : Int → Nat} {M N n : Nat}
/-- Where the way to the root goes down in the other order, the root lies below. -/
theorem below {z : Nat} (hv : ∀ p ∈ l, validB (n : Int) p = true) (hR : Rtd l n z ρ) (hS : Ori l σ N) : ∀ (k : Nat) (v w : Int), ρ v ≤ k → (0 ≤ v ∧ v < (n : Int)) → w ∈ rowE l v → σ w < σ v → ρ v < ρ w → Anc l σ (z : Int) v
  | k, v, w, hk, hvr, hw, h1, h2 => by
    have e2 : ((v.toNat : Nat) : Int) = v := by omega
    by_cases e : v.toNat = z
    · rw [← e, e2]; exact .refl
    · obtain ⟨q, h3, h4⟩ := hR.up v.toNat (by omega) e
      rw [e2] at h3 h4
      have hne := hS.neq h3
      have hlt : σ v < σ q := by
        rcases Nat.lt_or_ge (σ v) (σ q) with h | h
        · exact h
        · have := hS.low h3 hw (by omega) h1
          rw [this] at h4; omega
      match k, hk with
      | 0, hk => omega
      | k + 1, hk => exact .step (below hv hR hS k q v (by omega) (valid_row hv h3) (rowE_sym h3) hlt (by omega)) (rowE_sym h3) hlt
end
section
variable {l : List (Int × Int)} {ρ σ : Int → Nat} {M N n : Nat}
/-- Who does not lie below a place whose time is less than that of the place above needs more time. -/
theorem tm_outside {z : Nat} (hz : z < n) (hO : Ori l ρ M) (hM : M ≤ 70) (hv : ∀ p ∈ l, validB (n : Int) p = true) (hR : Rtd l n z ρ) (hS : Ori l σ N) {j p : Int} (hp : p ∈ rowE l j) (hpj : σ p < σ j) (hna : ¬ Anc l σ (z : Int) j)
    (hlt : tm (rowE l) j (-1) < tm (rowE l) p (-1)) : tm (rowE l) j (-1) < tm (rowE l) (z : Int) (-1) := by
  have hj := valid_row hv (rowE_sym hp)
  have e2 : ((j.toNat : Nat) : Int) = j := by omega
  have hjz : j.toNat ≠ z := fun e => hna (by rw [← e, e2]; exact .refl)
  obtain ⟨q, h1, h2⟩ := hR.up j.toNat (by omega) hjz
  rw [e2] at h1 h2
  have hq : q = p := by
    have hne := hS.neq h1
    rcases Nat.lt_or_ge (σ q) (σ j) with h | h
    · exact hS.low h1 hp h hpj
    · exact absurd (.step (below hv hR hS (ρ q) q j (Nat.le_refl _) (valid_row hv h1) (rowE_sym h1) (by omega) (by omega)) (rowE_sym h1) (by omega)) hna
  subst hq
  have h3 := tm_root hO hM hv hR (ρ q) q j (Nat.le_refl _) (rowE_sym h1) (by omega)
  obtain ⟨_, _, a3⟩ := tm_near hO hM hv (rowE_sym hp)
  obtain ⟨b1, _, _⟩ := tm_near hO hM hv hp
  omega
end
section
variable {l : List (Int × Int)} {ρ σ : Int → Nat} {M N n : Nat}
/-- A neighbor whose time is not greater. -/
theorem tm_two (hO : Ori l ρ M) (hM : M ≤ 70) (hv : ∀ p ∈ l, validB (n : Int) p = true) {x : Int} (hne : rowE l x ≠ []) : ∃ u, u ∈ rowE l x ∧ tm (rowE l) u (-1) ≤ tm (rowE l) x (-1) := by
  -- the branch that needs most
  have hmax : ∀ r : List Int, r ≠ [] → ∃ u, u ∈ r ∧ ∀ w, w ∈ r → tm (rowE l) w x ≤ tm (rowE l) u x := by
    intro r
    induction r with
    | nil => intro h; exact absurd rfl h
    | cons a r ih =>
      intro _
      by_cases hr : r = []
      · subst hr
        exact ⟨a, by simp, fun w hw => by rw [List.mem_singleton.1 hw]; exact Int.le_refl _⟩
      · obtain ⟨u, h1, h2⟩ := ih hr
        rcases Int.le_total (tm (rowE l) a x) (tm (rowE l) u x) with h | h
        · exact ⟨u, by simp [h1], fun w hw => by
            rcases List.mem_cons.1 hw with rfl | hw
            · exact h
            · exact h2 w hw⟩
        · exact ⟨a, by simp, fun w hw => by
            rcases List.mem_cons.1 hw with rfl | hw
            · exact Int.le_refl _
            · have := h2 w hw; omega⟩
  obtain ⟨u, hu, hm⟩ := hmax _ hne
  refine ⟨u, hu, ?_⟩
  have hx := valid_row hv (rowE_sym hu)
  have hle := hO.le hu
  have m1 := mu_le l ρ M x (-1) hle.2
  have m2 := mu_le l ρ M x u hle.2
  have e1 := tm_rec (hO.msr hv) (v := x) (w := -1) ⟨hx, .inl rfl⟩ (by omega)
  have e2 := tm_rec (hO.msr hv) (v := x) (w := u) ⟨hx, .inr hu⟩ (by omega)
  rw [keep_all (fun z hz => (valid_row hv hz).1)] at e1
  have e3 : tm (rowE l) x (-1) = best (tm (rowE l) u x :: (keep u (rowE l x)).map fun z => tm (rowE l) z x) := by
    rw [e1]
    exact best_perm ((perm_keep (hO.nodup x) hu).map fun z => tm (rowE l) z x)
  have e4 : tm (rowE l) x u = best ((keep u (rowE l x)).map fun z => tm (rowE l) z x) := e2
  have h0 : 0 ≤ tm (rowE l) u x := tmF_nonneg (rowE l) 200 u x
  have ht := best_top (a := tm (rowE l) u x) (l := (keep u (rowE l x)).map fun z => tm (rowE l) z x) (fun b hb => by
    obtain ⟨w, hw, rfl⟩ := List.mem_map.1 hb
    exact hm w (keep_mem.1 hw).1) h0
  rw [← e3, ← e4] at ht
  obtain ⟨a1, _, _⟩ := tm_near hO hM hv hu
  obtain ⟨_, _, b3⟩ := tm_near hO hM hv (rowE_sym hu)
  omega
end
theorem filter_split {α : Type} (C P : α → Bool) : ∀ R : List α, (R.filter C).length = (R.filter fun j => C j && P j).length + (R.filter fun j => C j && !P j).length
  | [] => rfl
  | a :: R => by
    have ih := filter_split C P R
    simp only [List.filter_cons]
    cases C a <;> cases P a <;> simp <;> omega
theorem filter_one {α : Type} [DecidableEq α] {Q : α → Bool} {t : α} : ∀ {R : List α}, R.Nodup → t ∈ R → Q t = true → (∀ j, j ∈ R → Q j = true → j = t) → (R.filter Q).length = 1
  | a :: R, hd, ht, hQ, hu => by
    rw [List.nodup_cons] at hd
    rw [List.filter_cons]
    by_cases e : a = t
    · subst e
      rw [if_pos hQ]
      have : R.filter Q = [] := by
        rw [List.filter_eq_nil_iff]
        intro j hj hq
        have := hu j (by simp [hj]) hq
        subst this
        exact hd.1 hj
      rw [this]; rfl
    · have h2 : t ∈ R := by
        rcases List.mem_cons.1 ht with h | h
        · exact absurd h.symm e
        · exact h
      rw [if_neg (fun h => e (hu a (by simp) h))]
      exact filter_one hd.2 h2 hQ (fun j hj => hu j (by simp [hj]))
theorem mid_count {C : Nat → Bool} {Y : Nat → Nat} {n t : Nat} (hn : 1 ≤ n) (ht : t < n) (hC : C t = true) (htop : t = 0 ∨ C (Y t) = false) (hu : ∀ j, j < n → C j = true → (j = 0 ∨ C (Y j) = false) → j = t) :
    ((List.range n).filter C).length = ((List.range' 1 (n - 1)).filter fun j => C j && C (Y j)).length + 1 := by
  rw [filter_split C (fun j => decide (j ≠ 0) && C (Y j))]
  congr 1
  · obtain ⟨m, rfl⟩ : ∃ m, n = m + 1 := ⟨n - 1, by omega⟩
    rw [List.range_eq_range', List.range'_succ, List.filter_cons, if_neg (by simp), show m + 1 - 1 = m by omega]
    congr 1
    refine List.filter_congr fun j hj => ?_
    rw [List.mem_range'_1] at hj
    have : decide (j ≠ 0) = true := by simp; omega
    rw [this, Bool.true_and]
  · refine filter_one (t := t) List.nodup_range (List.mem_range.2 ht) ?_ fun j hj hq => ?_
    · rcases htop with rfl | h
      · simp [hC]
      · simp [hC, h]
    · simp only [Bool.and_eq_true, Bool.not_eq_true', Bool.and_eq_false_iff, decide_eq_false_iff_not] at hq
      refine hu j (List.mem_range.1 hj) hq.1 ?_
      rcases hq.2 with h | h
      · left; omega
      · exact .inr h
theorem top_exists {C : Nat → Bool} {Y : Nat → Nat} {n : Nat} (hY : ∀ j, 1 ≤ j → j < n → Y j < j) : ∀ (k j : Nat), j ≤ k → j < n → C j = true → ∃ t, t < n ∧ C t = true ∧ (t = 0 ∨ C (Y t) = false)
  | k, j, hk, hj, hC => by
    by_cases h0 : j = 0
    · exact ⟨j, hj, hC, .inl h0⟩
    · cases h : C (Y j) with
      | false => exact ⟨j, hj, hC, .inr h⟩
      | true =>
        have := hY j (by omega) hj
        match k, hk with
        | 0, hk => omega
        | k + 1, hk => exact top_exists hY k (Y j) (by omega) (by omega) h
end Go.Proofs.Ytmhfkhlamnapdaa
end
section
open Go Go.HL
namespace Go.Proofs.Ytmhfkhlamnapdaa
theorem foldl_min_mem : ∀ (l : List Int) (m : Int), l.foldl min m = m ∨ l.foldl min m ∈ l
  | [], _ => .inl rfl
  | t :: l, m => by
    rw [List.foldl_cons]
    rcases foldl_min_mem l (min m t) with h | h
    · rcases Int.le_total m t with h2 | h2
      · left; rw [h]; omega
      · right; rw [h, show min m t = t by omega]; simp
    · right; simp [h]
theorem foldl_min_all : ∀ (l : List Int) (m x : Int), x ∈ l → l.foldl min m ≤ x
  | t :: l, m, x, h => by
    rw [List.foldl_cons]
    rcases List.mem_cons.1 h with rfl | h
    · have := foldl_min_le l (min m x); omega
    · exact foldl_min_all l _ x h
theorem minL_ok {l : List Int} (h : l ≠ []) : minL l ∈ l ∧ ∀ x, x ∈ l → minL l ≤ x := by
  cases l with
  | nil => exact absurd rfl h
  | cons t l =>
    refine ⟨?_, fun x hx => ?_⟩
    · rcases foldl_min_mem l t with h | h
      · rw [minL, h]; simp
      · rw [minL]; simp [h]
    · rcases List.mem_cons.1 hx with rfl | hx
      · exact foldl_min_le l x
      · exact foldl_min_all l t x hx
theorem sel_filter (f : Nat → Int) (le : Int) : ∀ (d i : Nat), sel le i ((List.range' i d).map f) = ((List.range' i d).filter fun j => decide (f j = le)).map fun j : Nat => (j : Int)
  | 0, i => rfl
  | d + 1, i => by
    rw [List.range'_succ, List.map_cons, sel, sel_filter f le d (i + 1), List.filter_cons]
    by_cases c : f i = le
    · rw [if_pos c, if_pos (by simp [c]), List.map_cons]
    · rw [if_neg c, if_neg (by simp [c])]
def cen (n : Nat) (l : List (Int × Int)) (j : Nat) : Bool := decide (tm (rowE l) (j : Int) (-1) = minL (timesL n l))
theorem sel_cen (n : Nat) (l : List (Int × Int)) : sel (minL (timesL n l)) 0 (timesL n l) = ((List.range n).filter (cen n l)).map fun j : Nat => (j : Int) := by
  have := sel_filter (fun i : Nat => tm (rowE l) i (-1)) (minL (timesL n l)) n 0
  rw [← List.range_eq_range'] at this
  exact this
structure Mid (n : Nat) (l : List (Int × Int)) (y : Nat → Int) : Prop where
  le : ∀ j : Nat, j < n → minL (timesL n l) ≤ tm (rowE l) (j : Int) (-1)
  two : min n 2 ≤ ((List.range n).filter (cen n l)).length
  count : ((List.range n).filter (cen n l)).length = ((List.range' 1 (n - 1)).filter fun j => cen n l j && cen n l (y j).toNat).length + 1
theorem mid_tl {y : Nat → Int} {n : Nat} (h : Mk y n) (hn : 1 ≤ n ∧ n ≤ 30) : Mid n (tl y n) y := by
  have htr := tl_tree h hn
  have hv := tl_valid h
  have hS := tl_ori h
  obtain ⟨_, _, hrt⟩ := tree_rtd htr
  have hne : timesL n (tl y n) ≠ [] := by
    intro e
    have : (timesL n (tl y n)).length = n := by simp [timesL]
    rw [e] at this; simp at this; omega
  obtain ⟨hm1, hm2⟩ := minL_ok hne
  have hle : ∀ j : Nat, j < n → minL (timesL n (tl y n)) ≤ tm (rowE (tl y n)) (j : Int) (-1) := fun j hj => hm2 _ (List.mem_map.2 ⟨j, List.mem_range.2 hj, rfl⟩)
  obtain ⟨x, hx, hxe⟩ := List.mem_map.1 hm1
  have hx := List.mem_range.1 hx
  have hxc : cen n (tl y n) x = true := decide_eq_true hxe
  have hl1 : (tl y n).length + 1 = n := by rw [tl_len]; omega
  have hpar : ∀ j : Nat, 1 ≤ j → j < n → (y j) ∈ rowE (tl y n) (j : Int) ∧ (y j).toNat < j ∧ (((y j).toNat : Nat) : Int) = y j := fun j j1 j2 => by
    have := h j j1 j2
    exact ⟨rowE_mem.2 ⟨(y j, (j : Int)), tl_mem.2 ⟨j, j1, j2, rfl⟩, .inr ⟨rfl, rfl⟩⟩, by omega, by omega⟩
  refine ⟨hle, ?_, ?_⟩
  · rcases Nat.lt_or_ge n 2 with h2 | h2
    · have : x ∈ (List.range n).filter (cen n (tl y n)) := List.mem_filter.2 ⟨List.mem_range.2 hx, hxc⟩
      have := List.length_pos_of_mem this
      omega
    · -- a neighbor
      have hnr : rowE (tl y n) (x : Int) ≠ [] := by
        intro e
        obtain ⟨r, hr, hrx⟩ : ∃ r : Nat, r < n ∧ r ≠ x := by
          by_cases e : x = 0
          · exact ⟨1, by omega, by omega⟩
          · exact ⟨0, by omega, by omega⟩
        obtain ⟨u, hu, _⟩ := (hrt r hr).up x hx (fun e => hrx e.symm)
        rw [e] at hu; cases hu
      obtain ⟨hO, _⟩ := (hrt 0 (by omega)).ori (by omega) hv hl1
      obtain ⟨u, hu, hut⟩ := tm_two hO (by omega) hv hnr
      have hur := valid_row hv hu
      have e2 : ((u.toNat : Nat) : Int) = u := by omega
      have huc : cen n (tl y n) u.toNat = true := by
        have := hle u.toNat (by omega)
        rw [e2] at this
        exact decide_eq_true (by rw [e2]; omega)
      have hux : u.toNat ≠ x := by
        intro e
        have := hO.neq hu
        rw [← e, e2] at this
        exact this rfl
      have hnd : [x, u.toNat].Nodup := by simp; exact fun e => hux e.symm
      rcases Nat.lt_or_ge ((List.range n).filter (cen n (tl y n))).length 2 with hlt | hge
      · have := perm_of_sub [x, u.toNat] ((List.range n).filter (cen n (tl y n))) hnd (fun v hv' => by
          simp at hv'
          rcases hv' with rfl | rfl
          · exact List.mem_filter.2 ⟨List.mem_range.2 hx, hxc⟩
          · exact List.mem_filter.2 ⟨List.mem_range.2 (by omega), huc⟩) (by simp; omega)
        have := this.length_eq
        simp at this
        omega
      · omega
  · obtain ⟨t, ht, htc, htop⟩ := top_exists (C := cen n (tl y n)) (Y := fun j => (y j).toNat) (n := n) (fun j j1 j2 => (hpar j j1 j2).2.1) x x (Nat.le_refl _) hx hxc
    -- below a top
    have below_top : ∀ j : Nat, j < n → cen n (tl y n) j = true → (j = 0 ∨ cen n (tl y n) (y j).toNat = false) → ∀ z : Nat, z < n → cen n (tl y n) z = true → j ≤ z := by
      intro j hj hjc hjt z hz hzc
      by_cases j0 : j = 0
      · omega
      · have hjt := hjt.resolve_left j0
        obtain ⟨p1, p2, p3⟩ := hpar j (by omega) hj
        by_cases ha : Anc (tl y n) Int.toNat (z : Int) (j : Int)
        · have := ha.le
          omega
        · obtain ⟨hO, _⟩ := (hrt z hz).ori hz hv hl1
          have hjT : tm (rowE (tl y n)) (j : Int) (-1) = minL (timesL n (tl y n)) := of_decide_eq_true hjc
          have hzT : tm (rowE (tl y n)) (z : Int) (-1) = minL (timesL n (tl y n)) := of_decide_eq_true hzc
          have hpT : tm (rowE (tl y n)) (y j) (-1) ≠ minL (timesL n (tl y n)) := by
            have := of_decide_eq_false hjt
            rw [p3] at this
            exact this
          have hpl := hle (y j).toNat (by omega)
          rw [p3] at hpl
          have := tm_outside hz hO (by omega) hv (hrt z hz) hS p1 (by omega) ha (by omega)
          omega
    exact mid_count (C := cen n (tl y n)) (Y := fun j => (y j).toNat) (by omega) ht htc htop fun j hj hjc hjt => by
      have h1 := below_top j hj hjc hjt t ht htc
      have h2 := below_top t ht htc htop j hj hjc
      omega
end Go.Proofs.Ytmhfkhlamnapdaa
end
section
open Go Go.HL
namespace Go.Proofs.Ytmhfkhlamnapdaa
theorem arg_pli {H : Heap} {l : List (Int × Int)} {b m mx : Nat} (hm : l.length = m) (hb : H[b]? = some (.arr 2 (l.map encP) true mx)) : toArg H 6 (.sl b 0 m none m 2) = some (.imm .arg 2 (l.map encP)) := by
  subst hm
  have e : toArg H 6 (.sl b 0 l.length none l.length 2) = if l.length = 0 then some (.imm .arg 2 []) else match view H b 0 l.length l.length 2 with | some l => (match mapO (toArg H 5) l with | some l => some (.imm .arg 2 l) | none => none) | none => none := rfl
  rw [e]
  split
  · rename_i h0
    rw [List.length_eq_zero_iff.1 h0]; rfl
  · have hv : view H b 0 l.length l.length 2 = some (l.map encP) := by
      simp only [view, hb, List.length_map]
      rw [if_pos ⟨trivial, by omega, trivial⟩]
      simp [List.take_of_length_le]
    have hm : mapO (toArg H 5) (l.map encP) = some (l.map encP) := mapO_self (f := toArg H 5) (g := encP) (fun _ => rfl) l
    rw [hv]
    simp only [hm]
theorem encP_anyi (l : List (Int × Int)) : (l.map encP).any isOwn = false := by
  rw [List.any_eq_false]
  intro v hv
  obtain ⟨k, _, rfl⟩ := List.mem_map.1 hv
  simp [encP, isOwn]
theorem recv_prs (l : List (Int × Int)) (H : Heap) : recv (.own 2 (l.map encP)) H = (.sl H.length 0 l.length none l.length 2, H ++ [.arr 2 (l.map encP) true 0]) := by
  simp only [recv, recvVal, recvCell, encP_anyi, List.length_map]
  rfl
theorem tameAt_ok (l : List Int) (n : Nat) (hn : n ≤ 1000) : Mk (tameAt l) n := by
  intro j h1 h2
  unfold tameAt
  split
  · have := modW_bounds (by assumption) (j : Int) (by omega) (by omega)
    omega
  · omega
end Go.Proofs.Ytmhfkhlamnapdaa
end
section
open Go Go.HL
namespace Go.Proofs.Ytmhfkhlamnapdaa
theorem res6 : Try.f6.results.toList = [.tmp 6] := by kernel_rfl
theorem x22 (x n : Int) (hn : 0 < n ∧ n < 9223372036854775808) (H : Heap) : ∀ k, callN Try.prog polX (k + 1) 22 [.int .i64 x, .int .i64 n] H = some (.int .i64 (modW x n), H) := fun k => by
  rw [prim_call (pol := polX) (g := 22) (F := modF) (by kernel_rfl) (rs := [.int .i64 x, .int .i64 n]) rfl (res := .int .i64 (modW x n)) (by simp only [modF]; rw [if_pos hn])]; rfl
theorem x23 (l : List Int) {m : Nat} (hm : 1 ≤ m ∧ m ≤ 1000) (H : Heap) : ∀ k, callN Try.prog polX (k + 1) 23 [.imm .arg 1 (l.map encI), .int .i64 (m : Int)] H = some (.sl H.length 0 (m - 1) none (m - 1) 2, H ++ [.arr 2 ((tl (tameAt l) m).map encP) true 0]) := fun k => by
  have ha : toArg H 6 (.imm .arg 1 (l.map encI)) = some (.imm .arg 1 (l.map encI)) := by
    show argP (.imm .arg 1 (l.map encI)) = _
    simp only [argP, argP_ints']
  rw [prim_call (pol := polX) (g := 23) (F := tame23) (by kernel_rfl) (rs := [.imm .arg 1 (l.map encI), .int .i64 (m : Int)]) (by simp only [mapO, ha]; rfl) (res := .own 2 ((tl (tameAt l) m).map encP)) (by
    simp only [tame23, mapO_map decI_enc]
    rw [if_pos (by omega), Int.toNat_natCast, tame_tl]), recv_prs, tl_len]
theorem x24 {l : List (Int × Int)} {H : Heap} {b m : Nat} (hm : l.length = m) (hb : H[b]? = some (.arr 2 (l.map encP) true 0)) (n x : Int) : ∀ k, callN Try.prog polX (k + 1) 24 [.int .i64 n, .sl b 0 m none m 2, .int .i64 x] H = some (.tuple [.int .i64 (timeF n l x).1, .int .i64 (timeF n l x).2], H) := fun k => by
  have ha := arg_pli hm hb
  rw [prim_call (pol := polX) (g := 24) (F := time24) (by kernel_rfl) (rs := [.int .i64 n, .imm .arg 2 (l.map encP), .int .i64 x]) (by simp only [mapO, ha]; rfl) (res := .tuple [.int .i64 (timeF n l x).1, .int .i64 (timeF n l x).2]) (by simp only [time24, mapO_map decP_enc])]; rfl
theorem encI_anyx (l : List Int) : (l.map encI).any isOwn = false := by
  rw [List.any_eq_false]
  intro v hv
  obtain ⟨k, _, rfl⟩ := List.mem_map.1 hv
  simp [encI, isOwn]
theorem x25 {l : List (Int × Int)} {H : Heap} {b m : Nat} (hm : l.length = m) (hb : H[b]? = some (.arr 2 (l.map encP) true 0)) (n x : Int) {o : List Int} {e : Int} (he : pfarF n l x = (o, e)) : ∀ k, callN Try.prog polX (k + 1) 25 [.int .i64 n, .sl b 0 m none m 2, .int .i64 x] H = some (.tuple [.sl H.length 0 o.length none o.length 1, .int .i64 e], H ++ [bI o]) := fun k => by
  have ha := arg_pli hm hb
  rw [prim_call (pol := polX) (g := 25) (F := far25) (by kernel_rfl) (rs := [.int .i64 n, .imm .arg 2 (l.map encP), .int .i64 x]) (by simp only [mapO, ha]; rfl) (res := .tuple [.own 1 (o.map encI), .int .i64 e]) (by simp only [far25, mapO_map decP_enc, he])]
  simp only [recv, recvVals, recvVal, recvCell, encI_anyx, List.length_map]
  rfl
theorem x17 {l : List (Int × Int)} {H : Heap} {b m : Nat} (hm : l.length = m) (hb : H[b]? = some (.arr 2 (l.map encP) true 0)) (n : Int) {o : List Int} {t e : Int} (he : centersF n l = .tuple [.own 1 (o.map encI), .int .i64 t, .int .i64 e]) : ∀ k, callN Try.prog polX (k + 1) 17 [.int .i64 n, .sl b 0 m none m 2] H = some (.tuple [.sl H.length 0 o.length none o.length 1, .int .i64 t, .int .i64 e], H ++ [bI o]) := fun k => by
  have ha := arg_pli hm hb
  rw [prim_call (pol := polX) (g := 17) (F := centers17) (by kernel_rfl) (rs := [.int .i64 n, .imm .arg 2 (l.map encP)]) (by simp only [mapO, ha]; rfl) (res := .tuple [.own 1 (o.map encI), .int .i64 t, .int .i64 e]) (by simp only [centers17, mapO_map decP_enc, he])]
  simp only [recv, recvVals, recvVal, recvCell, encI_anyx, List.length_map]
  rfl
def markR : List Nat → List Bool → List Bool
  | [], F => F
  | r :: R, F => markR R (F.set r true)
theorem markR_len : ∀ (R : List Nat) (F : List Bool), (markR R F).length = F.length
  | [], _ => rfl
  | r :: R, F => by rw [markR, markR_len R]; simp
theorem markR_at : ∀ (R : List Nat) (F : List Bool) (v : Nat), (∀ r, r ∈ R → r < F.length) → (bitAt (markR R F) v = true ↔ bitAt F v = true ∨ v ∈ R)
  | [], F, v, _ => by simp [markR]
  | r :: R, F, v, h => by
    rw [markR, markR_at R (F.set r true) v (fun x hx => by rw [List.length_set]; exact h x (by simp [hx]))]
    have hr := h r (by simp)
    unfold bitAt
    rw [List.getElem?_set]
    by_cases e : r = v
    · subst e
      simp [hr]
    · rw [if_neg e]
      have : ¬ v = r := fun h => e h.symm
      simp [this]
section
variable {n : Nat} {la els : List HV} {x m : Nat} {le s : Int}
abbrev mdE (n : Nat) (la : List HV) (x m q : Nat) (le s : Int) (i : Nat) : Env := env6 (.int .i64 (n : Int)) (.imm .arg 1 la) (.int .i64 (x : Int)) (.bool false) (.sl 0 0 m none m 2) (.sl 1 0 q none q 1) (.int .i64 le) .undef (.int .i64 s) .undef (.sl 2 0 n none n 1) .undef (.sl 3 0 n (some n) n 1) (.int .i64 (i : Int)) .undef .undef
end
section
variable {n : Nat} {la els : List HV} {x m : Nat} {le s : Int}
theorem idx43 {i : Nat} (h : i < n) : idxV Try.prog 43 (.sl 3 0 n (some n) n 1) (.int .i64 (i : Int)) = some (.ptr 3 ((i : Int)).toNat 0 n) := idx_sl (P := Try.prog) (t := 43) (e := 4) (k := 1) (by kernel_rfl) (by kernel_rfl) (by omega) (by omega)
end
section
variable {n : Nat} {la els : List HV} {x m : Nat} {le s : Int}
theorem md_loop1 {R : List Nat} {o : List Int} (hn : n ≤ 30) (hR : ∀ r, r ∈ R → r < n) (hinc : R.Pairwise fun a b => a < b) (ho : o.length = n) (hq : R.length ≤ 30) (hle : 0 ≤ le ∧ le ≤ 1000) (hfar : ∀ r, r ∈ R → s ≤ le + o.getD r 0 ∧ 0 ≤ o.getD r 0 ∧ o.getD r 0 ≤ 1000) : ∀ d i F, i + d = R.length → F.length = n →
    RunsTo Try.prog polX 6 (sub [1, 1, 1, 1, 1, 1, 1, 1, 1, 0, 1, 0] B6) (mdE n la x m R.length le s i) [.arr 2 els true 0, bI (R.map fun r : Nat => (r : Int)), bI o, bF F]
      (.exit 0) (polX.keys 6) (mdE n la x m R.length le s R.length) [.arr 2 els true 0, bI (R.map fun r : Nat => (r : Int)), bI o, bF (markR (R.drop i) F)] := by
  intro d
  induction d with
  | zero =>
    intro i F hi hF
    have hi : i = R.length := by omega
    subst hi
    rw [List.drop_length]
    exact RunsTo.loop_out (RunsTo.seq_out (md_k_1 n la x m els R.length le s n _ _ _ R.length (by omega)) (by simp) (c := sub [1, 1, 1, 1, 1, 1, 1, 1, 1, 0, 1, 0, 0] B6) (b := sub [1, 1, 1, 1, 1, 1, 1, 1, 1, 0, 1, 0, 0, 1] B6) (by kernel_rfl)) (by simp) (by kernel_rfl) (by kernel_rfl)
  | succ d ih =>
    intro i F hi hF
    have hiR : i < R.length := by omega
    have hlc : (R.map fun r : Nat => (r : Int)).length = R.length := by simp
    have hb1 : ([.arr 2 els true 0, bI (R.map fun r : Nat => (r : Int)), bI o, bF F] : Heap)[1]? = some (bI (R.map fun r : Nat => (r : Int))) := rfl
    have hb2 : ([.arr 2 els true 0, bI (R.map fun r : Nat => (r : Int)), bI o, bF F] : Heap)[2]? = some (bI o) := rfl
    have hb3 : ([.arr 2 els true 0, bI (R.map fun r : Nat => (r : Int)), bI o, bF F] : Heap)[3]? = some (bF F) := rfl
    have hat : ∀ i, (h : i < R.length) → (R.map fun r : Nat => (r : Int)).getD i 0 = ((R[i] : Nat) : Int) := fun i h => by
      simp [List.getD, h]
    have gi := gi2 (db := 1) hiR
    have gl := gl2 hb1 hlc hiR
    rw [hat i hiR] at gl
    have hr := hR _ (List.getElem_mem hiR)
    obtain ⟨f1, f2, f3⟩ := hfar _ (List.getElem_mem hiR)
    have fi := gi_ (db := 2) hr
    have fl : loadV Try.prog [.arr 2 els true 0, bI (R.map fun r : Nat => (r : Int)), bI o, bF F] 3 (.ptr 2 (((R[i] : Nat) : Int)).toNat 0 n) = some (.int .i64 (o.getD R[i] 0)) := by
      rw [Int.toNat_natCast]; exact gl2 hb2 ho hr
    have hwf : IntKind.i64.wrap (le + o.getD R[i] 0) = le + o.getD R[i] 0 := by rw [wrapI64]; omega
    have e := md_k_0 n la x m els R.length le s n ((R.map fun r : Nat => (r : Int)).map encI) (o.map encI) (F.map .bool) i (by omega)
    have j : RunsTo Try.prog polX 6 (sub [1, 1, 1, 1, 1, 1, 1, 1, 1, 0, 1, 0, 0, 1, 0, 0, 0] B6) (mdE n la x m R.length le s i) [.arr 2 els true 0, bI (R.map fun r : Nat => (r : Int)), bI o, bF F] .normal (polX.keys 6) (mdE n la x m R.length le s i) [.arr 2 els true 0, bI (R.map fun r : Nat => (r : Int)), bI o, bF F] := by
      by_cases h0 : 0 < i
      · have hw : IntKind.i64.wrap ((i : Int) - 1) = ((i - 1 : Nat) : Int) := by rw [wrapI64]; omega
        have hi1 : i - 1 < R.length := by omega
        have pi := gi_ (db := 1) hi1
        have pl : loadV Try.prog [.arr 2 els true 0, bI (R.map fun r : Nat => (r : Int)), bI o, bF F] 3 (.ptr 1 ((((i - 1 : Nat) : Int)).toNat) 0 R.length) = some (.int .i64 ((R[i - 1] : Nat) : Int)) := by
          rw [Int.toNat_natCast]
          have := gl2 hb1 hlc hi1
          rwa [hat (i - 1) hi1] at this
        have hlt : R[i - 1] < R[i] := List.pairwise_iff_getElem.1 hinc (i - 1) i hi1 hiR (by omega)
        exact md_l_4 n la x m els R.length le s n ((R.map fun r : Nat => (r : Int)).map encI) (o.map encI) (F.map .bool) i _ _ _ _ _ _ gi gl (by omega) gi gl (by omega) (by omega) (by rw [hw]; exact pi) (by rw [hw]; exact pl) gi gl (by omega) gi gl fi fl (by rw [hwf]; omega)
      · exact md_l_6 n la x m els R.length le s n ((R.map fun r : Nat => (r : Int)).map encI) (o.map encI) (F.map .bool) i _ _ _ _ gi gl (by omega) gi gl (by omega) (by omega) gi gl fi fl (by rw [hwf]; omega)
    have hst : storeV Try.prog [.arr 2 els true 0, bI (R.map fun r : Nat => (r : Int)), bI o, bF F] 4 (.ptr 3 ((((R[i] : Nat)) : Int)).toNat 0 n) (.bool true) = some [.arr 2 els true 0, bI (R.map fun r : Nat => (r : Int)), bI o, bF (F.set R[i] true)] := by
      rw [Int.toNat_natCast]; exact store_b hF hb3 hr true
    have k := md_m_0 n la x m els R.length le s n ((R.map fun r : Nat => (r : Int)).map encI) (o.map encI) (F.map .bool) i _ _ gi gl (idx43 hr) hst
    have l1 := md_n_0 n la x m els R.length le s n ((R.map fun r : Nat => (r : Int)).map encI) (o.map encI) ((F.set R[i] true).map .bool) i
    rw [wrap_succ (by omega)] at l1
    have r := ih (i + 1) (F.set R[i] true) (by omega) (by simpa using hF)
    rw [List.drop_eq_getElem_cons hiR, markR]
    have t1 := RunsTo.block_normal (i := 1) (c := sub [1, 1, 1, 1, 1, 1, 1, 1, 1, 0, 1, 0, 0, 1, 0] B6) (RunsTo.seq j k (c := sub [1, 1, 1, 1, 1, 1, 1, 1, 1, 0, 1, 0, 0, 1, 0, 0] B6) (by kernel_rfl) (by kernel_rfl)) (by kernel_rfl)
    have t2 := RunsTo.seq e (RunsTo.seq t1 l1 (c := sub [1, 1, 1, 1, 1, 1, 1, 1, 1, 0, 1, 0, 0, 1] B6) (by kernel_rfl) (by kernel_rfl)) (c := sub [1, 1, 1, 1, 1, 1, 1, 1, 1, 0, 1, 0, 0] B6) (by kernel_rfl) (by kernel_rfl)
    exact RunsTo.loop t2 (by kernel_rfl) (gc_eq _ rfl) r rfl (by kernel_rfl) (by kernel_rfl)
end
section
variable {n : Nat} {la els : List HV} {x m : Nat} {le s : Int}
abbrev mqE (n : Nat) (la : List HV) (x m q : Nat) (le s : Int) (j : Int) (k : Nat) : Env := env6 (.int .i64 (n : Int)) (.imm .arg 1 la) (.int .i64 (x : Int)) (.bool false) (.sl 0 0 m none m 2) (.sl 1 0 q none q 1) (.int .i64 le) .undef (.int .i64 s) .undef .undef .undef (.sl 3 0 n (some n) n 1) .undef (.int .i64 j) (.int .i64 (k : Int))
end
section
variable {n : Nat} {la els : List HV} {x m : Nat} {le s : Int}
def jn (F : List Bool) (L : List (Int × Int)) : Int := ((L.filter fun p => bitAt F p.1.toNat && bitAt F p.2.toNat).length : Nat)
end
section
variable {n : Nat} {la els : List HV} {x m : Nat} {le s : Int}
theorem jn_cons (F : List Bool) (p : Int × Int) (L : List (Int × Int)) : jn F (p :: L) = (if bitAt F p.1.toNat && bitAt F p.2.toNat then 1 else 0) + jn F L := by
  unfold jn
  rw [List.filter_cons]
  split
  · simp; omega
  · simp
end
section
variable {n : Nat} {la els : List HV} {x m : Nat} {le s : Int}
theorem md_loop2 {L : List (Int × Int)} {F : List Bool} {q : Nat} {cs os : List HV} (hL : L.length = m) (hn : n ≤ 30) (hm : m ≤ 30) (hv : ∀ p ∈ L, validB (n : Int) p = true) (hF : F.length = n) : ∀ d k j, k + d = m → 0 ≤ j → j ≤ (k : Int) →
    RunsTo Try.prog polX 6 (sub [1, 1, 1, 1, 1, 1, 1, 1, 1, 1, 1, 0, 1, 0] B6) (mqE n la x m q le s j k) [.arr 2 (L.map encP) true 0, .arr 1 cs true 0, .arr 1 os true 0, bF F]
      (.exit 2) (polX.keys 6) (mqE n la x m q le s (j + jn F (L.drop k)) m) [.arr 2 (L.map encP) true 0, .arr 1 cs true 0, .arr 1 os true 0, bF F] := by
  intro d
  induction d with
  | zero =>
    intro k j hk _ _
    have hk : k = m := by omega
    subst hk
    rw [List.drop_of_length_le (by omega)]
    have e0 : j + jn F [] = j := by unfold jn; simp
    rw [e0]
    exact RunsTo.loop_out (RunsTo.seq_out (md_q_1 n la x k (L.map encP) q le s cs os (F.map .bool) j k (by omega)) (by simp) (c := sub [1, 1, 1, 1, 1, 1, 1, 1, 1, 1, 1, 0, 1, 0, 0] B6) (b := sub [1, 1, 1, 1, 1, 1, 1, 1, 1, 1, 1, 0, 1, 0, 0, 1] B6) (by kernel_rfl)) (by simp) (by kernel_rfl) (by kernel_rfl)
  | succ d ih =>
    intro k j hk hj0 hjk
    have hkL : k < L.length := by omega
    have hp := hv _ (List.getElem_mem hkL)
    rw [validB, decide_eq_true_eq] at hp
    rw [List.drop_eq_getElem_cons hkL, jn_cons]
    obtain ⟨a, ha⟩ : ∃ a : Nat, L[k].1 = (a : Int) := ⟨L[k].1.toNat, by omega⟩
    obtain ⟨b, hb⟩ : ∃ b : Nat, L[k].2 = (b : Int) := ⟨L[k].2.toNat, by omega⟩
    have han : a < n := by omega
    have hbn : b < n := by omega
    have e := md_q_0 n la x m (L.map encP) q le s cs os (F.map .bool) j k (by omega)
    have hi : idxV Try.prog 22 (.sl 0 0 m none m 2) (.int .i64 (k : Int)) = some (.ptr 0 k 0 m) := by
      have := idx_sl (P := Try.prog) (t := 22) (e := 33) (k := 2) (b := 0) (len := m) (tot := m) (cap := none) (ik := .i64) (n := (k : Int)) (by kernel_rfl) (by kernel_rfl) (by omega) (by omega)
      rwa [Int.toNat_natCast] at this
    have hel : (L.map encP)[k]? = some (.agg [.int .i64 (a : Int), .int .i64 (b : Int)]) := by rw [List.getElem?_map, List.getElem?_eq_getElem hkL, Option.map, encP, ha, hb]
    have l0 : loadV Try.prog [.arr 2 (L.map encP) true 0, .arr 1 cs true 0, .arr 1 os true 0, bF F] 3 (.ptr 0 k 0 m) = some (.int .i64 (a : Int)) := load_cell (b := 0) rfl (by simp [hL]) hel a3b i3b rfl
    have l1 : loadV Try.prog [.arr 2 (L.map encP) true 0, .arr 1 cs true 0, .arr 1 os true 0, bF F] 3 (.ptr 0 k 1 m) = some (.int .i64 (b : Int)) := load_cell (b := 0) rfl (by simp [hL]) hel a3b i3b rfl
    have hb3 : ([.arr 2 (L.map encP) true 0, .arr 1 cs true 0, .arr 1 os true 0, bF F] : Heap)[3]? = some (bF F) := rfl
    have lb : ∀ c, c < n → loadV Try.prog [.arr 2 (L.map encP) true 0, .arr 1 cs true 0, .arr 1 os true 0, bF F] 4 (.ptr 3 ((c : Int)).toNat 0 n) = some (.bool (bitAt F c)) := fun c hc => by
      rw [Int.toNat_natCast]; exact load_b hF hb3 hc
    have s1 := fun j' : Int => md_s_0 n la x m (L.map encP) q le s cs os (F.map .bool) j' k
    have up : ∀ j' : Int, 0 ≤ j' → j' ≤ ((k + 1 : Nat) : Int) → RunsTo Try.prog polX 6 (sub [1, 1, 1, 1, 1, 1, 1, 1, 1, 1, 1, 0, 1, 0, 0, 1, 0] B6) (mqE n la x m q le s j k) [.arr 2 (L.map encP) true 0, .arr 1 cs true 0, .arr 1 os true 0, bF F] .normal (polX.keys 6) (mqE n la x m q le s j' k) [.arr 2 (L.map encP) true 0, .arr 1 cs true 0, .arr 1 os true 0, bF F] →
        RunsTo Try.prog polX 6 (sub [1, 1, 1, 1, 1, 1, 1, 1, 1, 1, 1, 0, 1, 0] B6) (mqE n la x m q le s j k) [.arr 2 (L.map encP) true 0, .arr 1 cs true 0, .arr 1 os true 0, bF F] (.exit 2) (polX.keys 6) (mqE n la x m q le s (j' + jn F (L.drop (k + 1))) m) [.arr 2 (L.map encP) true 0, .arr 1 cs true 0, .arr 1 os true 0, bF F] := by
      intro j' h1 h2 t
      have s2 := s1 j'
      rw [wrap_succ (by omega)] at s2
      have t2 := RunsTo.seq e (RunsTo.seq t s2 (c := sub [1, 1, 1, 1, 1, 1, 1, 1, 1, 1, 1, 0, 1, 0, 0, 1] B6) (by kernel_rfl) (by kernel_rfl)) (c := sub [1, 1, 1, 1, 1, 1, 1, 1, 1, 1, 1, 0, 1, 0, 0] B6) (by kernel_rfl) (by kernel_rfl)
      exact RunsTo.loop t2 (by kernel_rfl) (gc_eq _ rfl) (ih (k + 1) j' (by omega) h1 h2) rfl (by kernel_rfl) (by kernel_rfl)
    have ea : L[k].1.toNat = a := by omega
    have eb : L[k].2.toNat = b := by omega
    rw [ea, eb]
    have la0 := lb a han
    have lb0 := lb b hbn
    cases ca : bitAt F a with
    | true =>
      rw [ca] at la0
      cases cb : bitAt F b with
      | true =>
        rw [cb] at lb0
        have r := md_r_0 n la x m (L.map encP) q le s cs os (F.map .bool) j k _ _ hi l0 (idx43 han) la0 hi l1 (idx43 hbn) lb0
        have hw : IntKind.i64.wrap (j + 1) = j + 1 := by rw [wrapI64]; omega
        rw [hw] at r
        have := up (j + 1) (by omega) (by omega) r
        simp only [Bool.and_self, if_true]
        rw [← Int.add_assoc]
        exact this
      | false =>
        rw [cb] at lb0
        have r := md_r_1 n la x m (L.map encP) q le s cs os (F.map .bool) j k _ _ hi l0 (idx43 han) la0 hi l1 (idx43 hbn) lb0
        have := up j (by omega) (by omega) r
        simp only [Bool.and_false, Bool.false_eq_true, if_false, Int.zero_add]
        exact this
    | false =>
      rw [ca] at la0
      have r := md_r_2 n la x m (L.map encP) q le s cs os (F.map .bool) j k _ hi l0 (idx43 han) la0
      have := up j (by omega) (by omega) r
      simp only [Bool.false_and, Bool.false_eq_true, if_false, Int.zero_add]
      exact this
end
end Go.Proofs.Ytmhfkhlamnapdaa
end
section
open Go Go.HL
namespace Go.Proofs.Ytmhfkhlamnapdaa
theorem jn_tl {y : Nat → Int} {n : Nat} (h : Mk y n) {F : List Bool} {C : Nat → Bool} (hF : ∀ v, v < n → bitAt F v = C v) : jn F (tl y n) = (((List.range' 1 (n - 1)).filter fun j => C j && C (y j).toNat).length : Nat) := by
  unfold jn tl
  rw [List.filter_map, List.length_map]
  congr 2
  refine List.filter_congr fun j hj => ?_
  rw [List.mem_range'_1] at hj
  have := h j (by omega) (by omega)
  simp only [Function.comp]
  rw [hF _ (by omega), Int.toNat_natCast, hF j (by omega), Bool.and_comm]
theorem relayMiddle_law (a : Int) (l : List Int) (b : Int) : ∃ E H, RunsTo Try.prog polX 6 B6 (args0 [.int .i64 a, .imm .arg 1 (l.map encI), .int .i64 b]) [] .ret (polX.keys 6) E H ∧ E.get 6 = .bool true := by
  obtain ⟨h0, h1⟩ := modW_bounds a 30 (by omega) (by omega)
  have a1 := md_a_0 a (l.map encI) b
  have b1 := md_b_0 a (l.map encI) b _ (x22 a 30 (by omega) _)
  obtain ⟨n, hn⟩ : ∃ n : Nat, (n : Int) = 1 + modW a 30 := ⟨(1 + modW a 30).toNat, by omega⟩
  have hw : IntKind.i64.wrap (1 + modW a 30) = (n : Int) := by rw [wrapI64]; omega
  rw [hw] at b1
  have hMk := tameAt_ok l n (by omega)
  have c1 := md_c_0 n (l.map encI) b (n - 1) _ (x23 l (by omega) _)
  obtain ⟨f0, f1⟩ := modW_bounds b (n : Int) (by omega) (by omega)
  have d1 := md_d_0 n (l.map encI) b (n - 1) ((tl (tameAt l) n).map encP) _ (x22 b n (by omega) _)
  obtain ⟨x, hx⟩ : ∃ x : Nat, modW b (n : Int) = (x : Int) := ⟨(modW b (n : Int)).toNat, by omega⟩
  rw [hx] at d1 f0 f1
  have hlen := tl_len (tameAt l) n
  have htr := tl_tree hMk (by omega)
  have hv := tl_valid hMk
  have hmid := mid_tl hMk (by omega)
  have hjn := fun F : List Bool => @jn_tl (tameAt l) n hMk F (cen n (tl (tameAt l) n))
  generalize tameAt l = y at c1 d1 hlen htr hv hmid hjn hMk
  have hxn : x < n := by omega
  have ht : timeF (n : Int) (tl y n) (x : Int) = (tm (rowE (tl y n)) x (-1), 0) := by rw [timeF, if_pos ⟨htr, by omega, by omega⟩]
  have hf : pfarF (n : Int) (tl y n) (x : Int) = (farF (adjOf n (tl y n)) x, 0) := by rw [pfarF, if_pos ⟨htr, by omega, by omega⟩, Int.toNat_natCast, Int.toNat_natCast]
  have hA := adjOf_inv hv
  have ho : (farF (adjOf n (tl y n)) x).length = n := by rw [farF, bfs_len]; exact hA.len
  have hC : centersF (n : Int) (tl y n) = .tuple [.own 1 ((((List.range n).filter (cen n (tl y n))).map fun r : Nat => (r : Int)).map encI), .int .i64 (minL (timesL n (tl y n))), .int .i64 0] := by
    rw [centersF, if_pos htr, Int.toNat_natCast, sel_cen]
  obtain ⟨_, _, hall⟩ := tree_between htr hxn
  have hbt := tree_small htr hxn
  have hnn : 0 ≤ tm (rowE (tl y n)) (x : Int) (-1) := tmF_nonneg (rowE (tl y n)) 200 x (-1)
  have hlx := hmid.le x hxn
  -- the least time
  have hRlen : ((List.range n).filter (cen n (tl y n))).length ≤ n := by
    have := List.length_filter_le (cen n (tl y n)) (List.range n)
    simpa using this
  have htwo := hmid.two
  have hcount := hmid.count
  have hRm : ∀ r, r ∈ (List.range n).filter (cen n (tl y n)) ↔ r < n ∧ tm (rowE (tl y n)) (r : Int) (-1) = minL (timesL n (tl y n)) := fun r => by
    rw [List.mem_filter, List.mem_range, cen, decide_eq_true_eq]
  have hle0 : 0 ≤ minL (timesL n (tl y n)) ∧ minL (timesL n (tl y n)) ≤ 1000 := by
    obtain ⟨r, hr⟩ : ∃ r, r ∈ (List.range n).filter (cen n (tl y n)) := by
      rcases Nat.eq_zero_or_pos ((List.range n).filter (cen n (tl y n))).length with h | h
      · omega
      · exact List.exists_mem_of_length_pos h
    have := (hRm r).1 hr
    have h2 : 0 ≤ tm (rowE (tl y n)) (r : Int) (-1) := tmF_nonneg (rowE (tl y n)) 200 r (-1)
    omega
  obtain ⟨_, _, hrt⟩ := tree_rtd htr
  have hfar : ∀ r, r ∈ (List.range n).filter (cen n (tl y n)) → tm (rowE (tl y n)) (x : Int) (-1) ≤ minL (timesL n (tl y n)) + (farF (adjOf n (tl y n)) x).getD r 0 ∧ 0 ≤ (farF (adjOf n (tl y n)) x).getD r 0 ∧ (farF (adjOf n (tl y n)) x).getD r 0 ≤ 1000 := by
    intro r hr
    obtain ⟨r1, r2⟩ := (hRm r).1 hr
    obtain ⟨y1, y2, _, _⟩ := hall r r1
    have hR := hrt x hxn
    obtain ⟨hO, _⟩ := hR.ori hxn hv (by omega)
    have h3 := tm_reach hO (by omega) hv hR n r r1 (hR.le r r1)
    simp only [Int.toNat_natCast] at h3
    have hfe : farF (adjOf n (tl y n)) x = bfs (fun z => (adjOf n (tl y n)).getD z []) n x := by rw [farF, hA.len]
    rw [hfe] at y1 y2 ⊢
    omega
  have hinc : ((List.range n).filter (cen n (tl y n))).Pairwise fun a b => a < b := List.Pairwise.filter _ List.pairwise_lt_range
  have hRn : ∀ r, r ∈ (List.range n).filter (cen n (tl y n)) → r < n := fun r hr => ((hRm r).1 hr).1
  have e1 := md_e_0 n (l.map encI) x (n - 1) ((tl y n).map encP) _ _ _ _ (x17 (l := tl y n) (H := [.arr 2 ((tl y n).map encP) true 0]) (b := 0) (m := n - 1) hlen rfl (n : Int) hC)
  have g24 := fun cs : List HV => x24 (l := tl y n) (H := [.arr 2 ((tl y n).map encP) true 0, .arr 1 cs true 0]) (b := 0) (m := n - 1) hlen rfl (n : Int) (x : Int)
  rw [ht] at g24
  rw [List.length_map] at e1
  generalize hR : (List.range n).filter (cen n (tl y n)) = R at e1 hRlen htwo hcount hRm hfar hinc hRn
  generalize hLE : minL (timesL n (tl y n)) = le at e1 hlx hRm hle0 hfar
  have f2 := md_f_0 n (l.map encI) x (n - 1) ((tl y n).map encP) R.length le 0 ((R.map fun r : Nat => (r : Int)).map encI) _ _ (g24 _)
  have g25 := x25 (l := tl y n) (H := [.arr 2 ((tl y n).map encP) true 0, bI (R.map fun r : Nat => (r : Int))]) (b := 0) (m := n - 1) hlen rfl (n : Int) (x : Int) hf
  rw [ho] at g25
  have g1 := md_g_0 n (l.map encI) x (n - 1) ((tl y n).map encP) R.length le 0 ((R.map fun r : Nat => (r : Int)).map encI) (tm (rowE (tl y n)) x (-1)) 0 _ _ _ g25
  have h2 := md_h_2 n (l.map encI) x (n - 1) ((tl y n).map encP) R.length le 0 ((R.map fun r : Nat => (r : Int)).map encI) (tm (rowE (tl y n)) x (-1)) 0 n 0 ((farF (adjOf n (tl y n)) x).map encI) rfl rfl rfl rfl (by omega) (by omega)
  have i1 := md_i_0 n (l.map encI) x (n - 1) ((tl y n).map encP) R.length le 0 ((R.map fun r : Nat => (r : Int)).map encI) (tm (rowE (tl y n)) x (-1)) 0 n 0 ((farF (adjOf n (tl y n)) x).map encI) (by
    have := makeV_ok (P := Try.prog) (H := [.arr 2 ((tl y n).map encP) true 0, bI (R.map fun r : Nat => (r : Int)), bI (farF (adjOf n (tl y n)) x)]) (t := 43) (n := (n : Int)) u43f info4f rfl rfl (by omega) (by omega) (by rw [show roomMax = 70368744177664 from rfl]; omega)
    rw [Int.toNat_natCast] at this
    exact this)
  have hrep : List.replicate n (HV.bool false) = (List.replicate n false).map HV.bool := by rw [List.map_replicate]
  rw [hrep] at i1
  have j1 := md_j_0 n (l.map encI) x (n - 1) ((tl y n).map encP) R.length le 0 ((R.map fun r : Nat => (r : Int)).map encI) (tm (rowE (tl y n)) x (-1)) 0 n 0 ((farF (adjOf n (tl y n)) x).map encI) ((List.replicate n false).map .bool)
  have r1 := md_loop1 (la := l.map encI) (els := (tl y n).map encP) (x := x) (m := n - 1) (le := le) (s := tm (rowE (tl y n)) x (-1)) (R := R) (o := farF (adjOf n (tl y n)) x) (n := n) (by omega) hRn hinc ho (by omega) hle0 hfar R.length 0 (List.replicate n false) (by omega) (by simp)
  rw [List.drop_zero] at r1
  have hFl : (markR R (List.replicate n false)).length = n := by rw [markR_len]; simp
  have hFb : ∀ v, v < n → bitAt (markR R (List.replicate n false)) v = cen n (tl y n) v := by
    intro v hvn
    have h3 := markR_at R (List.replicate n false) v (fun r hr => by simpa using hRn r hr)
    have h4 : bitAt (List.replicate n false) v = false := by
      unfold bitAt
      rw [List.getElem?_replicate]
      split <;> rfl
    rw [h4] at h3
    rw [Bool.eq_iff_iff, h3, ← hR, List.mem_filter, List.mem_range]
    simp [hvn]
  have hjj := hjn _ hFb
  generalize markR R (List.replicate n false) = F at r1 hFl hFb hjj
  have o1 := md_o_0 n (l.map encI) x (n - 1) ((tl y n).map encP) R.length le (tm (rowE (tl y n)) x (-1)) n ((R.map fun r : Nat => (r : Int)).map encI) ((farF (adjOf n (tl y n)) x).map encI) (F.map .bool) R.length
  have p1 := md_p_0 n (l.map encI) x (n - 1) ((tl y n).map encP) R.length le (tm (rowE (tl y n)) x (-1)) n ((R.map fun r : Nat => (r : Int)).map encI) ((farF (adjOf n (tl y n)) x).map encI) (F.map .bool) R.length 0
  have r2 := md_loop2 (la := l.map encI) (x := x) (m := n - 1) (le := le) (s := tm (rowE (tl y n)) x (-1)) (L := tl y n) (F := F) (q := R.length) (cs := (R.map fun r : Nat => (r : Int)).map encI) (os := (farF (adjOf n (tl y n)) x).map encI) hlen (n := n) (by omega) (by omega) hv hFl (n - 1) 0 0 (by omega) (by omega) (by omega)
  rw [List.drop_zero, Int.zero_add, hjj] at r2
  have hwq : IntKind.i64.wrap ((R.length : Int) - 1) = (R.length : Int) - 1 := by rw [wrapI64]; omega
  have hb3 : ([.arr 2 ((tl y n).map encP) true 0, bI (R.map fun r : Nat => (r : Int)), bI (farF (adjOf n (tl y n)) x), bF F] : Heap)[3]? = some (bF F) := rfl
  have lbx := load_b hFl hb3 hxn
  rw [hFb x hxn] at lbx
  have ix : idxV Try.prog 43 (.sl 3 0 n (some n) n 1) (.int .i64 (x : Int)) = some (.ptr 3 x 0 n) := by have := idx43 hxn; rwa [Int.toNat_natCast] at this
  have hJ : ((((List.range' 1 (n - 1)).filter fun j => cen n (tl y n) j && cen n (tl y n) (y j).toNat).length : Nat) : Int) = IntKind.i64.wrap ((R.length : Int) - 1) := by rw [hwq]; omega
  have z1 : ∃ E, RunsTo Try.prog polX 6 (sub [1, 1, 1, 1, 1, 1, 1, 1, 1, 1, 1, 1] B6) (mqE n (l.map encI) x (n - 1) R.length le (tm (rowE (tl y n)) x (-1)) ((((List.range' 1 (n - 1)).filter fun j => cen n (tl y n) j && cen n (tl y n) (y j).toNat).length : Nat) : Int) (n - 1)) [.arr 2 ((tl y n).map encP) true 0, bI (R.map fun r : Nat => (r : Int)), bI (farF (adjOf n (tl y n)) x), bF F] .ret (polX.keys 6) E [.arr 2 ((tl y n).map encP) true 0, bI (R.map fun r : Nat => (r : Int)), bI (farF (adjOf n (tl y n)) x), bF F] ∧ E.get 6 = .bool true := by
    cases hc : cen n (tl y n) x with
    | true =>
      rw [hc] at lbx
      have := of_decide_eq_true hc
      rw [hLE] at this
      exact ⟨_, md_z_0 n (l.map encI) x (n - 1) ((tl y n).map encP) R.length le (tm (rowE (tl y n)) x (-1)) ((R.map fun r : Nat => (r : Int)).map encI) ((farF (adjOf n (tl y n)) x).map encI) (F.map .bool) _ (n - 1) hJ ix lbx this, rfl⟩
    | false =>
      rw [hc] at lbx
      have := of_decide_eq_false hc
      rw [hLE] at this
      exact ⟨_, md_z_3 n (l.map encI) x (n - 1) ((tl y n).map encP) R.length le (tm (rowE (tl y n)) x (-1)) ((R.map fun r : Nat => (r : Int)).map encI) ((farF (adjOf n (tl y n)) x).map encI) (F.map .bool) _ (n - 1) hJ ix lbx this, rfl⟩
  obtain ⟨E, z1, hE⟩ := z1
  have r1' := RunsTo.loop_in (e0 := env6 (.int .i64 (n : Int)) (.imm .arg 1 (l.map encI)) (.int .i64 (x : Int)) (.bool false) (.sl 0 0 (n - 1) none (n - 1) 2) (.sl 1 0 R.length none R.length 1) (.int .i64 le) (.int .i64 0) (.int .i64 (tm (rowE (tl y n)) x (-1))) (.int .i64 0) (.sl 2 0 n none n 1) (.int .i64 0) (.sl 3 0 n (some n) n 1) (.int .i64 0) .undef .undef) r1 (b := sub [1, 1, 1, 1, 1, 1, 1, 1, 1, 0, 1, 0, 0] B6) (by kernel_rfl) (by kernel_rfl) (by kernel_rfl)
  have r2' := RunsTo.loop_in (e0 := env6 (.int .i64 (n : Int)) (.imm .arg 1 (l.map encI)) (.int .i64 (x : Int)) (.bool false) (.sl 0 0 (n - 1) none (n - 1) 2) (.sl 1 0 R.length none R.length 1) (.int .i64 le) .undef (.int .i64 (tm (rowE (tl y n)) x (-1))) .undef (.sl 2 0 n none n 1) .undef (.sl 3 0 n (some n) n 1) (.int .i64 (R.length : Int)) (.int .i64 0) (.int .i64 0)) r2 (b := sub [1, 1, 1, 1, 1, 1, 1, 1, 1, 1, 1, 0, 1, 0, 0] B6) (by kernel_rfl) (by kernel_rfl) (by kernel_rfl)
  have t11 := RunsTo.seq (RunsTo.seq p1 (RunsTo.block_exit (c := sub [1, 1, 1, 1, 1, 1, 1, 1, 1, 1, 1, 0, 1] B6) r2' (by kernel_rfl)) (c := sub [1, 1, 1, 1, 1, 1, 1, 1, 1, 1, 1, 0] B6) (by kernel_rfl) (by kernel_rfl)) z1 (c := sub [1, 1, 1, 1, 1, 1, 1, 1, 1, 1, 1] B6) (by kernel_rfl) (by kernel_rfl)
  have t10 := RunsTo.seq o1 t11 (c := sub [1, 1, 1, 1, 1, 1, 1, 1, 1, 1] B6) (by kernel_rfl) (by kernel_rfl)
  have t9 := RunsTo.seq (RunsTo.seq j1 (RunsTo.block_exit (c := sub [1, 1, 1, 1, 1, 1, 1, 1, 1, 0, 1] B6) r1' (by kernel_rfl)) (c := sub [1, 1, 1, 1, 1, 1, 1, 1, 1, 0] B6) (by kernel_rfl) (by kernel_rfl)) t10 (c := sub [1, 1, 1, 1, 1, 1, 1, 1, 1] B6) (by kernel_rfl) (by kernel_rfl)
  have t8 := RunsTo.seq i1 t9 (c := sub [1, 1, 1, 1, 1, 1, 1, 1] B6) (by kernel_rfl) (by kernel_rfl)
  have t7 := RunsTo.seq h2 t8 (c := sub [1, 1, 1, 1, 1, 1, 1] B6) (by kernel_rfl) (by kernel_rfl)
  have t6 := RunsTo.seq g1 t7 (c := sub [1, 1, 1, 1, 1, 1] B6) (by kernel_rfl) (by kernel_rfl)
  have t5 := RunsTo.seq f2 t6 (c := sub [1, 1, 1, 1, 1] B6) (by kernel_rfl) (by kernel_rfl)
  have t4 := RunsTo.seq e1 t5 (c := sub [1, 1, 1, 1] B6) (by kernel_rfl) (by kernel_rfl)
  have t3 := RunsTo.seq d1 t4 (c := sub [1, 1, 1] B6) (by kernel_rfl) (by kernel_rfl)
  have t2 := RunsTo.seq c1 t3 (c := sub [1, 1] B6) (by kernel_rfl) (by kernel_rfl)
  exact ⟨_, _, RunsTo.seq a1 (RunsTo.seq b1 t2 (c := sub [1] B6) (by kernel_rfl) (by kernel_rfl)) (c := B6) (by kernel_rfl) (by kernel_rfl), hE⟩
end Go.Proofs.Ytmhfkhlamnapdaa
end
section
namespace Go.HL
open Go.ChangeShapes Go.WideShapes Go.ChangeAt Go.RowKit Go.Deep
theorem okNil (w : World) (r : Nat) : okOf Ctx.nil w.heap.size false r := by
  refine ⟨fun hM => ?_, by simp⟩
  obtain ⟨b, y, h1, _, _⟩ := M_iff.1 hM
  simp [Ctx.nil] at h1
theorem cell_lt {w : World} {a : Addr} {v : Value} (h : w.cell? a = some v) : a.block < w.heap.size := by
  rcases Nat.lt_or_ge a.block w.heap.size with hl | hl
  · exact hl
  · have : w.heap[a.block]? = none := by simp [hl]
    simp [World.cell?, this] at h
end Go.HL
end
section
namespace Go.HL
open Go.ChangeShapes Go.WideShapes Go.ChangeAt Go.RowKit Go.Deep
theorem arg_ints_ok {H : Type} {enc : TypeId × Value → H} {P : Program} {W : World} {base : Nat} {t q : TypeId} {v : Value} {d : DataW H} {ps : List MemPlace} (ht : P.underlying t = some (.slice q)) (hq : P.underlying q = some (.int .i64)) (cq : P.cellsOf q = 1)
    (hval : Value.okWide P W .any base t v) (hd : DataW.Trod enc P W 0 (fun _ => true) true t v d ps) : ∃ l : List Int, V W (okOf Ctx.nil W.heap.size) Ctx.nil (.imm .arg 1 (l.map encI)) v := by
  obtain ⟨a, len, cap, rfl⟩ := okWide_slice ht hval
  obtain ⟨fuel, hf⟩ := hd
  rcases open_slice ht hf with ⟨h0, _⟩ | ⟨a', len', cap', m, n, D, Pl, h0, hb, hl, hm, hmm, hx, hel⟩
  · simp [Value.cells] at h0
    obtain ⟨rfl, rfl, rfl⟩ := h0
    exact ⟨[], .imm .arg 1 [] none 0 (fun _ => .bool false) (by simp) (by simp) (by simp) (by simp) (by simp) (by simp)⟩
  · simp [Value.cells] at h0
    obtain ⟨rfl, rfl, rfl⟩ := h0
    have hlm : len ≤ m := by rw [hmm]; split <;> omega
    have each : ∀ i, i < len → ∃ z : Int, W.cell? (a'.add i) = some (.int .i64 z) := by
      intro i hi
      obtain ⟨cs', h1, h2⟩ := hel i (by omega)
      rw [cq] at h1
      obtain ⟨_, hlen, hcell⟩ := World.cells?_some h1
      match cs', hlen with
      | [v0], _ =>
        obtain ⟨z0, e0, _, _⟩ := DataW.trod_int hq h2
        simp at e0
        subst e0
        have c0 := hcell 0 (by omega)
        rw [add_add] at c0
        exact ⟨z0, by simpa using c0⟩
    obtain ⟨f, hf⟩ := choose_lt each
    refine ⟨(List.range len).map f, ?_⟩
    have hlen : (((List.range len).map f).map encI).length = len := by simp
    have key := V.imm (w := W) (ok := okOf Ctx.nil W.heap.size) (c := Ctx.nil) .arg 1 (((List.range len).map f).map encI) (some a') cap (fun j => .int .i64 (f j))
      (by rw [hlen]; exact hl) (by simp) ?_ ?_ ?_ ?_
    · rw [hlen] at key; exact key
    · intro hne
      have h0 : 0 < len := by
        rcases Nat.eq_zero_or_pos len with h | h
        · subst h; simp at hne
        · exact h
      obtain ⟨b, off, spot⟩ := a'
      have hspot : spot = none := by simpa [Addr.add] using World.cell?_spot (hf 0 h0)
      subst hspot
      refine ⟨b, off, rfl, by simpa [Addr.add] using cell_lt (hf 0 h0), okNil W b, fun j hj => ?_⟩
      rw [hlen] at hj
      have c0 := hf j (by omega)
      rw [add_plain] at c0
      exact c0
    · intro v hv
      obtain ⟨p, _, rfl⟩ := List.mem_map.1 hv
      rfl
    · intro v hv
      obtain ⟨p, _, rfl⟩ := List.mem_map.1 hv
      rfl
    · intro i v j x hi hj
      have hil : i < len := by have := lt_of_get hi; rw [hlen] at this; exact this
      have : v = encI (f i) := by
        rw [List.getElem?_map, List.getElem?_map, List.getElem?_range hil] at hi
        simpa using hi.symm
      subst this
      have hjx : j < 1 := lt_of_get hj
      match j, hjx, hj with
      | 0, _, hj =>
        simp [encI, cellsOf] at hj
        subst hj
        have e1 : i * 1 + 0 = i := by omega
        rw [e1]
        exact V.int _ _
end Go.HL
end
