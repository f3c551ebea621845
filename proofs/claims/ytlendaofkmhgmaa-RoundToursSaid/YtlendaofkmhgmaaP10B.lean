/- A part of the proof. -/
import Derived.Test.YtlendaofkmhgmaaP10A
set_option linter.unusedVariables false
set_option linter.unusedSimpArgs false
section
open Go Go.HL
namespace Go.Proofs.Ytlendaofkmhgmaa
theorem soundT (n : Nat) : CallSound Try.prog (callN Try.prog polT n) := sound_prim _ (fun g f h => by
  split at h
  · rename_i hg; cases h; rw [eq_of_beq hg]; exact within_ok
  split at h
  · rename_i hg; cases h; rw [eq_of_beq hg]; exact contains_ok
  · cases h) n
theorem prim_contains {pol' : Pol} (hp : pol'.prim 60 = some contains60) {l : List Int} (hl : l.length ≤ 1000) (v : Int) (H : Heap) (b : Bool) (hb : decide (v ∈ l) = b) : ∀ k, callN Try.prog pol' (k + 1) 60 [.imm .arg 1 (l.map encI), .int .i64 v] H = some (.bool b, H) := fun k => by
  rw [prim_call (pol := pol') (g := 60) (F := contains60) hp (rs := [.imm .arg 1 (l.map encI), .int .i64 v]) (by simp only [mapO, arg_li]; rfl) (res := .bool b) (by simp only [contains60, lnF, mapO_map decI_enc]; rw [if_pos hl, hb])]; rfl
abbrev itE (d : List (List Int)) (l : List Int) (j : Nat) : Env := env57 (.imm .arg 1 (d.map encR)) (.imm .arg 1 (l.map encI)) (.bool false) .undef .undef (.imm .arg 1 (l.map encI)) (.int .i64 (l.length : Int)) (.int .i64 (j : Int))
theorem it_loop {d : List (List Int)} {l : List Int} (hd : d.length ≤ 1000) (hl : l.length ≤ 1000) : ∀ (k j : Nat), j + k = l.length → Gd d.length l j →
    ∃ x E, RunsTo Try.prog polT 57 (sub [1, 1, 0, 1, 0] B57) (itE d l j) [] x (polT.keys 57) E [] ∧
      ((x = .exit 0 ∧ E = itE d l l.length ∧ (inT d.length l ∧ l.Nodup)) ∨ (x = .ret ∧ E.get 4 = .bool false ∧ ¬ (inT d.length l ∧ l.Nodup))) := by
  intro k
  induction k with
  | zero =>
    intro j hj hG
    have hj : j = l.length := by omega
    subst hj
    have s1 := it_l_3 (d.map encR) (l.map encI) l.length (by simp)
    rw [List.length_map] at s1
    exact ⟨_, _, RunsTo.loop_out s1 (by simp) (by kernel_rfl) (by kernel_rfl), .inl ⟨rfl, rfl, hG.all⟩⟩
  | succ k ih =>
    intro j hj hG
    have hjl : j < l.length := by omega
    have g := gx hjl
    rw [getD_at hjl] at g
    have hmem : l[j] ∈ l := List.getElem_mem hjl
    have hw : IntKind.i64.wrap (((d.map encR).length : Int) - 1) = (d.length : Int) - 1 := by rw [List.length_map, wrapI64]; omega
    by_cases c1 : (0 : Int) ≤ l[j] ∧ l[j] ≤ IntKind.i64.wrap (((d.map encR).length : Int) - 1)
    · have c1' := c1
      rw [hw] at c1'
      have gs : sliceV Try.prog 23 (.imm .arg 1 (l.map encI)) none (some (.int .i64 (j : Int))) none = some (.imm .arg 1 ((l.map encI).take j)) := slice_imm (by rw [List.length_map]; omega)
      have et : (l.map encI).take j = (l.take j).map encI := List.map_take.symm
      by_cases c2 : l[j] ∈ l.take j
      · have s1 := it_l_0 (d.map encR) (l.map encI) j _ (by simp; omega) g c1 gs (by rw [et]; exact prim_contains (by kernel_rfl) (by rw [List.length_take]; omega) _ _ true (decide_eq_true c2))
        rw [List.length_map] at s1
        exact ⟨_, _, RunsTo.loop_out s1 (by simp) (by kernel_rfl) (by kernel_rfl), .inr ⟨rfl, rfl, fun h => dup_not hjl c2 h.2⟩⟩
      · have s1 := it_l_1 (d.map encR) (l.map encI) j _ (by simp; omega) g c1 gs (by rw [et]; exact prim_contains (by kernel_rfl) (by rw [List.length_take]; omega) _ _ false (decide_eq_false c2))
        rw [wrap_succ (by omega), List.length_map] at s1
        obtain ⟨x, E, h1, h2⟩ := ih (j + 1) (by omega) (hG.succ hjl ⟨c1.1, by omega⟩ c2)
        exact ⟨x, E, RunsTo.loop s1 (by kernel_rfl) rfl h1 rfl (by kernel_rfl) (by kernel_rfl), h2⟩
    · have s1 := it_l_2 (d.map encR) (l.map encI) j _ (by simp; omega) g c1
      rw [List.length_map (f := encI)] at s1
      rw [hw] at c1
      exact ⟨_, _, RunsTo.loop_out s1 (by simp) (by kernel_rfl) (by kernel_rfl), .inr ⟨rfl, rfl, fun h => by have := h.1 _ hmem; omega⟩⟩
theorem res57 : Try.f57.results.toList = [.tmp 4] := by kernel_rfl
theorem mtour_ok : PrimOk Try.prog 57 tour57 := by
  refine primOk_pure (pol := polT) (fn := Try.f57) (cd := B57) follows_mixed soundT (by kernel_rfl) (by kernel_rfl) (fnok polT.prim _ _ (by kernel_rfl)) (by kernel_rfl) ?_
  intro args res h
  obtain ⟨d, l, rfl, hq⟩ := rlF_inv h
  clear h
  split at hq
  · rename_i hc
    cases hq
    have a1 := it_a_0 (d.map encR) (l.map encI)
    have fin : ∀ b E, RunsTo Try.prog polT 57 (sub [1] B57) (env57 (.imm .arg 1 (d.map encR)) (.imm .arg 1 (l.map encI)) (.bool false) .undef .undef .undef .undef .undef) [] .ret (polT.keys 57) E [] → E.get 4 = .bool b → trOk d.length l = b →
        ∃ x E H' v, RunsTo Try.prog polT 57 B57 (args0 [.imm .arg 1 (d.map encR), .imm .arg 1 (l.map encI)]) [] x (polT.keys 57) E H' ∧ (∀ i, x ≠ .exit i) ∧ resultsV Try.prog Try.f57 E H' = some v ∧ toRes H' (polT.deep 57) v = some (.bool (trOk d.length l)) := by
      intro b E t hE hb
      exact ⟨_, E, [], .bool b, RunsTo.seq a1 t (c := B57) (by kernel_rfl) (by kernel_rfl), by simp, by simp only [resultsV, res57, mapO, resultV, hE], by rw [hb]; rfl⟩
    by_cases e1 : l.length = d.length
    · have g0 := gx (l := l) (y := 0) (by omega)
      by_cases e2 : l.getD 0 0 = 0
      · have b1 := it_b_0 (d.map encR) (l.map encI) _ (by simp [e1]) g0 e2
        have c1 := it_c_0 (d.map encR) (l.map encI)
        rw [List.length_map (f := encI)] at c1
        obtain ⟨x, E, h1, h2⟩ := it_loop (d := d) (by omega) hc.2 l.length 0 (by omega) (Gd.zero _ l)
        rcases h2 with ⟨rfl, rfl, h3⟩ | ⟨rfl, k2, k3⟩
        · have z1 := it_z_0 (d.map encR) (l.map encI) l.length
          rw [List.length_map (f := encI)] at z1
          have t1 := RunsTo.seq c1 (RunsTo.block_exit (c := sub [1, 1, 0, 1] B57) h1 (by kernel_rfl)) (c := sub [1, 1, 0] B57) (by kernel_rfl) (by kernel_rfl)
          exact fin true _ (RunsTo.seq b1 (RunsTo.seq t1 z1 (c := sub [1, 1] B57) (by kernel_rfl) (by kernel_rfl)) (c := sub [1] B57) (by kernel_rfl) (by kernel_rfl)) rfl (decide_eq_true ⟨e1, e2, h3.1, h3.2⟩)
        · have t1 := RunsTo.seq c1 (RunsTo.block_ret (c := sub [1, 1, 0, 1] B57) (i := 0) h1 (by kernel_rfl)) (c := sub [1, 1, 0] B57) (by kernel_rfl) (by kernel_rfl)
          exact fin false _ (RunsTo.seq b1 (RunsTo.seq_out t1 (by simp) (c := sub [1, 1] B57) (b := sub [1, 1, 1] B57) (by kernel_rfl)) (c := sub [1] B57) (by kernel_rfl) (by kernel_rfl)) k2 (decide_eq_false fun h => k3 ⟨h.2.2.1, h.2.2.2⟩)
      · exact fin false _ (RunsTo.seq_out (it_b_1 (d.map encR) (l.map encI) _ (by simp [e1]) g0 e2) (by simp) (c := sub [1] B57) (b := sub [1, 1] B57) (by kernel_rfl)) rfl (decide_eq_false fun h => e2 h.2.1)
    · exact fin false _ (RunsTo.seq_out (it_b_2 (d.map encR) (l.map encI) (by simp; omega)) (by simp) (c := sub [1] B57) (b := sub [1, 1] B57) (by kernel_rfl)) rfl (decide_eq_false fun h => e1 h.1)
  · cases hq
theorem trOk_iff {n : Nat} {l : List Int} : trOk n l = true ↔ l.length = n ∧ l.getD 0 0 = 0 ∧ inT n l ∧ l.Nodup := by
  unfold trOk; rw [decide_eq_true_eq]; exact Iff.rfl
theorem soundN (n : Nat) : CallSound Try.prog (callN Try.prog polN n) := sound_prim _ (fun g f h => by
  split at h
  · rename_i hg; cases h; rw [eq_of_beq hg]; exact miles_ok
  split at h
  · rename_i hg; cases h; rw [eq_of_beq hg]; exact mtour_ok
  split at h
  · rename_i hg; cases h; rw [eq_of_beq hg]; exact mlen_ok
  · cases h) n
theorem prim_miles {pol' : Pol} (hp : pol'.prim 46 = some miles46) {d : List (List Int)} (h1 : d.length ≤ 1000) (h2 : (d.all fun r => decide (r.length ≤ 1000)) = true) (H : Heap) (b : Bool) (hb : okB d = b) : ∀ k, callN Try.prog pol' (k + 1) 46 [.imm .arg 1 (d.map encR)] H = some (.bool b, H) := fun k => by
  rw [prim_call (pol := pol') (g := 46) (F := miles46) hp (rs := [.imm .arg 1 (d.map encR)]) (by simp only [mapO, arg_rw]) (res := .bool b) (by simp only [miles46, rwF, mapO_map decR_enc]; rw [if_pos ⟨h1, h2⟩, hb])]; rfl
theorem prim_mtour {pol' : Pol} (hp : pol'.prim 57 = some tour57) {d : List (List Int)} {l : List Int} (h1 : 1 ≤ d.length) (h2 : l.length ≤ 1000) (H : Heap) (b : Bool) (hb : trOk d.length l = b) : ∀ k, callN Try.prog pol' (k + 1) 57 [.imm .arg 1 (d.map encR), .imm .arg 1 (l.map encI)] H = some (.bool b, H) := fun k => by
  rw [prim_call (pol := pol') (g := 57) (F := tour57) hp (rs := [.imm .arg 1 (d.map encR), .imm .arg 1 (l.map encI)]) (by simp only [mapO, arg_rw, arg_li]) (res := .bool b) (by simp only [tour57, rlF, mapO_map decR_enc, mapO_map decI_enc]; rw [if_pos ⟨h1, h2⟩, hb])]; rfl
theorem prim_mlen {pol' : Pol} {g : FuncId} (hp : pol'.prim g = some len56) {d : List (List Int)} {l : List Int} (h1 : okD d) (h2 : inT d.length l) (h3 : l.length ≤ 1000) {v : HV} {H : Heap} (hv : toArg H 6 v = some (.imm .arg 1 (l.map encI))) : ∀ k, callN Try.prog pol' (k + 1) g [.imm .arg 1 (d.map encR), v] H = some (.int .i64 (lenT d l), H) := fun k => by
  rw [prim_call (pol := pol') (g := g) (F := len56) hp (rs := [.imm .arg 1 (d.map encR), .imm .arg 1 (l.map encI)]) (by simp only [mapO, arg_rw, hv]) (res := .int .i64 (lenT d l)) (by simp only [len56, rlF, mapO_map decR_enc, mapO_map decI_enc]; rw [if_pos ⟨h1, h2, h3⟩])]; rfl
theorem res34 : Try.f34.results.toList = [.tmp 4, .tmp 5] := by kernel_rfl
theorem length_ok : PrimOk Try.prog 34 length34 := by
  refine primOk_pure (pol := polN) (fn := Try.f34) (cd := B34) follows_mixed soundN (by kernel_rfl) (by kernel_rfl) (fnok polN.prim _ _ (by kernel_rfl)) (by kernel_rfl) ?_
  intro args res h
  obtain ⟨d, l, rfl, hq⟩ := rlF_inv h
  clear h
  split at hq
  · rename_i hc
    cases hq
    by_cases c1 : okD d
    · have m1 := prim_miles (pol' := polN) (by kernel_rfl) hc.1 hc.2.1 [] true (okB_true c1)
      by_cases c2 : trOk d.length l = true
      · rw [if_pos ⟨c1, c2⟩]
        have m2 := prim_mtour (pol' := polN) (by kernel_rfl) c1.1.1 hc.2.2 [] true c2
        have m3 := prim_mlen (pol' := polN) (g := 56) (by kernel_rfl) c1 (trOk_iff.1 c2).2.2.1 hc.2.2 (arg_li [] l)
        exact ⟨_, _, _, _, le_0 (d.map encR) (l.map encI) _ m1 m2 m3, by simp, by simp only [resultsV, res34]; rfl, rfl⟩
      · rw [if_neg (fun h => c2 h.2)]
        have m2 := prim_mtour (pol' := polN) (by kernel_rfl) c1.1.1 hc.2.2 [] false (nb_false c2)
        exact ⟨_, _, _, _, le_1 (d.map encR) (l.map encI) m1 m2, by simp, by simp only [resultsV, res34]; rfl, rfl⟩
    · rw [if_neg (fun h => c1 h.1)]
      have m1 := prim_miles (pol' := polN) (by kernel_rfl) hc.1 hc.2.1 [] false (okB_false c1)
      exact ⟨_, _, _, _, le_2 (d.map encR) (l.map encI) m1, by simp, by simp only [resultsV, res34]; rfl, rfl⟩
  · cases hq
theorem revP_len {l : List Int} {i j : Nat} (h : i ≤ j) (hj : j < l.length) : (revP l i j).length = l.length := by
  simp only [revP, List.length_append, List.length_take, List.length_reverse, List.length_drop]
  omega
theorem revP_get {l : List Int} {i j : Nat} (h : i ≤ j) (hj : j < l.length) (k : Nat) : (revP l i j)[k]? = if i ≤ k ∧ k ≤ j then l[i + j - k]? else l[k]? := by
  unfold revP
  by_cases c1 : k < i
  · rw [List.getElem?_append_left (by simp; omega), List.getElem?_take, if_pos c1, if_neg (by omega)]
  · rw [List.getElem?_append_right (by simp; omega), List.length_take, Nat.min_eq_left (by omega)]
    by_cases c2 : k ≤ j
    · rw [if_pos ⟨by omega, c2⟩, List.getElem?_append_left (by simp; omega), List.getElem?_reverse (by simp; omega), List.length_take, List.length_drop, Nat.min_eq_left (by omega), List.getElem?_take, if_pos (by omega), List.getElem?_drop]
      congr 1
      omega
    · rw [if_neg (by omega), List.getElem?_append_right (by simp; omega), List.length_reverse, List.length_take, List.length_drop, Nat.min_eq_left (by omega), List.getElem?_drop]
      congr 1
      omega
theorem revP_mem {l : List Int} {i j : Nat} (h : i ≤ j) (hj : j < l.length) {v : Int} (hv : v ∈ revP l i j) : v ∈ l := by
  obtain ⟨k, hk⟩ := List.mem_iff_getElem?.1 hv
  rw [revP_get h hj] at hk
  split at hk
  · exact List.mem_of_getElem? hk
  · exact List.mem_of_getElem? hk
theorem inT_rev {n : Nat} {l : List Int} {i j : Nat} (h : i ≤ j) (hj : j < l.length) (hl : inT n l) : inT n (revP l i j) := fun v hv => hl v (revP_mem h hj hv)
abbrev reE (l : List Int) (i j p : Nat) (d : Int) : Env := env39 (.imm .arg 1 (l.map encI)) (.int .i64 (i : Int)) (.int .i64 (j : Int)) (.imm .lit 1 []) (.sl 0 0 p none p 1) (.int .i64 d)
theorem re_loop {l : List Int} {i j : Nat} (hl : l.length ≤ 500) (hj : j < l.length) : ∀ (k : Nat) (o : List Int), i + k ≤ j + 1 → o.length ≤ 500 → o.length + k ≤ 500 →
    RunsTo Try.prog pol 39 (sub [1, 1, 1, 0, 1, 0] B39) (reE l i j o.length ((i : Int) + k - 1)) [bI o] (.exit 0) (pol.keys 39) (reE l i j (o ++ ((l.drop i).take k).reverse).length ((i : Int) - 1)) [bI (o ++ ((l.drop i).take k).reverse)] := by
  intro k
  induction k with
  | zero =>
    intro o hk _ _
    have s1 := re_l_1 (l.map encI) i j (o.map encI) o.length ((i : Int) + (0 : Nat) - 1) (by omega)
    have e : (i : Int) + (0 : Nat) - 1 = (i : Int) - 1 := by omega
    rw [e] at s1 ⊢
    simp only [List.take_zero, List.reverse_nil, List.append_nil]
    exact RunsTo.loop_out s1 (by simp) (by kernel_rfl) (by kernel_rfl)
  | succ k ih =>
    intro o hk h5 h6
    have e : (i : Int) + ((k + 1 : Nat) : Int) - 1 = ((i + k : Nat) : Int) := by omega
    have hik : i + k < l.length := by omega
    have hap := app_ints (H := [bI o]) (b := 0) (o := o) (xs := [l.getD (i + k) 0]) rfl (by simp; omega) (by simp)
    have g := gx hik
    have s1 := re_l_0 (l.map encI) i j (o.map encI) o.length ((i + k : Nat) : Int) (l.getD (i + k) 0) (by omega) g (by simpa [bI, encI] using hap)
    have hw : IntKind.i64.wrap (((i + k : Nat) : Int) - 1) = (i : Int) + (k : Nat) - 1 := by rw [wrapI64]; omega
    rw [hw] at s1
    have r := ih (o ++ [l.getD (i + k) 0]) (by omega) (by simp; omega) (by simp; omega)
    have er : (o ++ [l.getD (i + k) 0]) ++ ((l.drop i).take k).reverse = o ++ ((l.drop i).take (k + 1)).reverse := by
      have hkd : k < (l.drop i).length := by rw [List.length_drop]; omega
      have hv : (l.drop i)[k] = l.getD (i + k) 0 := by rw [List.getElem_drop]; exact (getD_at hik).symm
      rw [List.take_succ_eq_append_getElem hkd, List.reverse_append, List.reverse_singleton, List.append_assoc, hv]
    rw [er] at r
    have e2 : (o ++ [l.getD (i + k) 0]).length = o.length + 1 := by simp
    have e3 : (o ++ [l.getD (i + k) 0]).map encI = o.map encI ++ [.int .i64 (l.getD (i + k) 0)] := by simp [encI]
    unfold bI at r
    rw [e2, e3] at r
    rw [e]
    exact RunsTo.loop s1 (by kernel_rfl) (gc_eq _ rfl) r rfl (by kernel_rfl) (by kernel_rfl)
theorem res39 : Try.f39.results.toList = [.tmp 6] := by kernel_rfl
theorem rev_ok : PrimOk Try.prog 39 rev39 := by
  refine primOk_pure (pol := pol) (fn := Try.f39) (cd := B39) follows_mixed sound (by kernel_rfl) (by kernel_rfl) (fnok pol.prim _ _ (by kernel_rfl)) (by kernel_rfl) ?_
  intro args res h
  unfold rev39 at h
  split at h
  · rename_i la a b
    split at h
    · rename_i l hl
      split at h
      · rename_i hc
        cases h
        rw [mapO_inv decI_inv hl]
        obtain ⟨i, rfl⟩ : ∃ i : Nat, a = (i : Int) := ⟨a.toNat, by omega⟩
        obtain ⟨j, rfl⟩ : ∃ j : Nat, b = (j : Int) := ⟨b.toNat, by omega⟩
        rw [Int.toNat_natCast, Int.toNat_natCast]
        have hij : i ≤ j := by omega
        have hj : j < l.length := by omega
        have a1 := re_a_0 (l.map encI) i j
        have b1 := re_b_0 (l.map encI) i j
        have et : (l.map encI).take i = (l.take i).map encI := List.map_take.symm
        have ed : (l.map encI).drop (j + 1) = (l.drop (j + 1)).map encI := List.map_drop.symm
        have hti : (l.take i).length = i := by rw [List.length_take]; omega
        have c1 := re_c_0 (l.map encI) i j (slice_imm (by rw [List.length_map]; omega)) (by
          rw [et]
          by_cases h0 : l.take i = []
          · rw [h0]; rfl
          · have := app_ints (H := [bI []]) (b := 0) (o := []) (xs := l.take i) rfl (by simp; omega) h0
            rw [List.nil_append] at this
            simpa [bI] using this)
        rw [et, List.length_map] at c1
        have d1 := re_d_0 (l.map encI) i j ((l.take i).map encI) (l.take i).length
        have r := re_loop (i := i) hc.2 hj (j + 1 - i) (l.take i) (by omega) (by omega) (by omega)
        have ei : (i : Int) + ((j + 1 - i : Nat) : Int) - 1 = (j : Int) := by omega
        rw [ei] at r
        generalize hO : l.take i ++ ((l.drop i).take (j + 1 - i)).reverse = O at r
        have hOl : O.length = j + 1 := by rw [← hO]; simp only [List.length_append, List.length_take, List.length_reverse, List.length_drop]; omega
        have hR : O ++ l.drop (j + 1) = revP l i j := by rw [← hO, revP, List.append_assoc]
        have hw : IntKind.i64.wrap ((j : Int) + 1) = ((j + 1 : Nat) : Int) := wrap_succ (by omega)
        have z1 := re_z_0 (l.map encI) i j (O.map encI) O.length ((i : Int) - 1) (by rw [hw]; exact slice_from (by rw [List.length_map]; omega)) (by
          rw [ed]
          by_cases h0 : l.drop (j + 1) = []
          · rw [h0]; simp [appV]
          · have := app_ints (H := [bI O]) (b := 0) (o := O) (xs := l.drop (j + 1)) rfl (by rw [List.length_drop]; omega) h0
            simpa [bI] using this)
        rw [ed, List.length_map] at z1
        have e4 : O.map encI ++ (l.drop (j + 1)).map encI = (revP l i j).map encI := by rw [← List.map_append, hR]
        have e5 : O.length + (l.drop (j + 1)).length = (revP l i j).length := by rw [← hR, List.length_append]
        rw [e4, e5] at z1
        have t1 := RunsTo.seq d1 (RunsTo.block_exit (c := sub [1, 1, 1, 0, 1] B39) r (by kernel_rfl)) (c := sub [1, 1, 1, 0] B39) (by kernel_rfl) (by kernel_rfl)
        have t2 := RunsTo.seq c1 (RunsTo.seq t1 z1 (c := sub [1, 1, 1] B39) (by kernel_rfl) (by kernel_rfl)) (c := sub [1, 1] B39) (by kernel_rfl) (by kernel_rfl)
        have t3 := RunsTo.seq a1 (RunsTo.seq b1 t2 (c := sub [1] B39) (by kernel_rfl) (by kernel_rfl)) (c := B39) (by kernel_rfl) (by kernel_rfl)
        exact ⟨_, _, _, .sl 0 0 (revP l i j).length none (revP l i j).length 1, t3, by simp, by simp only [resultsV, res39]; rfl, res_li (b := 0) rfl rfl⟩
      · cases h
    · cases h
  · cases h
theorem soundR (n : Nat) : CallSound Try.prog (callN Try.prog polR n) := sound_prim _ (fun g f h => by
  split at h
  · rename_i hg; cases h; rw [eq_of_beq hg]; exact rev_ok
  split at h
  · rename_i hg; cases h; rw [eq_of_beq hg]; exact rlen_ok
  · cases h) n
section
variable {d : List (List Int)} {l : List Int}
abbrev beE (d : List (List Int)) (l : List Int) (v5 v6 v7 : HV) : Env := env59 (.imm .arg 1 (d.map encR)) (.imm .arg 1 (l.map encI)) (.imm .lit 1 []) v5 v6 v7
end
section
variable {d : List (List Int)} {l : List Int}
theorem prim_rev {i j : Nat} (hij : i ≤ j) (hj : j < l.length) (hl : l.length ≤ 500) : ∀ k, callN Try.prog polR (k + 1) 39 [.imm .arg 1 (l.map encI), .int .i64 (i : Int), .int .i64 (j : Int)] [] = some (.sl 0 0 (revP l i j).length none (revP l i j).length 1, [bI (revP l i j)]) := fun k => by
  rw [prim_call (pol := polR) (g := 39) (F := rev39) (by kernel_rfl) (rs := [.imm .arg 1 (l.map encI), .int .i64 (i : Int), .int .i64 (j : Int)]) (by simp only [mapO, arg_li]; rfl) (res := .own 1 ((revP l i j).map encI)) (by simp only [rev39, mapO_map decI_enc]; rw [if_pos ⟨⟨⟨by omega, by omega⟩, by omega⟩, hl⟩, Int.toNat_natCast, Int.toNat_natCast]), recv_ints]
  rfl
end
section
variable {d : List (List Int)} {l : List Int}
theorem be_in (h1 : okD d) (h2 : inT d.length l) (hl : l.length ≤ 500) {i : Nat} (hi : i < l.length) : ∀ (k j : Nat), i < j → j + k = l.length →
    ∃ x E H, RunsTo Try.prog polR 59 (sub [1, 0, 1, 0, 0, 1, 0, 0, 1, 0] B59) (beE d l (.int .i64 (i : Int)) (.int .i64 (j : Int)) .undef) [] x (polR.keys 59) E H ∧
      ((x = .exit 2 ∧ E = beE d l (.int .i64 (i : Int)) (.int .i64 (l.length : Int)) .undef ∧ H = [] ∧ btJ d l i k j = none) ∨ (∃ r, x = .ret ∧ E.get 4 = .sl 0 0 r.length none r.length 1 ∧ H = [bI r] ∧ btJ d l i k j = some r)) := by
  intro k
  induction k with
  | zero =>
    intro j hij hj
    have hj : j = l.length := by omega
    subst hj
    exact ⟨_, _, _, RunsTo.loop_out (be_l_2 (d.map encR) (l.map encI) i l.length (by simp)) (by simp) (by kernel_rfl) (by kernel_rfl), .inl ⟨rfl, rfl, rfl, rfl⟩⟩
  | succ k ih =>
    intro j hij hj
    have hjl : j < l.length := by omega
    have hrl := revP_len (l := l) (i := i) (j := j) (by omega) hjl
    have g1 := prim_rev (l := l) (i := i) (j := j) (by omega) hjl hl
    have g2 := prim_mlen (pol' := polR) (g := 37) (by kernel_rfl) h1 (inT_rev (i := i) (j := j) (by omega) hjl h2) (by omega) (v := .sl 0 0 (revP l i j).length none (revP l i j).length 1) (H := [bI (revP l i j)]) (arg_sl (b := 0) rfl rfl)
    have g3 := prim_mlen (pol' := polR) (g := 37) (by kernel_rfl) h1 h2 (by omega) (v := .imm .arg 1 (l.map encI)) (H := [bI (revP l i j)]) (arg_li _ l)
    rw [btJ]
    by_cases c : lenT d (revP l i j) < lenT d l
    · rw [if_pos c]
      exact ⟨_, _, _, RunsTo.loop_out (be_l_0 (d.map encR) (l.map encI) i j _ _ _ _ (by simp; omega) g1 g2 g3 c) (by simp) (by kernel_rfl) (by kernel_rfl), .inr ⟨_, rfl, rfl, rfl, rfl⟩⟩
    · rw [if_neg c]
      have s1 := be_l_1 (d.map encR) (l.map encI) i j _ _ _ _ (by simp; omega) g1 g2 g3 c
      rw [wrap_succ (by omega)] at s1
      obtain ⟨x, E, H, r1, r2⟩ := ih (j + 1) (by omega) (by omega)
      exact ⟨x, E, H, RunsTo.loop s1 (by kernel_rfl) (by kernel_rfl) r1 rfl (by kernel_rfl) (by kernel_rfl), r2⟩
end
section
variable {d : List (List Int)} {l : List Int}
theorem be_out (h1 : okD d) (h2 : inT d.length l) (hl : l.length ≤ 500) : ∀ (k i : Nat), i + k = l.length →
    ∃ x E H, RunsTo Try.prog polR 59 (sub [1, 0, 1, 0] B59) (beE d l (.int .i64 (i : Int)) .undef .undef) [] x (polR.keys 59) E H ∧
      ((x = .exit 0 ∧ E = beE d l (.int .i64 (l.length : Int)) .undef .undef ∧ H = [] ∧ btI d l k i = none) ∨ (∃ r, x = .ret ∧ E.get 4 = .sl 0 0 r.length none r.length 1 ∧ H = [bI r] ∧ btI d l k i = some r)) := by
  intro k
  induction k with
  | zero =>
    intro i hi
    have hi : i = l.length := by omega
    subst hi
    exact ⟨_, _, _, RunsTo.loop_out (RunsTo.seq_out (be_c_1 (d.map encR) (l.map encI) l.length (by simp)) (by simp) (c := sub [1, 0, 1, 0, 0] B59) (b := sub [1, 0, 1, 0, 0, 1] B59) (by kernel_rfl)) (by simp) (by kernel_rfl) (by kernel_rfl), .inl ⟨rfl, rfl, rfl, rfl⟩⟩
  | succ k ih =>
    intro i hi
    have hil : i < l.length := by omega
    have c1 := be_c_0 (d.map encR) (l.map encI) i (by simp; omega)
    have d1 := be_d_0 (d.map encR) (l.map encI) i
    rw [wrap_succ (by omega)] at d1
    obtain ⟨x, E, H, r1, r2⟩ := be_in h1 h2 hl hil (l.length - (i + 1)) (i + 1) (by omega) (by omega)
    have r1' := RunsTo.loop_in (e0 := beE d l (.int .i64 (i : Int)) (.int .i64 ((i + 1 : Nat) : Int)) .undef) r1 (b := sub [1, 0, 1, 0, 0, 1, 0, 0, 1, 0, 0] B59) (by kernel_rfl) (by kernel_rfl) (by kernel_rfl)
    rw [btI]
    rcases r2 with ⟨rfl, rfl, rfl, k4⟩ | ⟨r, rfl, k2, rfl, k4⟩
    · rw [k4]
      have n1 := be_e_0 (d.map encR) (l.map encI) i l.length
      rw [wrap_succ (by omega)] at n1
      have t1 := RunsTo.seq d1 (RunsTo.block_exit (c := sub [1, 0, 1, 0, 0, 1, 0, 0, 1] B59) r1' (by kernel_rfl)) (c := sub [1, 0, 1, 0, 0, 1, 0, 0] B59) (by kernel_rfl) (by kernel_rfl)
      have t2 := RunsTo.block_normal (i := 1) (c := sub [1, 0, 1, 0, 0, 1, 0] B59) t1 (by kernel_rfl)
      have t3 := RunsTo.seq c1 (RunsTo.seq t2 n1 (c := sub [1, 0, 1, 0, 0, 1] B59) (by kernel_rfl) (by kernel_rfl)) (c := sub [1, 0, 1, 0, 0] B59) (by kernel_rfl) (by kernel_rfl)
      obtain ⟨x, E, H, q1, q2⟩ := ih (i + 1) (by omega)
      exact ⟨x, E, H, RunsTo.loop t3 (by kernel_rfl) rfl q1 rfl (by kernel_rfl) (by kernel_rfl), q2⟩
    · rw [k4]
      have t1 := RunsTo.seq d1 (RunsTo.block_ret (c := sub [1, 0, 1, 0, 0, 1, 0, 0, 1] B59) (i := 2) r1' (by kernel_rfl)) (c := sub [1, 0, 1, 0, 0, 1, 0, 0] B59) (by kernel_rfl) (by kernel_rfl)
      have t2 := RunsTo.block_ret (i := 1) (c := sub [1, 0, 1, 0, 0, 1, 0] B59) t1 (by kernel_rfl)
      have t3 := RunsTo.seq c1 (RunsTo.seq_out t2 (by simp) (c := sub [1, 0, 1, 0, 0, 1] B59) (b := sub [1, 0, 1, 0, 0, 1, 1] B59) (by kernel_rfl)) (c := sub [1, 0, 1, 0, 0] B59) (by kernel_rfl) (by kernel_rfl)
      exact ⟨_, E, _, RunsTo.loop_out t3 (by simp) (by kernel_rfl) (by kernel_rfl), .inr ⟨r, rfl, k2, rfl, rfl⟩⟩
end
theorem res59 : Try.f59.results.toList = [.tmp 4] := by kernel_rfl
theorem better_ok : PrimOk Try.prog 59 better59 := by
  refine primOk_pure (pol := polR) (fn := Try.f59) (cd := B59) follows_mixed soundR (by kernel_rfl) (by kernel_rfl) (fnok polR.prim _ _ (by kernel_rfl)) (by kernel_rfl) ?_
  intro args res h
  obtain ⟨d, l, rfl, hq⟩ := rlF_inv h
  clear h
  split at hq
  · rename_i hc
    cases hq
    obtain ⟨h1, h2, h3, h4⟩ := hc
    have a1 := be_a_0 (d.map encR) (l.map encI)
    have b1 := be_b_0 (d.map encR) (l.map encI)
    obtain ⟨x, E, H, r1, r2⟩ := be_out h1 h2 h4 (l.length - 1) 1 (by omega)
    rw [bett]
    rcases r2 with ⟨rfl, rfl, rfl, k4⟩ | ⟨r, rfl, k2, rfl, k4⟩
    · rw [k4]
      have t1 := RunsTo.seq b1 (RunsTo.block_exit (c := sub [1, 0, 1] B59) r1 (by kernel_rfl)) (c := sub [1, 0] B59) (by kernel_rfl) (by kernel_rfl)
      have z1 := be_z_0 (d.map encR) (l.map encI) l.length
      have t2 := RunsTo.seq a1 (RunsTo.seq t1 z1 (c := sub [1] B59) (by kernel_rfl) (by kernel_rfl)) (c := B59) (by kernel_rfl) (by kernel_rfl)
      exact ⟨_, _, _, .imm .lit 1 [], t2, by simp, by simp only [resultsV, res59]; rfl, rfl⟩
    · rw [k4]
      have t1 := RunsTo.seq b1 (RunsTo.block_ret (c := sub [1, 0, 1] B59) (i := 0) r1 (by kernel_rfl)) (c := sub [1, 0] B59) (by kernel_rfl) (by kernel_rfl)
      have t2 := RunsTo.seq a1 (RunsTo.seq_out t1 (by simp) (c := sub [1] B59) (b := sub [1, 1] B59) (by kernel_rfl)) (c := B59) (by kernel_rfl) (by kernel_rfl)
      exact ⟨_, _, _, .sl 0 0 r.length none r.length 1, t2, by simp, by simp only [resultsV, res59, mapO, resultV, k2], res_li (b := 0) rfl rfl⟩
  · cases hq
end Go.Proofs.Ytlendaofkmhgmaa
end
section
open Go Go.HL
namespace Go.Proofs.Ytlendaofkmhgmaa
theorem res52 : Try.f52.results.toList = [.tmp 2] := by kernel_rfl
theorem clone_run (v : Int) (l : List Int) (hl : (v :: l).length ≤ 1000) : ∃ k, callN Try.prog pol k 52 [.imm .arg 1 ((v :: l).map encI)] [] = some (.sl 0 0 (v :: l).length none (v :: l).length 1, [bI (v :: l)]) := by
  have hb : ∀ (l : List Int), bndL (l.map encI) = 0 := by
    intro l
    induction l with
    | nil => rfl
    | cons a l ih => simp only [List.map_cons, bndL, ih, encI, bnd]; rfl
  have hap : appV [] 1 8 (.imm .lit 1 []) ((v :: l).map encI) = some (.sl 0 0 ((v :: l).map encI).length none ((v :: l).map encI).length 1, [.arr 1 ((v :: l).map encI) true 0]) := by
    have hne : (v :: l).map encI ≠ [] := by simp
    simp only [appV, if_neg hne]
    rw [if_pos ⟨.inr trivial, by simp only [List.length_nil, List.length_map, roomMax]; omega⟩, hb]
    simp
  have hnt : nilTest Try.prog .eql 23 (.imm .arg 1 ((v :: l).map encI)) = some (.bool false) := by
    have hu : Try.prog.underlying 23 = some (.slice 3) := u23
    simp only [nilTest, hu, knownNil, List.map_cons, nilOp]
  obtain ⟨m, h⟩ := cl_1 ((v :: l).map encI) hnt hap
  obtain ⟨e1, g1, g2⟩ := h m m (Nat.le_refl m) (Nat.le_refl m)
  refine ⟨m + 1, ?_⟩
  have hrc := resCell_sl (H := [bI (v :: l)]) (no := [0]) (b := 0) (k := 1) (m := (v :: l).length) (cap := none) (els := (v :: l).map encI) rfl (by simp) (mapO_self (fun r => frz_int 4 r) _)
  have hown : ownedAll [bI (v :: l)] false (.sl 0 0 (v :: l).length none (v :: l).length 1) = [0] := rfl
  have hpr : pureRun Try.prog pol (evC Try.prog pol (callN Try.prog pol m) m) 52 Try.f52 B52 [.imm .arg 1 ((v :: l).map encI)] = some (.own 1 ((v :: l).map encI)) := by
    unfold pureRun
    have hg1 : evC Try.prog pol (callN Try.prog pol m) m 52 B52 (args0 [.imm .arg 1 ((v :: l).map encI)]) [] = some (.ret, e1, [bI (v :: l)]) := g1
    rw [hg1]
    have hres : resultsV Try.prog Try.f52 e1 [bI (v :: l)] = some (.sl 0 0 (v :: l).length none (v :: l).length 1) := by
      have := resultsV_restr (P := Try.prog) (fn := Try.f52) (K := pol.keys 52) (e := e1) (H := [bI (v :: l)]) (by kernel_rfl)
      rw [← this, g2]
      simp only [resultsV, res52, mapO, resultV]
      simp [Env.get]
    simp only [hres]
    show toRes _ false _ = _
    simp only [toRes, hown, List.nodup_cons, List.not_mem_nil, not_false_eq_true, List.nodup_nil, and_self, if_true, resVal, hrc]
  have hp : pol.prim 52 = none := by kernel_rfl
  have hs : pol.shared 52 = false := by kernel_rfl
  have hf : Try.prog.funcs[52]? = some Try.f52 := by kernel_rfl
  have hbd : Try.f52.body = some B52 := by kernel_rfl
  have ha : toArg [] 6 (.imm .arg 1 ((v :: l).map encI)) = some (.imm .arg 1 ((v :: l).map encI)) := by
    show argP (.imm .arg 1 ((v :: l).map encI)) = _
    simp only [argP, argP_ints']
  have hno : ((v :: l).map encI).any isOwn = false := by
    rw [List.any_eq_false]
    intro v hv
    obtain ⟨k, _, rfl⟩ := List.mem_map.1 hv
    simp [encI, isOwn]
  simp only [callN, doCall, hp, hf, hbd, hs, Bool.false_eq_true, if_false, mapO, ha]
  have hpc : pureCall Try.prog pol (evC Try.prog pol (callN Try.prog pol m) m) 52 Try.f52 B52 [.imm .arg 1 ((v :: l).map encI)] = some (.own 1 ((v :: l).map encI)) := by
    unfold pureCall
    rw [if_pos (by kernel_rfl)]
    simp only [List.map_cons] at hpr ⊢
    exact hpr
  rw [hpc]
  simp only [recv, recvVal, recvCell, hno, List.length_map]
  rfl
theorem clone_ok : PrimOk Try.prog 52 clone52 := by
  refine primOk_of (pol := pol) sound (by kernel_rfl) fun args res h => ?_
  obtain ⟨l, rfl, hq⟩ := liF_inv h
  clear h
  split at hq
  · rename_i hl
    cases hq
    cases l with
    | nil => exact ⟨30, .sl 0 0 0 none 0 1, [.arr 1 [] true 0], false, by kernel_rfl, rfl⟩
    | cons v l =>
      obtain ⟨k, hk⟩ := clone_run v l hl
      exact ⟨k, _, _, false, hk, res_li (b := 0) rfl rfl⟩
  · cases hq
end Go.Proofs.Ytlendaofkmhgmaa
end
section
open Go Go.HL
namespace Go.Proofs.Ytlendaofkmhgmaa
theorem soundV (n : Nat) : CallSound Try.prog (callN Try.prog polV n) := sound_prim _ (fun g f h => by
  split at h
  · rename_i hg; cases h; rw [eq_of_beq hg]; exact miles_ok
  split at h
  · rename_i hg; cases h; rw [eq_of_beq hg]; exact mtour_ok
  split at h
  · rename_i hg; cases h; rw [eq_of_beq hg]; exact mlen_ok
  split at h
  · rename_i hg; cases h; rw [eq_of_beq hg]; exact clone_ok
  · cases h) n
theorem idx_off {b lo n tot j : Nat} (hj : j < n) : idxV Try.prog 23 (.sl b lo n none tot 1) (.int .i64 (j : Int)) = some (.ptr b (lo + j) 0 tot) := by
  simp only [idxV, u23, z3, Int.toNat_natCast]
  rw [if_pos ⟨by omega, by omega, trivial⟩]
structure Rv (o : List Int) (lo n i : Nat) (c : List Int) : Prop where
  len : c.length = o.length
  get : ∀ k, k < o.length → c.getD k 0 = if lo ≤ k ∧ k < lo + n ∧ (k < lo + i ∨ lo + n ≤ k + i) then o.getD (2 * lo + n - 1 - k) 0 else o.getD k 0
theorem Rv.zero (o : List Int) (lo n : Nat) : Rv o lo n 0 o := ⟨rfl, fun k hk => by rw [if_neg (by omega)]⟩
theorem getD_set (o : List Int) (i k : Nat) (v : Int) (hi : i < o.length) : (o.set i v).getD k 0 = if i = k then v else o.getD k 0 := by
  simp only [List.getD, List.getElem?_set]
  by_cases e : i = k
  · subst e; simp [hi]
  · simp [e]
theorem Rv.step {o c : List Int} {lo n i : Nat} (h : Rv o lo n i c) (hb : lo + n ≤ o.length) (hi : 2 * i + 1 < n) : Rv o lo n (i + 1) ((c.set (lo + i) (c.getD (lo + (n - 1 - i)) 0)).set (lo + (n - 1 - i)) (c.getD (lo + i) 0)) := by
  have hl := h.len
  refine ⟨by simp [hl], fun k hk => ?_⟩
  rw [getD_set _ _ _ _ (by rw [List.length_set]; omega), getD_set _ _ _ _ (by omega)]
  have e1 := h.get (lo + i) (by omega)
  have e2 := h.get (lo + (n - 1 - i)) (by omega)
  rw [if_neg (by omega)] at e1 e2
  by_cases c1 : lo + (n - 1 - i) = k
  · rw [if_pos c1, if_pos (by omega), e1]
    congr 1
    omega
  · rw [if_neg c1]
    by_cases c2 : lo + i = k
    · rw [if_pos c2, if_pos (by omega), e2]
      congr 1
      omega
    · rw [if_neg c2, h.get k hk]
      by_cases c3 : lo ≤ k ∧ k < lo + n ∧ (k < lo + i ∨ lo + n ≤ k + i)
      · rw [if_pos c3, if_pos (by omega)]
      · rw [if_neg c3, if_neg (by omega)]
theorem Rv.done {o c : List Int} {lo n i : Nat} (h : Rv o lo n i c) (hn : 1 ≤ n) (hb : lo + n ≤ o.length) (hi : n ≤ 2 * i + 1) : c = revP o lo (lo + n - 1) := by
  have hr := revP_len (l := o) (i := lo) (j := lo + n - 1) (by omega) (by omega)
  apply List.ext_getElem (by rw [hr]; exact h.len)
  intro k h1 h2
  have hk : k < o.length := by rw [← h.len]; exact h1
  have e := h.get k hk
  have e2 := revP_get (l := o) (i := lo) (j := lo + n - 1) (by omega) (by omega) k
  rw [List.getElem?_eq_getElem h2] at e2
  rw [← getD_at h1, e]
  by_cases c1 : lo ≤ k ∧ k ≤ lo + n - 1
  · rw [if_pos c1, List.getElem?_eq_getElem (by omega)] at e2
    have e3 := Option.some.inj e2
    rw [e3]
    by_cases c2 : k < lo + i ∨ lo + n ≤ k + i
    · rw [if_pos ⟨c1.1, by omega, c2⟩, getD_at (by omega)]
      congr 1
      omega
    · rw [if_neg (by omega), getD_at hk]
      congr 1
      omega
  · rw [if_neg c1, List.getElem?_eq_getElem hk] at e2
    rw [if_neg (by omega), getD_at hk]
    exact (Option.some.inj e2).symm
abbrev rvE (b lo n tot i j : Nat) : Env := env71 (.sl b lo n none tot 1) (.int .i64 (i : Int)) (.int .i64 (j : Int))
theorem rv_loop {b lo n : Nat} {o : List Int} (hn : 1 ≤ n) (hb : lo + n ≤ o.length) (h9 : o.length ≤ 1000) : ∀ (d i : Nat) (c : List Int) (H : Heap), 2 * i ≤ n → n - 2 * i ≤ 2 * d + 1 → H[b]? = some (bI c) → Rv o lo n i c →
    ∃ i' j', RunsTo Try.prog polV 71 (sub [1, 0] B71) (rvE b lo n o.length i (n - 1 - i)) H (.exit 0) (polV.keys 71) (rvE b lo n o.length i' j') (H.set b (bI (revP o lo (lo + n - 1)))) := by
  intro d
  induction d with
  | zero =>
    intro i c H h1 h2 hc hR
    have s1 := rv_l_1 b lo n o.length H i (n - 1 - i) (by omega)
    have hd := hR.done hn hb (by omega)
    have hH : H.set b (bI (revP o lo (lo + n - 1))) = H := by
      rw [← hd]
      apply List.ext_getElem?
      intro k
      rw [List.getElem?_set]
      split
      · rename_i hk
        subst hk
        rw [if_pos (lt_of_get hc)]
        exact hc.symm
      · rfl
    rw [hH]
    exact ⟨i, n - 1 - i, RunsTo.loop_out s1 (by simp) (by kernel_rfl) (by kernel_rfl)⟩
  | succ d ih =>
    intro i c H h1 h2 hc hR
    by_cases hlt : 2 * i + 1 < n
    · have hcl := hR.len
      have hbl := lt_of_get hc
      have ld1 := load_out hc (y := lo + (n - 1 - i)) (by omega)
      have ld2 := load_out hc (y := lo + i) (by omega)
      have st1 := store_out hc (y := lo + i) (by omega) (c.getD (lo + (n - 1 - i)) 0)
      have hc2 : (H.set b (bI (c.set (lo + i) (c.getD (lo + (n - 1 - i)) 0))))[b]? = some (bI (c.set (lo + i) (c.getD (lo + (n - 1 - i)) 0))) := List.getElem?_set_self hbl
      have st2 := store_out hc2 (y := lo + (n - 1 - i)) (by rw [List.length_set]; omega) (c.getD (lo + i) 0)
      rw [List.length_set, List.set_set, hcl] at st2
      rw [hcl] at ld1 ld2 st1
      have s1 := rv_l_0 b lo n o.length H i (n - 1 - i) _ _ _ _ (by omega) (idx_off (by omega)) ld1 (idx_off (by omega)) ld2 (idx_off (by omega)) st1 (idx_off (by omega)) st2
      rw [wrap_succ (by omega), wrap_pred (by omega) (by omega)] at s1
      obtain ⟨i', j', r⟩ := ih (i + 1) _ _ (by omega) (by omega) (List.getElem?_set_self hbl) (hR.step hb hlt)
      rw [List.set_set, show n - 1 - (i + 1) = n - 1 - i - 1 by omega] at r
      exact ⟨i', j', RunsTo.loop s1 (by kernel_rfl) (gc_eq _ (by simp)) r rfl (by kernel_rfl) (by kernel_rfl)⟩
    · have s1 := rv_l_1 b lo n o.length H i (n - 1 - i) (by omega)
      have hd := hR.done hn hb (by omega)
      have hH : H.set b (bI (revP o lo (lo + n - 1))) = H := by
        rw [← hd]
        apply List.ext_getElem?
        intro k
        rw [List.getElem?_set]
        split
        · rename_i hk
          subst hk
          rw [if_pos (lt_of_get hc)]
          exact hc.symm
        · rfl
      rw [hH]
      exact ⟨i, n - 1 - i, RunsTo.loop_out s1 (by simp) (by kernel_rfl) (by kernel_rfl)⟩
theorem res71 : Try.f71.results.toList = [] := by kernel_rfl
theorem rv_call {b lo n : Nat} {o : List Int} {H : Heap} (hn : 1 ≤ n) (hb : lo + n ≤ o.length) (h9 : o.length ≤ 1000) (hc : H[b]? = some (bI o)) : CallsTo (P := Try.prog) (pol := polV) 71 [.sl b lo n none o.length 1] H (.tuple []) (H.set b (bI (revP o lo (lo + n - 1)))) := by
  have a1 := rv_a_0 b lo n o.length H
  rw [wrap_pred (by omega) (by omega)] at a1
  obtain ⟨i', j', r⟩ := rv_loop hn hb h9 n 0 o H (by omega) (by omega) hc (Rv.zero o lo n)
  have t1 := RunsTo.seq a1 (RunsTo.block_exit (c := sub [1] B71) r (by kernel_rfl)) (c := B71) (by kernel_rfl) (by kernel_rfl)
  have := CallsTo.shared (P := Try.prog) (pol := polV) (g := 71) (fn := Try.f71) (cd := B71) (args := [.sl b lo n none o.length 1]) (v := .tuple []) (by kernel_rfl) (by kernel_rfl) (by kernel_rfl) (by kernel_rfl) t1 (by kernel_rfl) (by simp) (by simp only [resultsV, res71, mapO])
  rw [gc_eq _ (by simp)] at this
  exact this
theorem mxs_app : ∀ (H : Heap) (l : List Int), mxs (H ++ [bI l]) = mxs H
  | [], l => by simp [mxs, Blk.mx]
  | B :: H, l => by
    have := mxs_app H l
    simp only [List.cons_append, mxs, this]
theorem gc_drop {H : Heap} {l : List Int} {r : Nat} (h0 : mxs H = 0) (hr : r ≤ H.length) : gc H.length r (H ++ [bI l]) = H := by
  unfold gc
  rw [mxs_app, h0, Nat.max_eq_left (by omega), List.take_left]
theorem gc_keep {H : Heap} {l : List Int} {r : Nat} (hr : H.length + 1 ≤ r) : gc H.length r (H ++ [bI l]) = H ++ [bI l] := by
  unfold gc
  rw [List.take_of_length_le (by rw [List.length_append, List.length_singleton]; omega)]
section
variable {d : List (List Int)} {l : List Int} {b : Nat} {H : Heap}
abbrev shE (d : List (List Int)) (b n : Nat) (v6 v7 v8 v9 : HV) : Env := env58 (.imm .arg 1 (d.map encR)) (.sl b 0 n none n 1) (.imm .lit 1 []) (.bool false) v6 v7 v8 v9
end
section
variable {d : List (List Int)} {l : List Int} {b : Nat} {H : Heap}
theorem prim_clone (h9 : l.length ≤ 1000) (hb : H[b]? = some (bI l)) : ∀ k, callN Try.prog polV (k + 1) 52 [.sl b 0 l.length none l.length 1] H = some (.sl H.length 0 l.length none l.length 1, H ++ [bI l]) := fun k => by
  rw [prim_call (pol := polV) (g := 52) (F := clone52) (by kernel_rfl) (rs := [.imm .arg 1 (l.map encI)]) (by simp only [mapO, arg_sl rfl hb]) (res := .own 1 (l.map encI)) (by simp only [clone52, liF, mapO_map decI_enc]; rw [if_pos h9]), recv_ints]
end
section
variable {d : List (List Int)} {l : List Int} {b : Nat} {H : Heap}
theorem slice_sl {cb i j n : Nat} (h1 : i ≤ j) (h2 : j ≤ n) : sliceV Try.prog 23 (.sl cb 0 n none n 1) (some (.int .i64 (i : Int))) (some (.int .i64 (j : Int))) none = some (.sl cb i (j - i) none n 1) := by
  simp only [sliceV, boundV, u23, z3]
  rw [if_pos (by omega), if_pos (by omega)]
  simp [h1, h2]
end
section
variable {d : List (List Int)} {l : List Int} {b : Nat} {H : Heap}
theorem sh_in (h1 : okD d) (h2 : inT d.length l) (hl : l.length ≤ 500) (hb : H[b]? = some (bI l)) (h0 : mxs H = 0) {i : Nat} (hi : i < l.length) : ∀ (k j : Nat), i < j → j + k = l.length →
    (btJ d l i k j = none ∧ RunsTo Try.prog polV 58 (sub [1, 1, 0, 1, 0, 0, 1, 0, 0, 1, 0] B58) (shE d b l.length (.int .i64 (lenT d l)) (.int .i64 (i : Int)) (.int .i64 (j : Int)) .undef) H (.exit 2) (polV.keys 58) (shE d b l.length (.int .i64 (lenT d l)) (.int .i64 (i : Int)) (.int .i64 (l.length : Int)) .undef) H) ∨
    ∃ r E, btJ d l i k j = some r ∧ RunsTo Try.prog polV 58 (sub [1, 1, 0, 1, 0, 0, 1, 0, 0, 1, 0] B58) (shE d b l.length (.int .i64 (lenT d l)) (.int .i64 (i : Int)) (.int .i64 (j : Int)) .undef) H .ret (polV.keys 58) E (H ++ [bI r]) ∧ E.get 4 = .sl H.length 0 l.length none l.length 1 ∧ E.get 5 = .bool true := by
  intro k
  induction k with
  | zero =>
    intro j hij hj
    have hj : j = l.length := by omega
    subst hj
    exact .inl ⟨rfl, RunsTo.loop_out (sh_l_2 0 (d.map encR) b l.length H (lenT d l) i l.length 0 (by omega)) (by simp) (by kernel_rfl) (by kernel_rfl)⟩
  | succ k ih =>
    intro j hij hj
    have hjl : j < l.length := by omega
    have hrl := revP_len (l := l) (i := i) (j := j) (by omega) hjl
    have hcb : (H ++ [bI l])[H.length]? = some (bI l) := by rw [List.getElem?_append_right (Nat.le_refl _)]; simp
    have g1 := prim_clone (H := H) (b := b) (l := l) (by omega) hb
    have g2 := slice_sl (cb := H.length) (i := i) (j := j + 1) (n := l.length) (by omega) (by omega)
    rw [← wrap_succ (j := j) (by omega)] at g2
    have hrv := rv_call (b := H.length) (lo := i) (n := j + 1 - i) (o := l) (H := H ++ [bI l]) (by omega) (by omega) (by omega) hcb
    rw [show i + (j + 1 - i) - 1 = j by omega] at hrv
    have hset : (H ++ [bI l]).set H.length (bI (revP l i j)) = H ++ [bI (revP l i j)] := by rw [List.set_append_right _ _ (Nat.le_refl _), Nat.sub_self]; rfl
    rw [hset] at hrv
    obtain ⟨N, hN⟩ := CallsTo.from hrv
    have hcr : (H ++ [bI (revP l i j)])[H.length]? = some (bI (revP l i j)) := by rw [List.getElem?_append_right (Nat.le_refl _)]; simp
    have ha := arg_sl (m := l.length) hrl hcr
    have g4 := prim_mlen (pol' := polV) (g := 56) (by kernel_rfl) h1 (inT_rev (i := i) (j := j) (by omega) hjl h2) (by omega) ha
    rw [btJ]
    by_cases c : lenT d (revP l i j) < lenT d l
    · rw [if_pos c]
      exact .inr ⟨_, _, rfl, RunsTo.loop_out (sh_l_0 N (d.map encR) b l.length H (lenT d l) i j H.length _ _ _ _ (by omega) (fun kf _ => g1 kf) g2 hN (fun kf _ => g4 kf) c) (by simp) (by kernel_rfl) (by kernel_rfl), rfl, rfl⟩
    · rw [if_neg c]
      have s1 := sh_l_1 N (d.map encR) b l.length H (lenT d l) i j H.length _ _ _ _ (by omega) (fun kf _ => g1 kf) g2 hN (fun kf _ => g4 kf) c
      rw [wrap_succ (by omega)] at s1
      have hbl := lt_of_get hb
      have up : ∀ {x E H'}, RunsTo Try.prog polV 58 (sub [1, 1, 0, 1, 0, 0, 1, 0, 0, 1, 0] B58) (shE d b l.length (.int .i64 (lenT d l)) (.int .i64 (i : Int)) (.int .i64 ((j + 1 : Nat) : Int)) .undef) H x (polV.keys 58) E H' → RunsTo Try.prog polV 58 (sub [1, 1, 0, 1, 0, 0, 1, 0, 0, 1, 0] B58) (shE d b l.length (.int .i64 (lenT d l)) (.int .i64 (i : Int)) (.int .i64 (j : Int)) .undef) H x (polV.keys 58) E H' := fun r =>
        RunsTo.loop s1 (by kernel_rfl) (gc_drop (l := revP l i j) h0 (r := bndE (shE d b l.length (.int .i64 (lenT d l)) (.int .i64 (i : Int)) (.int .i64 ((j + 1 : Nat) : Int)) .undef)) (by simp only [bndE, bnd, bndL]; omega)) r rfl (by kernel_rfl) (by kernel_rfl)
      rcases ih (j + 1) (by omega) (by omega) with ⟨e1, e2⟩ | ⟨r, E, e1, e2, e3⟩
      · exact .inl ⟨e1, up e2⟩
      · exact .inr ⟨r, E, e1, up e2, e3⟩
end
section
variable {d : List (List Int)} {l : List Int} {b : Nat} {H : Heap}
theorem sh_out (h1 : okD d) (h2 : inT d.length l) (hl : l.length ≤ 500) (hb : H[b]? = some (bI l)) (h0 : mxs H = 0) : ∀ (k i : Nat), i + k = l.length →
    (btI d l k i = none ∧ RunsTo Try.prog polV 58 (sub [1, 1, 0, 1, 0] B58) (shE d b l.length (.int .i64 (lenT d l)) (.int .i64 (i : Int)) .undef .undef) H (.exit 0) (polV.keys 58) (shE d b l.length (.int .i64 (lenT d l)) (.int .i64 (l.length : Int)) .undef .undef) H) ∨
    ∃ r E, btI d l k i = some r ∧ RunsTo Try.prog polV 58 (sub [1, 1, 0, 1, 0] B58) (shE d b l.length (.int .i64 (lenT d l)) (.int .i64 (i : Int)) .undef .undef) H .ret (polV.keys 58) E (H ++ [bI r]) ∧ E.get 4 = .sl H.length 0 l.length none l.length 1 ∧ E.get 5 = .bool true := by
  intro k
  induction k with
  | zero =>
    intro i hi
    have hi : i = l.length := by omega
    subst hi
    exact .inl ⟨rfl, RunsTo.loop_out (RunsTo.seq_out (sh_d_1 0 (d.map encR) b l.length H (lenT d l) l.length (by omega)) (by simp) (c := sub [1, 1, 0, 1, 0, 0] B58) (b := sub [1, 1, 0, 1, 0, 0, 1] B58) (by kernel_rfl)) (by simp) (by kernel_rfl) (by kernel_rfl)⟩
  | succ k ih =>
    intro i hi
    have hil : i < l.length := by omega
    have c1 := sh_d_0 0 (d.map encR) b l.length H (lenT d l) i (by omega)
    have d1 := sh_e_0 0 (d.map encR) b l.length H (lenT d l) i
    rw [wrap_succ (by omega)] at d1
    rw [btI]
    rcases sh_in h1 h2 hl hb h0 hil (l.length - (i + 1)) (i + 1) (by omega) (by omega) with ⟨e1, r1⟩ | ⟨r, E, e1, r1, e3⟩
    · rw [e1]
      have r1' := RunsTo.loop_in (e0 := shE d b l.length (.int .i64 (lenT d l)) (.int .i64 (i : Int)) (.int .i64 ((i + 1 : Nat) : Int)) .undef) r1 (b := sub [1, 1, 0, 1, 0, 0, 1, 0, 0, 1, 0, 0] B58) (by kernel_rfl) (by kernel_rfl) (by kernel_rfl)
      have n1 := sh_f_0 0 (d.map encR) b l.length H (lenT d l) i l.length 0
      rw [wrap_succ (by omega)] at n1
      have t1 := RunsTo.seq d1 (RunsTo.block_exit (c := sub [1, 1, 0, 1, 0, 0, 1, 0, 0, 1] B58) r1' (by kernel_rfl)) (c := sub [1, 1, 0, 1, 0, 0, 1, 0, 0] B58) (by kernel_rfl) (by kernel_rfl)
      have t2 := RunsTo.block_normal (i := 1) (c := sub [1, 1, 0, 1, 0, 0, 1, 0] B58) t1 (by kernel_rfl)
      have t3 := RunsTo.seq c1 (RunsTo.seq t2 n1 (c := sub [1, 1, 0, 1, 0, 0, 1] B58) (by kernel_rfl) (by kernel_rfl)) (c := sub [1, 1, 0, 1, 0, 0] B58) (by kernel_rfl) (by kernel_rfl)
      have up : ∀ {x E H'}, RunsTo Try.prog polV 58 (sub [1, 1, 0, 1, 0] B58) (shE d b l.length (.int .i64 (lenT d l)) (.int .i64 ((i + 1 : Nat) : Int)) .undef .undef) H x (polV.keys 58) E H' → RunsTo Try.prog polV 58 (sub [1, 1, 0, 1, 0] B58) (shE d b l.length (.int .i64 (lenT d l)) (.int .i64 (i : Int)) .undef .undef) H x (polV.keys 58) E H' := fun r =>
        RunsTo.loop t3 (by kernel_rfl) (gc_eq _ rfl) r rfl (by kernel_rfl) (by kernel_rfl)
      rcases ih (i + 1) (by omega) with ⟨q1, q2⟩ | ⟨r, E, q1, q2, q3⟩
      · exact .inl ⟨q1, up q2⟩
      · exact .inr ⟨r, E, q1, up q2, q3⟩
    · rw [e1]
      have r1' := RunsTo.loop_in (e0 := shE d b l.length (.int .i64 (lenT d l)) (.int .i64 (i : Int)) (.int .i64 ((i + 1 : Nat) : Int)) .undef) r1 (b := sub [1, 1, 0, 1, 0, 0, 1, 0, 0, 1, 0, 0] B58) (by kernel_rfl) (by kernel_rfl) (by kernel_rfl)
      have t1 := RunsTo.seq d1 (RunsTo.block_ret (c := sub [1, 1, 0, 1, 0, 0, 1, 0, 0, 1] B58) (i := 2) r1' (by kernel_rfl)) (c := sub [1, 1, 0, 1, 0, 0, 1, 0, 0] B58) (by kernel_rfl) (by kernel_rfl)
      have t2 := RunsTo.block_ret (i := 1) (c := sub [1, 1, 0, 1, 0, 0, 1, 0] B58) t1 (by kernel_rfl)
      have t3 := RunsTo.seq c1 (RunsTo.seq_out t2 (by simp) (c := sub [1, 1, 0, 1, 0, 0, 1] B58) (b := sub [1, 1, 0, 1, 0, 0, 1, 1] B58) (by kernel_rfl)) (c := sub [1, 1, 0, 1, 0, 0] B58) (by kernel_rfl) (by kernel_rfl)
      exact .inr ⟨r, E, rfl, RunsTo.loop_out t3 (by simp) (by kernel_rfl) (by kernel_rfl), e3⟩
end
section
variable {d : List (List Int)} {l : List Int} {b : Nat} {H : Heap}
theorem res58 : Try.f58.results.toList = [.tmp 4, .tmp 5] := by kernel_rfl
end
section
variable {d : List (List Int)} {l : List Int} {b : Nat} {H : Heap}
theorem sh_call (h1 : okD d) (h2 : inT d.length l) (hl : 1 ≤ l.length ∧ l.length ≤ 500) (hb : H[b]? = some (bI l)) (h0 : mxs H = 0) :
    (bett d l = none ∧ CallsTo (P := Try.prog) (pol := polV) 58 [.imm .arg 1 (d.map encR), .sl b 0 l.length none l.length 1] H (.tuple [.sl b 0 l.length none l.length 1, .bool false]) H) ∨
    ∃ r, bett d l = some r ∧ CallsTo (P := Try.prog) (pol := polV) 58 [.imm .arg 1 (d.map encR), .sl b 0 l.length none l.length 1] H (.tuple [.sl H.length 0 l.length none l.length 1, .bool true]) (H ++ [bI r]) := by
  have g := prim_mlen (pol' := polV) (g := 56) (by kernel_rfl) h1 h2 (by omega) (arg_sl (m := l.length) rfl hb)
  have a1 := sh_a_0 0 (d.map encR) b l.length H
  have b1 := sh_b_0 0 (d.map encR) b l.length H _ _ (fun kf _ => g kf)
  have c1 := sh_c_0 0 (d.map encR) b l.length H (lenT d l)
  rw [bett]
  rcases sh_out h1 h2 hl.2 hb h0 (l.length - 1) 1 (by omega) with ⟨e1, r1⟩ | ⟨r, E, e1, r1, e3, e4⟩
  · have z1 := sh_z_0 0 (d.map encR) b l.length H (lenT d l) l.length
    have t1 := RunsTo.seq c1 (RunsTo.block_exit (c := sub [1, 1, 0, 1] B58) r1 (by kernel_rfl)) (c := sub [1, 1, 0] B58) (by kernel_rfl) (by kernel_rfl)
    have t2 := RunsTo.seq a1 (RunsTo.seq b1 (RunsTo.seq t1 z1 (c := sub [1, 1] B58) (by kernel_rfl) (by kernel_rfl)) (c := sub [1] B58) (by kernel_rfl) (by kernel_rfl)) (c := B58) (by kernel_rfl) (by kernel_rfl)
    have := CallsTo.shared (P := Try.prog) (pol := polV) (g := 58) (fn := Try.f58) (cd := B58) (args := [.imm .arg 1 (d.map encR), .sl b 0 l.length none l.length 1]) (v := .tuple [.sl b 0 l.length none l.length 1, .bool false]) (by kernel_rfl) (by kernel_rfl) (by kernel_rfl) (by kernel_rfl) t2 (by kernel_rfl) (by simp) (by simp only [resultsV, res58]; rfl)
    rw [gc_eq _ rfl] at this
    exact .inl ⟨e1, this⟩
  · have t1 := RunsTo.seq c1 (RunsTo.block_ret (c := sub [1, 1, 0, 1] B58) (i := 0) r1 (by kernel_rfl)) (c := sub [1, 1, 0] B58) (by kernel_rfl) (by kernel_rfl)
    have t2 := RunsTo.seq a1 (RunsTo.seq b1 (RunsTo.seq_out t1 (by simp) (c := sub [1, 1] B58) (b := sub [1, 1, 1] B58) (by kernel_rfl)) (c := sub [1] B58) (by kernel_rfl) (by kernel_rfl)) (c := B58) (by kernel_rfl) (by kernel_rfl)
    have := CallsTo.shared (P := Try.prog) (pol := polV) (g := 58) (fn := Try.f58) (cd := B58) (args := [.imm .arg 1 (d.map encR), .sl b 0 l.length none l.length 1]) (v := .tuple [.sl H.length 0 l.length none l.length 1, .bool true]) (by kernel_rfl) (by kernel_rfl) (by kernel_rfl) (by kernel_rfl) t2 (by kernel_rfl) (by simp) (by simp only [resultsV, res58, mapO, resultV, e3, e4])
    rw [gc_keep (by simp only [bnd, bndL]; omega)] at this
    exact .inr ⟨r, e1, this⟩
end
end Go.Proofs.Ytlendaofkmhgmaa
end
section
open Go Go.HL
namespace Go.Proofs.Ytlendaofkmhgmaa
section
variable {d : List (List Int)}
theorem btJ_some {l : List Int} {i : Nat} {r : List Int} : ∀ (k j : Nat), btJ d l i k j = some r → ∃ j', j ≤ j' ∧ j' < j + k ∧ r = revP l i j' ∧ lenT d r < lenT d l
  | 0, _, h => by cases h
  | k + 1, j, h => by
    rw [btJ] at h
    split at h
    · rename_i c
      cases h
      exact ⟨j, Nat.le_refl _, by omega, rfl, c⟩
    · obtain ⟨j', h1, h2, h3⟩ := btJ_some k (j + 1) h
      exact ⟨j', by omega, by omega, h3⟩
end
section
variable {d : List (List Int)}
theorem btI_some {l r : List Int} : ∀ (k i : Nat), i + k = l.length → btI d l k i = some r → ∃ i' j', i ≤ i' ∧ i' ≤ j' ∧ j' < l.length ∧ r = revP l i' j' ∧ lenT d r < lenT d l
  | 0, _, _, h => by cases h
  | k + 1, i, hi, h => by
    rw [btI] at h
    split at h
    · rename_i r' hr
      cases h
      obtain ⟨j', h1, h2, h3, h4⟩ := btJ_some _ _ hr
      exact ⟨i, j', Nat.le_refl _, by omega, by omega, h3, h4⟩
    · obtain ⟨i', j', h1, h2⟩ := btI_some k (i + 1) (by omega) h
      exact ⟨i', j', by omega, h2⟩
end
section
variable {d : List (List Int)}
theorem bett_some {l r : List Int} (hl : 1 ≤ l.length) (h : bett d l = some r) : ∃ i j, 1 ≤ i ∧ i ≤ j ∧ j < l.length ∧ r = revP l i j ∧ lenT d r < lenT d l := btI_some _ _ (by omega) h
end
section
variable {d : List (List Int)}
theorem lenGo_nn (h : okD d) {l : List Int} (hl : inT d.length l) : ∀ (k j : Nat) (s : Int), j + k = l.length → 0 ≤ s → 0 ≤ lenGo d l k j s
  | 0, _, _, _, h => h
  | k + 1, j, s, hj, hs => by
    rw [lenGo]
    obtain ⟨a, b, ha, hb, ⟨a0, a1⟩, ⟨b0, b1⟩, hm⟩ := len_args h hl (j := j) (by omega)
    rw [ha, hb]
    have := at_bd h a1 b1
    exact lenGo_nn h hl k (j + 1) _ (by omega) (by omega)
end
section
variable {d : List (List Int)}
theorem lenT_nn (h : okD d) {l : List Int} (hl : inT d.length l) : 0 ≤ lenT d l := lenGo_nn h hl _ _ _ (by omega) (Int.le_refl _)
end
section
variable {d : List (List Int)}
theorem bett_ok (h : okD d) {l r : List Int} (hl : inT d.length l) (h1 : 1 ≤ l.length) (hb : bett d l = some r) : r.length = l.length ∧ inT d.length r ∧ (lenT d r).toNat < (lenT d l).toNat := by
  obtain ⟨i, j, _, h2, h3, rfl, h4⟩ := bett_some h1 hb
  have := lenT_nn h (inT_rev h2 h3 hl)
  exact ⟨revP_len h2 h3, inT_rev h2 h3 hl, by omega⟩
end
section
variable {d : List (List Int)}
theorem impF_succ (h : okD d) : ∀ (k : Nat) (l : List Int), inT d.length l → 1 ≤ l.length → (lenT d l).toNat ≤ k → impF d k l = impF d (k + 1) l
  | 0, l, hl, h1, hk => by
    cases hb : bett d l with
    | none => rw [impF, impF, hb]
    | some r =>
      have := (bett_ok h hl h1 hb).2.2
      omega
  | k + 1, l, hl, h1, hk => by
    rw [impF]
    cases hb : bett d l with
    | none => rw [impF, hb]
    | some r =>
      obtain ⟨e1, e2, e3⟩ := bett_ok h hl h1 hb
      rw [impF, hb]
      exact impF_succ h k r e2 (by omega) (by omega)
end
section
variable {d : List (List Int)}
theorem impF_fuel (h : okD d) {l : List Int} (hl : inT d.length l) (h1 : 1 ≤ l.length) : ∀ k : Nat, impF d ((lenT d l).toNat + k) l = impT d l
  | 0 => rfl
  | k + 1 => by
    rw [← Nat.add_assoc, ← impF_succ h _ l hl h1 (by omega)]
    exact impF_fuel h hl h1 k
end
section
variable {d : List (List Int)}
theorem impT_none {l : List Int} (hb : bett d l = none) : impT d l = l := by
  unfold impT
  cases hk : (lenT d l).toNat with
  | zero => rfl
  | succ k => rw [impF, hb]
end
section
variable {d : List (List Int)}
theorem impT_some (h : okD d) {l r : List Int} (hl : inT d.length l) (h1 : 1 ≤ l.length) (hb : bett d l = some r) : impT d l = impT d r := by
  obtain ⟨e1, e2, e3⟩ := bett_ok h hl h1 hb
  unfold impT
  obtain ⟨k, hk⟩ : ∃ k, (lenT d l).toNat = ((lenT d r).toNat + k) + 1 := ⟨(lenT d l).toNat - (lenT d r).toNat - 1, by omega⟩
  rw [hk, impF, hb]
  exact impF_fuel h e2 (by omega) k
end
section
variable {d : List (List Int)} {l0 : List Int}
abbrev ipE (d : List (List Int)) (l0 : List Int) (b n : Nat) (v7 : HV) : Env := env35 (.imm .arg 1 (d.map encR)) (.imm .arg 1 (l0.map encI)) (.imm .lit 1 []) (.int .i64 0) (.sl b 0 n none n 1) v7
end
section
variable {d : List (List Int)} {l0 : List Int}
theorem ip_loop (h : okD d) : ∀ (N : Nat) (l : List Int) (b : Nat) (H : Heap), (lenT d l).toNat ≤ N → inT d.length l → (1 ≤ l.length ∧ l.length ≤ 500) → H[b]? = some (bI l) → mxs H = 0 →
    ∃ b' H', RunsTo Try.prog polV 35 (sub [1, 1, 1, 0, 1, 0] B35) (ipE d l0 b l.length (.bool true)) H (.exit 0) (polV.keys 35) (ipE d l0 b' l.length (.bool false)) H' ∧ H'[b']? = some (bI (impT d l)) ∧ (impT d l).length = l.length := by
  intro N
  induction N with
  | zero =>
    intro l b H hN hl h1 hb h0
    rcases sh_call h hl h1 hb h0 with ⟨e1, e2⟩ | ⟨r, e1, e2⟩
    · obtain ⟨M, hM⟩ := CallsTo.from e2
      have s1 := ip_lt_1 M (d.map encR) (l0.map encI) b l.length H b H hM
      have s2 := ip_lf_0 0 (d.map encR) (l0.map encI) b l.length H
      rw [impT_none e1]
      exact ⟨b, H, RunsTo.loop s1 (by kernel_rfl) (gc_eq _ rfl) (RunsTo.loop_out s2 (by simp) (by kernel_rfl) (by kernel_rfl)) rfl (by kernel_rfl) (by kernel_rfl), hb, rfl⟩
    · have := (bett_ok h hl h1.1 e1).2.2
      omega
  | succ N ih =>
    intro l b H hN hl h1 hb h0
    rcases sh_call h hl h1 hb h0 with ⟨e1, e2⟩ | ⟨r, e1, e2⟩
    · obtain ⟨M, hM⟩ := CallsTo.from e2
      have s1 := ip_lt_1 M (d.map encR) (l0.map encI) b l.length H b H hM
      have s2 := ip_lf_0 0 (d.map encR) (l0.map encI) b l.length H
      rw [impT_none e1]
      exact ⟨b, H, RunsTo.loop s1 (by kernel_rfl) (gc_eq _ rfl) (RunsTo.loop_out s2 (by simp) (by kernel_rfl) (by kernel_rfl)) rfl (by kernel_rfl) (by kernel_rfl), hb, rfl⟩
    · obtain ⟨M, hM⟩ := CallsTo.from e2
      obtain ⟨q1, q2, q3⟩ := bett_ok h hl h1.1 e1
      have s1 := ip_lt_0 M (d.map encR) (l0.map encI) b l.length H H.length _ hM
      obtain ⟨b', H', r1, r2, r3⟩ := ih r H.length (H ++ [bI r]) (by omega) q2 (by omega) (by rw [List.getElem?_append_right (Nat.le_refl _)]; simp) (by rw [mxs_app]; exact h0)
      rw [q1] at r1 r3
      rw [impT_some h hl h1.1 e1]
      exact ⟨b', H', RunsTo.loop s1 (by kernel_rfl) (gc_keep (l := r) (by simp only [bndE, bnd, bndL]; omega)) r1 rfl (by kernel_rfl) (by kernel_rfl), r2, r3⟩
end
theorem toRes_li0 {H : Heap} {b k : Nat} {o : List Int} (hb : H[b]? = some (bI o)) (hk : o.length = k) (e : Int) : toRes H false (.tuple [.sl b 0 k none k 1, .int .i64 e]) = some (.tuple [.own 1 (o.map encI), .int .i64 e]) := by
  have hr := resCell_sl (H := H) (no := [b]) (b := b) (k := 1) (m := k) (cap := none) (els := o.map encI) hb (by simpa using hk) (mapO_self (fun r => frz_int 4 r) _)
  have ho : ownedAll H false (.tuple [.sl b 0 k none k 1, .int .i64 e]) = [b] := by simp [ownedAll, cellsOf, owned, hb]
  simp only [toRes, ho, List.nodup_cons, List.not_mem_nil, not_false_eq_true, List.nodup_nil, and_self, if_true, mapO, resVal, hr]
  rfl
theorem res35 : Try.f35.results.toList = [.tmp 4, .tmp 5] := by kernel_rfl
theorem improve_ok : PrimOk Try.prog 35 improve35 := by
  refine primOk_pure (pol := polV) (fn := Try.f35) (cd := B35) follows_mixed soundV (by kernel_rfl) (by kernel_rfl) (fnok polV.prim _ _ (by kernel_rfl)) (by kernel_rfl) ?_
  intro args res h
  obtain ⟨d, l, rfl, hq⟩ := rlF_inv h
  clear h
  split at hq
  · rename_i hc
    cases hq
    have a1 := ip_a_0 0 (d.map encR) (l.map encI)
    by_cases c1 : okD d
    · have m1 := prim_miles (pol' := polV) (by kernel_rfl) hc.1 hc.2.1 [] true (okB_true c1)
      by_cases c2 : trOk d.length l = true
      · rw [if_pos ⟨c1, c2⟩]
        have m2 := prim_mtour (pol' := polV) (by kernel_rfl) c1.1.1 hc.2.2 [] true c2
        obtain ⟨t1, t2, t3, t4⟩ := trOk_iff.1 c2
        have hl : 1 ≤ l.length ∧ l.length ≤ 500 := by have := c1.1; omega
        have b1 := ip_b_0 0 (d.map encR) (l.map encI) m1 m2
        have hcl : ∀ k, callN Try.prog polV (k + 1) 52 [.imm .arg 1 (l.map encI)] [] = some (.sl 0 0 l.length none l.length 1, [bI l]) := fun k => by
          rw [prim_call (pol := polV) (g := 52) (F := clone52) (by kernel_rfl) (rs := [.imm .arg 1 (l.map encI)]) (by simp only [mapO, arg_li]) (res := .own 1 (l.map encI)) (by simp only [clone52, liF, mapO_map decI_enc]; rw [if_pos hc.2.2]), recv_ints]
          rfl
        have cc := ip_c_0 0 (d.map encR) (l.map encI) l.length (l.map encI) hcl
        have dd := ip_d_0 0 (d.map encR) (l.map encI) 0 l.length [bI l]
        obtain ⟨b', H', r1, r2, r3⟩ := ip_loop (l0 := l) c1 (lenT d l).toNat l 0 [bI l] (Nat.le_refl _) t3 hl rfl (by simp [mxs, Blk.mx])
        have z1 := ip_z_0 0 (d.map encR) (l.map encI) b' l.length H'
        have q1 := RunsTo.seq dd (RunsTo.block_exit (c := sub [1, 1, 1, 0, 1] B35) r1 (by kernel_rfl)) (c := sub [1, 1, 1, 0] B35) (by kernel_rfl) (by kernel_rfl)
        have q2 := RunsTo.seq cc (RunsTo.seq q1 z1 (c := sub [1, 1, 1] B35) (by kernel_rfl) (by kernel_rfl)) (c := sub [1, 1] B35) (by kernel_rfl) (by kernel_rfl)
        have q3 := RunsTo.seq a1 (RunsTo.seq b1 q2 (c := sub [1] B35) (by kernel_rfl) (by kernel_rfl)) (c := B35) (by kernel_rfl) (by kernel_rfl)
        exact ⟨_, _, _, .tuple [.sl b' 0 l.length none l.length 1, .int .i64 0], q3, by simp, by simp only [resultsV, res35]; rfl, toRes_li0 r2 r3 0⟩
      · rw [if_neg (fun h => c2 h.2)]
        have m2 := prim_mtour (pol' := polV) (by kernel_rfl) c1.1.1 hc.2.2 [] false (nb_false c2)
        exact ⟨_, _, _, _, RunsTo.seq a1 (RunsTo.seq_out (ip_b_1 0 (d.map encR) (l.map encI) m1 m2) (by simp) (c := sub [1] B35) (b := sub [1, 1] B35) (by kernel_rfl)) (c := B35) (by kernel_rfl) (by kernel_rfl), by simp, by simp only [resultsV, res35]; rfl, rfl⟩
    · rw [if_neg (fun h => c1 h.1)]
      have m1 := prim_miles (pol' := polV) (by kernel_rfl) hc.1 hc.2.1 [] false (okB_false c1)
      exact ⟨_, _, _, _, RunsTo.seq a1 (RunsTo.seq_out (ip_b_2 0 (d.map encR) (l.map encI) m1) (by simp) (c := sub [1] B35) (b := sub [1, 1] B35) (by kernel_rfl)) (c := B35) (by kernel_rfl) (by kernel_rfl), by simp, by simp only [resultsV, res35]; rfl, rfl⟩
  · cases hq
section
variable {d : List (List Int)} {xb xn : Nat}
abbrev riE (xb xn b n : Nat) (v5 : HV) : Env := env38 (.sl xb 0 xn none xn 1) (.sl b 0 n none n 1) (.imm .lit 1 []) v5
end
section
variable {d : List (List Int)} {xb xn : Nat}
theorem prim_better (h : okD d) {l : List Int} {b : Nat} {H : Heap} (hl : inT d.length l) (h1 : 1 ≤ l.length ∧ l.length ≤ 500) (hx : H[xb]? = some (.arr 1 (d.map encO) true 0)) (hn : d.length = xn) (hb : H[b]? = some (bI l)) : ∀ k, callN Try.prog polZ (k + 1) 59 [.sl xb 0 xn none xn 1, .sl b 0 l.length none l.length 1] H = some (.sl H.length 0 ((bett d l).getD []).length none ((bett d l).getD []).length 1, H ++ [bI ((bett d l).getD [])]) := fun k => by
  rw [prim_call (pol := polZ) (g := 59) (F := better59) (by kernel_rfl) (rs := [.imm .arg 1 (d.map encR), .imm .arg 1 (l.map encI)]) (by simp only [mapO, arg_rs hn hx, arg_sl rfl hb]) (res := .own 1 (((bett d l).getD []).map encI)) (by simp only [better59, rlF, mapO_map decR_enc, mapO_map decI_enc]; rw [if_pos ⟨h, hl, h1⟩]), recv_ints]
end
section
variable {d : List (List Int)} {xb xn : Nat}
theorem ri_loop (h : okD d) (hn : d.length = xn) : ∀ (N : Nat) (l : List Int) (b : Nat) (H : Heap), (lenT d l).toNat ≤ N → inT d.length l → (1 ≤ l.length ∧ l.length ≤ 500) → H[xb]? = some (.arr 1 (d.map encO) true 0) → H[b]? = some (bI l) →
    ∃ b' H' E, RunsTo Try.prog polZ 38 (sub [1, 0] B38) (riE xb xn b l.length .undef) H .ret (polZ.keys 38) E H' ∧ E.get 4 = .sl b' 0 l.length none l.length 1 ∧ H'[b']? = some (bI (impT d l)) ∧ ∀ k, k < H.length → H'[k]? = H[k]? := by
  intro N
  induction N with
  | zero =>
    intro l b H hN hl h1 hx hb
    have g := prim_better h hl h1 hx hn hb
    cases e1 : bett d l with
    | none =>
      rw [e1] at g
      have s1 := ri_l_0 0 xb xn b l.length H.length 0 H _ (fun kf _ => g kf) rfl
      rw [impT_none e1]
      exact ⟨b, _, _, RunsTo.loop_out s1 (by simp) (by kernel_rfl) (by kernel_rfl), rfl, by rw [List.getElem?_append_left (lt_of_get hb)]; exact hb, fun k hk => List.getElem?_append_left hk⟩
    | some r =>
      have := (bett_ok h hl h1.1 e1).2.2
      omega
  | succ N ih =>
    intro l b H hN hl h1 hx hb
    have g := prim_better h hl h1 hx hn hb
    cases e1 : bett d l with
    | none =>
      rw [e1] at g
      have s1 := ri_l_0 0 xb xn b l.length H.length 0 H _ (fun kf _ => g kf) rfl
      rw [impT_none e1]
      exact ⟨b, _, _, RunsTo.loop_out s1 (by simp) (by kernel_rfl) (by kernel_rfl), rfl, by rw [List.getElem?_append_left (lt_of_get hb)]; exact hb, fun k hk => List.getElem?_append_left hk⟩
    | some r =>
      rw [e1] at g
      obtain ⟨q1, q2, q3⟩ := bett_ok h hl h1.1 e1
      have s1 := ri_l_1 0 xb xn b l.length H.length r.length H _ (fun kf _ => g kf) (by omega)
      obtain ⟨b', H', E, r1, r2, r3, r4⟩ := ih r H.length (H ++ [bI r]) (by omega) q2 (by omega) (by rw [List.getElem?_append_left (lt_of_get hx)]; exact hx) (by rw [List.getElem?_append_right (Nat.le_refl _)]; simp)
      rw [impT_some h hl h1.1 e1, ← q1]
      rw [← q1] at s1
      exact ⟨b', H', E, RunsTo.loop s1 (by kernel_rfl) (gc_keep (l := r) (by simp only [bndE, bnd, bndL]; omega)) r1 rfl (by kernel_rfl) (by kernel_rfl), r2, r3, fun k hk => by rw [r4 k (by rw [List.length_append]; omega), List.getElem?_append_left hk]⟩
end
section
variable {d : List (List Int)} {xb xn : Nat}
theorem res38 : Try.f38.results.toList = [.tmp 4] := by kernel_rfl
end
section
variable {d : List (List Int)} {xb xn : Nat}
theorem ri_call (h : okD d) (hn : d.length = xn) {l : List Int} {b : Nat} {H : Heap} (hl : inT d.length l) (h1 : 1 ≤ l.length ∧ l.length ≤ 500) (hx : H[xb]? = some (.arr 1 (d.map encO) true 0)) (hb : H[b]? = some (bI l)) :
    ∃ b' H', CallsTo (P := Try.prog) (pol := polZ) 38 [.sl xb 0 xn none xn 1, .sl b 0 l.length none l.length 1] H (.sl b' 0 l.length none l.length 1) H' ∧ H'[b']? = some (bI (impT d l)) ∧ ∀ k, k < H.length → H'[k]? = H[k]? := by
  have a1 := ri_a_0 0 xb xn b l.length 0 0 H
  obtain ⟨b', H', E, r1, r2, r3, r4⟩ := ri_loop (xb := xb) h hn _ l b H (Nat.le_refl _) hl h1 hx hb
  have t1 := RunsTo.seq a1 (RunsTo.block_ret (i := 0) (c := sub [1] B38) r1 (by kernel_rfl)) (c := B38) (by kernel_rfl) (by kernel_rfl)
  have := CallsTo.shared (P := Try.prog) (pol := polZ) (g := 38) (fn := Try.f38) (cd := B38) (args := [.sl xb 0 xn none xn 1, .sl b 0 l.length none l.length 1]) (v := .sl b' 0 l.length none l.length 1) (by kernel_rfl) (by kernel_rfl) (by kernel_rfl) (by kernel_rfl) t1 (by kernel_rfl) (by simp) (by simp only [resultsV, res38, mapO, resultV, r2])
  refine ⟨b', _, this, ?_, fun k hk => ?_⟩
  · unfold gc
    rw [List.getElem?_take, if_pos (by simp only [bnd]; omega)]
    exact r3
  · unfold gc
    rw [List.getElem?_take, if_pos (by omega)]
    exact r4 k hk
end
end Go.Proofs.Ytlendaofkmhgmaa
end
section
open Go Go.HL
namespace Go.Proofs.Ytlendaofkmhgmaa
set_option maxRecDepth 100000 in
theorem awake_fast : callNF Try.prog pol 200 20 [] [] = some (.bool true, []) := by kernel_rfl
theorem awake_prim : PrimOk Try.prog 20 awakeF := by
  refine primOk_of (pol := pol) sound (by kernel_rfl) fun args res h => ?_
  match args, h with
  | [], h =>
    cases h
    exact ⟨200, _, _, false, by rw [← callNF_eq]; exact awake_fast, rfl⟩
end Go.Proofs.Ytlendaofkmhgmaa
end
section
open Go Go.HL
namespace Go.Proofs.Ytlendaofkmhgmaa
set_option maxRecDepth 100000
noncomputable def B10 : Code := Try.f10.body.getD .skip
abbrev env10 (v0 v1 v4 v5 v6 v7 v8 v9 v10 : HV) : Env := [(0, v0), (1, v1), (4, v4), (5, v5), (6, v6), (7, v7), (8, v8), (9, v9), (10, v10)]
theorem lt_a_0 (N : Nat) (rw la : List HV) : RunsTo Try.prog polZ 10 (sub [0] B10) [(0, .imm .arg 1 rw), (1, .imm .arg 1 la)] [] .normal (polZ.keys 10) (env10 (.imm .arg 1 rw) (.imm .arg 1 la) (.bool false) .undef .undef .undef .undef .undef .undef) [] :=
  RunsTo.hin N 60 [] fun kf hk => ⟨_, by kernel_rfl, .nil⟩
theorem lt_b_0 (N : Nat) (rw la : List HV) (n : Nat) (xs : List HV) (m : Nat) (ts : List HV) (g0 : ∀ kf, callN Try.prog polZ (kf + 1) 15 [.imm .arg 1 rw] [] = some (.sl 0 0 n none n 1, [.arr 1 xs true 0])) (g1 : ∀ kf, callN Try.prog polZ (kf + 1) 16 [.imm .arg 1 la] [.arr 1 xs true 0] = some (.sl 1 0 m none m 1, [.arr 1 xs true 0, .arr 1 ts true 0])) : RunsTo Try.prog polZ 10 (sub [1, 0] B10) (env10 (.imm .arg 1 rw) (.imm .arg 1 la) (.bool false) .undef .undef .undef .undef .undef .undef) [] .normal (polZ.keys 10) (env10 (.imm .arg 1 rw) (.imm .arg 1 la) (.bool false) (.sl 0 0 n none n 1) (.sl 1 0 m none m 1) .undef .undef .undef .undef) [.arr 1 xs true 0, .arr 1 ts true 0] :=
  RunsTo.hin N 60 [⟨1, 1, .sl 0 0 n none n 1, [.arr 1 xs true 0]⟩, ⟨1, 3, .sl 1 0 m none m 1, [.arr 1 xs true 0, .arr 1 ts true 0]⟩] fun kf hk => ⟨_, by kernel_rfl, (oC (g0 kf) (oC (g1 kf) .nil))⟩
theorem lt_c_0 (N : Nat) (rw la : List HV) (n m : Nat) (xs ts : List HV) (a : Int) (e : Int) (g0 : ∀ kf, callN Try.prog polZ (kf + 1) 34 [.sl 0 0 n none n 1, .sl 1 0 m none m 1] [.arr 1 xs true 0, .arr 1 ts true 0] = some (.tuple [.i a, .i e], [.arr 1 xs true 0, .arr 1 ts true 0])) : RunsTo Try.prog polZ 10 (sub [1, 1, 0] B10) (env10 (.imm .arg 1 rw) (.imm .arg 1 la) (.bool false) (.sl 0 0 n none n 1) (.sl 1 0 m none m 1) .undef .undef .undef .undef) [.arr 1 xs true 0, .arr 1 ts true 0] .normal (polZ.keys 10) (env10 (.imm .arg 1 rw) (.imm .arg 1 la) (.bool false) (.sl 0 0 n none n 1) (.sl 1 0 m none m 1) (.i a) (.i e) .undef .undef) [.arr 1 xs true 0, .arr 1 ts true 0] :=
  RunsTo.hin N 60 [⟨2, 2, .tuple [.i a, .i e], [.arr 1 xs true 0, .arr 1 ts true 0]⟩] fun kf hk => ⟨_, by kernel_rfl, (oC (g0 kf) .nil)⟩
theorem lt_d_0 (N : Nat) (rw la : List HV) (n m : Nat) (xs ts : List HV) (a e : Int) (q : Nat) (f : Int) (os : List HV) (g0 : ∀ kf, callN Try.prog polZ (kf + 1) 35 [.sl 0 0 n none n 1, .sl 1 0 m none m 1] [.arr 1 xs true 0, .arr 1 ts true 0] = some (.tuple [.sl 2 0 q none q 1, .i f], [.arr 1 xs true 0, .arr 1 ts true 0, .arr 1 os true 0])) : RunsTo Try.prog polZ 10 (sub [1, 1, 1, 0] B10) (env10 (.imm .arg 1 rw) (.imm .arg 1 la) (.bool false) (.sl 0 0 n none n 1) (.sl 1 0 m none m 1) (.i a) (.i e) .undef .undef) [.arr 1 xs true 0, .arr 1 ts true 0] .normal (polZ.keys 10) (env10 (.imm .arg 1 rw) (.imm .arg 1 la) (.bool false) (.sl 0 0 n none n 1) (.sl 1 0 m none m 1) (.i a) (.i e) (.sl 2 0 q none q 1) (.i f)) [.arr 1 xs true 0, .arr 1 ts true 0, .arr 1 os true 0] :=
  RunsTo.hin N 60 [⟨3, 2, .tuple [.sl 2 0 q none q 1, .i f], [.arr 1 xs true 0, .arr 1 ts true 0, .arr 1 os true 0]⟩] fun kf hk => ⟨_, by kernel_rfl, (oC (g0 kf) .nil)⟩
theorem lt_e_0 (N : Nat) (rw la : List HV) (n m : Nat) (xs ts : List HV) (a e : Int) (q : Nat) (f : Int) (os : List HV)(g0 : ∀ kf, callN Try.prog polZ (kf + 1) 18 [.sl 0 0 n none n 1] [.arr 1 xs true 0, .arr 1 ts true 0, .arr 1 os true 0] = some (.bool true, [.arr 1 xs true 0, .arr 1 ts true 0, .arr 1 os true 0])) (g1 : ∀ kf, callN Try.prog polZ (kf + 1) 36 [.sl 1 0 m none m 1, .i (n : Int)] [.arr 1 xs true 0, .arr 1 ts true 0, .arr 1 os true 0] = some (.bool true, [.arr 1 xs true 0, .arr 1 ts true 0, .arr 1 os true 0])) : RunsTo Try.prog polZ 10 (sub [1, 1, 1, 1, 0] B10) (env10 (.imm .arg 1 rw) (.imm .arg 1 la) (.bool false) (.sl 0 0 n none n 1) (.sl 1 0 m none m 1) (.i a) (.i e) (.sl 2 0 q none q 1) (.i f)) [.arr 1 xs true 0, .arr 1 ts true 0, .arr 1 os true 0] .normal (polZ.keys 10) (env10 (.imm .arg 1 rw) (.imm .arg 1 la) (.bool false) (.sl 0 0 n none n 1) (.sl 1 0 m none m 1) (.i a) (.i e) (.sl 2 0 q none q 1) (.i f)) [.arr 1 xs true 0, .arr 1 ts true 0, .arr 1 os true 0] :=
  RunsTo.hin N 60 [⟨4, 1, .bool true, [.arr 1 xs true 0, .arr 1 ts true 0, .arr 1 os true 0]⟩, ⟨4, 7, .bool true, [.arr 1 xs true 0, .arr 1 ts true 0, .arr 1 os true 0]⟩] fun kf hk => ⟨_, by kernel_rfl, (oC (g0 kf) (oC (g1 kf) .nil))⟩
theorem lt_x_1 (N : Nat) (rw la : List HV) (n m : Nat) (xs ts : List HV) (a e : Int) (q : Nat) (f : Int) (os : List HV)(g0 : ∀ kf, callN Try.prog polZ (kf + 1) 18 [.sl 0 0 n none n 1] [.arr 1 xs true 0, .arr 1 ts true 0, .arr 1 os true 0] = some (.bool true, [.arr 1 xs true 0, .arr 1 ts true 0, .arr 1 os true 0])) (g1 : ∀ kf, callN Try.prog polZ (kf + 1) 36 [.sl 1 0 m none m 1, .i (n : Int)] [.arr 1 xs true 0, .arr 1 ts true 0, .arr 1 os true 0] = some (.bool false, [.arr 1 xs true 0, .arr 1 ts true 0, .arr 1 os true 0])) (g2 : a = 0) (g3 : e = 2) (g4 : (q : Int) = 0) (g5 : f = 2) : RunsTo Try.prog polZ 10 (sub [1, 1, 1, 1, 0] B10) (env10 (.imm .arg 1 rw) (.imm .arg 1 la) (.bool false) (.sl 0 0 n none n 1) (.sl 1 0 m none m 1) (.i a) (.i e) (.sl 2 0 q none q 1) (.i f)) [.arr 1 xs true 0, .arr 1 ts true 0, .arr 1 os true 0] .ret (polZ.keys 10) (env10 (.imm .arg 1 rw) (.imm .arg 1 la) (.bool true) (.sl 0 0 n none n 1) (.sl 1 0 m none m 1) (.i a) (.i e) (.sl 2 0 q none q 1) (.i f)) [.arr 1 xs true 0, .arr 1 ts true 0, .arr 1 os true 0] :=
  RunsTo.hin N 60 [⟨4, 1, .bool true, [.arr 1 xs true 0, .arr 1 ts true 0, .arr 1 os true 0]⟩, ⟨4, 7, .bool false, [.arr 1 xs true 0, .arr 1 ts true 0, .arr 1 os true 0]⟩, ⟨5, 1, .bool true, [.arr 1 xs true 0, .arr 1 ts true 0, .arr 1 os true 0]⟩, ⟨5, 4, .bool true, [.arr 1 xs true 0, .arr 1 ts true 0, .arr 1 os true 0]⟩, ⟨5, 9, .bool true, [.arr 1 xs true 0, .arr 1 ts true 0, .arr 1 os true 0]⟩, ⟨5, 13, .bool true, [.arr 1 xs true 0, .arr 1 ts true 0, .arr 1 os true 0]⟩] fun kf hk => ⟨_, by kernel_rfl, (oC (g0 kf) (oC (g1 kf) (oB [.arr 1 xs true 0, .arr 1 ts true 0, .arr 1 os true 0] (decide_eq_true g2) (oB [.arr 1 xs true 0, .arr 1 ts true 0, .arr 1 os true 0] (decide_eq_true g3) (oB [.arr 1 xs true 0, .arr 1 ts true 0, .arr 1 os true 0] (decide_eq_true g4) (oB [.arr 1 xs true 0, .arr 1 ts true 0, .arr 1 os true 0] (decide_eq_true g5) .nil))))))⟩
theorem lt_x_6 (N : Nat) (rw la : List HV) (n m : Nat) (xs ts : List HV) (a e : Int) (q : Nat) (f : Int) (os : List HV)(g0 : ∀ kf, callN Try.prog polZ (kf + 1) 18 [.sl 0 0 n none n 1] [.arr 1 xs true 0, .arr 1 ts true 0, .arr 1 os true 0] = some (.bool false, [.arr 1 xs true 0, .arr 1 ts true 0, .arr 1 os true 0])) (g1 : a = 0) (g2 : e = 2) (g3 : (q : Int) = 0) (g4 : f = 2) : RunsTo Try.prog polZ 10 (sub [1, 1, 1, 1, 0] B10) (env10 (.imm .arg 1 rw) (.imm .arg 1 la) (.bool false) (.sl 0 0 n none n 1) (.sl 1 0 m none m 1) (.i a) (.i e) (.sl 2 0 q none q 1) (.i f)) [.arr 1 xs true 0, .arr 1 ts true 0, .arr 1 os true 0] .ret (polZ.keys 10) (env10 (.imm .arg 1 rw) (.imm .arg 1 la) (.bool true) (.sl 0 0 n none n 1) (.sl 1 0 m none m 1) (.i a) (.i e) (.sl 2 0 q none q 1) (.i f)) [.arr 1 xs true 0, .arr 1 ts true 0, .arr 1 os true 0] :=
  RunsTo.hin N 60 [⟨4, 1, .bool false, [.arr 1 xs true 0, .arr 1 ts true 0, .arr 1 os true 0]⟩, ⟨5, 1, .bool true, [.arr 1 xs true 0, .arr 1 ts true 0, .arr 1 os true 0]⟩, ⟨5, 4, .bool true, [.arr 1 xs true 0, .arr 1 ts true 0, .arr 1 os true 0]⟩, ⟨5, 9, .bool true, [.arr 1 xs true 0, .arr 1 ts true 0, .arr 1 os true 0]⟩, ⟨5, 13, .bool true, [.arr 1 xs true 0, .arr 1 ts true 0, .arr 1 os true 0]⟩] fun kf hk => ⟨_, by kernel_rfl, (oC (g0 kf) (oB [.arr 1 xs true 0, .arr 1 ts true 0, .arr 1 os true 0] (decide_eq_true g1) (oB [.arr 1 xs true 0, .arr 1 ts true 0, .arr 1 os true 0] (decide_eq_true g2) (oB [.arr 1 xs true 0, .arr 1 ts true 0, .arr 1 os true 0] (decide_eq_true g3) (oB [.arr 1 xs true 0, .arr 1 ts true 0, .arr 1 os true 0] (decide_eq_true g4) .nil)))))⟩
theorem lt_z_0 (N : Nat) (rw la : List HV) (n m : Nat) (xs ts : List HV) (a e : Int) (q : Nat) (f : Int) (os : List HV) (c : Int) (b : Nat) (w : Nat) (H0 : Heap) (H1 : Heap) (g0 : ∀ kf, callN Try.prog polZ (kf + 1) 37 [.sl 0 0 n none n 1, .sl 1 0 m none m 1] [.arr 1 xs true 0, .arr 1 ts true 0, .arr 1 os true 0] = some (.i c, [.arr 1 xs true 0, .arr 1 ts true 0, .arr 1 os true 0])) (g1 : a = c) (g2 : e = 0) (g3 : ∀ kf, N ≤ kf → callN Try.prog polZ (kf + 1) 38 [.sl 0 0 n none n 1, .sl 1 0 m none m 1] [.arr 1 xs true 0, .arr 1 ts true 0, .arr 1 os true 0] = some (.sl b 0 w none w 1, H0)) (g4 : ∀ kf, callN Try.prog polZ (kf + 1) 26 [.sl 2 0 q none q 1, .sl b 0 w none w 1] H0 = some (.bool true, H1)) (g5 : f = 0) : RunsTo Try.prog polZ 10 (sub [1, 1, 1, 1, 1] B10) (env10 (.imm .arg 1 rw) (.imm .arg 1 la) (.bool false) (.sl 0 0 n none n 1) (.sl 1 0 m none m 1) (.i a) (.i e) (.sl 2 0 q none q 1) (.i f)) [.arr 1 xs true 0, .arr 1 ts true 0, .arr 1 os true 0] .ret (polZ.keys 10) (env10 (.imm .arg 1 rw) (.imm .arg 1 la) (.bool true) (.sl 0 0 n none n 1) (.sl 1 0 m none m 1) (.i a) (.i e) (.sl 2 0 q none q 1) (.i f)) H1 :=
  RunsTo.hin N 60 [⟨6, 3, .i c, [.arr 1 xs true 0, .arr 1 ts true 0, .arr 1 os true 0]⟩, ⟨6, 4, .bool true, [.arr 1 xs true 0, .arr 1 ts true 0, .arr 1 os true 0]⟩, ⟨6, 7, .bool true, [.arr 1 xs true 0, .arr 1 ts true 0, .arr 1 os true 0]⟩, ⟨6, 13, .sl b 0 w none w 1, H0⟩, ⟨6, 14, .bool true, H1⟩, ⟨6, 18, .bool true, H1⟩] fun kf hk => ⟨_, by kernel_rfl, (oC (g0 kf) (oB [.arr 1 xs true 0, .arr 1 ts true 0, .arr 1 os true 0] (decide_eq_true g1) (oB [.arr 1 xs true 0, .arr 1 ts true 0, .arr 1 os true 0] (decide_eq_true g2) (oC (g3 kf (by omega)) (oC (g4 kf) (oB H1 (decide_eq_true g5) .nil))))))⟩
end Go.Proofs.Ytlendaofkmhgmaa
end
section
open Go Go.HL
namespace Go.Proofs.Ytlendaofkmhgmaa
theorem soundZ (n : Nat) : CallSound Try.prog (callN Try.prog polZ n) := sound_prim _ (fun g f h => by
  split at h
  · rename_i hg; cases h; rw [eq_of_beq hg]; exact awake_prim
  split at h
  · rename_i hg; cases h; rw [eq_of_beq hg]; exact table_ok
  split at h
  · rename_i hg; cases h; rw [eq_of_beq hg]; exact list_ok
  split at h
  · rename_i hg; cases h; rw [eq_of_beq hg]; exact length_ok
  split at h
  · rename_i hg; cases h; rw [eq_of_beq hg]; exact improve_ok
  split at h
  · rename_i hg; cases h; rw [eq_of_beq hg]; exact dist_ok
  split at h
  · rename_i hg; cases h; rw [eq_of_beq hg]; exact tour_ok
  split at h
  · rename_i hg; cases h; rw [eq_of_beq hg]; exact rlen_ok
  split at h
  · rename_i hg; cases h; rw [eq_of_beq hg]; exact better_ok
  split at h
  · rename_i hg; cases h; rw [eq_of_beq hg]; exact ints_ok
  · cases h) n
theorem tabL_len (R : List (List Int)) : (tabL R).length ≤ 12 ∧ ((tabL R).all fun r => decide (r.length ≤ 1000)) = true := by
  refine ⟨by simp only [tabL, List.length_map, List.length_take]; omega, List.all_eq_true.2 fun r hr => ?_⟩
  unfold tabL at hr
  obtain ⟨q, _, rfl⟩ := List.mem_map.1 hr
  exact decide_eq_true (by rw [List.length_take]; omega)
theorem res10 : Try.f10.results.toList = [.tmp 4] := by kernel_rfl
section
variable {d : List (List Int)} {l : List Int} {H : Heap} (hx : H[0]? = some (.arr 1 (d.map encO) true 0)) (ht : H[1]? = some (bI l))
open Classical in
theorem q34 (hx : H[0]? = some (.arr 1 (d.map encO) true 0)) (ht : H[1]? = some (bI l)) (h1 : d.length ≤ 1000) (h2 : (d.all fun r => decide (r.length ≤ 1000)) = true) (h3 : l.length ≤ 1000) {a e : Int} (he : (if okD d ∧ trOk d.length l = true then (lenT d l, (0 : Int)) else (0, 2)) = (a, e)) : ∀ k, callN Try.prog polZ (k + 1) 34 [.sl 0 0 d.length none d.length 1, .sl 1 0 l.length none l.length 1] H = some (.tuple [.int .i64 a, .int .i64 e], H) := fun k => by
  rw [prim_call (pol := polZ) (g := 34) (F := length34) (by kernel_rfl) (rs := [.imm .arg 1 (d.map encR), .imm .arg 1 (l.map encI)]) (by simp only [mapO, arg_rs rfl hx, arg_sl rfl ht]) (res := .tuple [.int .i64 a, .int .i64 e]) (by
    simp only [length34, rlF, mapO_map decR_enc, mapO_map decI_enc]
    rw [if_pos ⟨h1, h2, h3⟩]
    split at he <;> rename_i hc <;> cases he
    · rw [if_pos hc]
    · rw [if_neg hc])]; rfl
end
section
variable {d : List (List Int)} {l : List Int} {H : Heap} (hx : H[0]? = some (.arr 1 (d.map encO) true 0)) (ht : H[1]? = some (bI l))
open Classical in
theorem q35 (hx : H[0]? = some (.arr 1 (d.map encO) true 0)) (ht : H[1]? = some (bI l)) (h1 : d.length ≤ 1000) (h2 : (d.all fun r => decide (r.length ≤ 1000)) = true) (h3 : l.length ≤ 1000) {o : List Int} {e : Int} (he : (if okD d ∧ trOk d.length l = true then (impT d l, (0 : Int)) else ([], 2)) = (o, e)) : ∀ k, callN Try.prog polZ (k + 1) 35 [.sl 0 0 d.length none d.length 1, .sl 1 0 l.length none l.length 1] H = some (.tuple [.sl H.length 0 o.length none o.length 1, .int .i64 e], H ++ [bI o]) := fun k => by
  rw [prim_call (pol := polZ) (g := 35) (F := improve35) (by kernel_rfl) (rs := [.imm .arg 1 (d.map encR), .imm .arg 1 (l.map encI)]) (by simp only [mapO, arg_rs rfl hx, arg_sl rfl ht]) (res := .tuple [.own 1 (o.map encI), .int .i64 e]) (by
    simp only [improve35, rlF, mapO_map decR_enc, mapO_map decI_enc]
    rw [if_pos ⟨h1, h2, h3⟩]
    split at he <;> rename_i hc <;> cases he
    · rw [if_pos hc]
    · rw [if_neg hc]; rfl)]
  simp only [recv, recvVals, recvVal, recvCell, encI_any, List.length_map]
  rfl
end
section
variable {d : List (List Int)} {l : List Int} {H : Heap} (hx : H[0]? = some (.arr 1 (d.map encO) true 0)) (ht : H[1]? = some (bI l))
theorem q18 (hx : H[0]? = some (.arr 1 (d.map encO) true 0)) (h1 : d.length ≤ 1000) (h2 : (d.all fun r => decide (r.length ≤ 1000)) = true) (b : Bool) (hb : okB d = b) : ∀ k, callN Try.prog polZ (k + 1) 18 [.sl 0 0 d.length none d.length 1] H = some (.bool b, H) := fun k => by
  rw [prim_call (pol := polZ) (g := 18) (F := miles46) (by kernel_rfl) (rs := [.imm .arg 1 (d.map encR)]) (by simp only [mapO, arg_rs rfl hx]) (res := .bool b) (by simp only [miles46, rwF, mapO_map decR_enc]; rw [if_pos ⟨h1, h2⟩, hb])]; rfl
end
section
variable {d : List (List Int)} {l : List Int} {H : Heap} (hx : H[0]? = some (.arr 1 (d.map encO) true 0)) (ht : H[1]? = some (bI l))
theorem q36 (ht : H[1]? = some (bI l)) {n : Nat} (hn : 1 ≤ n ∧ n ≤ 1000) (hl : l.length ≤ 1000) (b : Bool) (hb : trOk n l = b) : ∀ k, callN Try.prog polZ (k + 1) 36 [.sl 1 0 l.length none l.length 1, .int .i64 (n : Int)] H = some (.bool b, H) := fun k => by
  rw [prim_call (pol := polZ) (g := 36) (F := tour36) (by kernel_rfl) (rs := [.imm .arg 1 (l.map encI), .int .i64 (n : Int)]) (by simp only [mapO, arg_sl rfl ht]; rfl) (res := .bool b) (by simp only [tour36, lnF, mapO_map decI_enc]; rw [if_pos ⟨by omega, hl⟩, Int.toNat_natCast, hb])]; rfl
end
section
variable {d : List (List Int)} {l : List Int} {H : Heap} (hx : H[0]? = some (.arr 1 (d.map encO) true 0)) (ht : H[1]? = some (bI l))
theorem q37 (hx : H[0]? = some (.arr 1 (d.map encO) true 0)) (ht : H[1]? = some (bI l)) (h1 : okD d) (h2 : inT d.length l) (h3 : l.length ≤ 1000) : ∀ k, callN Try.prog polZ (k + 1) 37 [.sl 0 0 d.length none d.length 1, .sl 1 0 l.length none l.length 1] H = some (.int .i64 (lenT d l), H) := fun k => by
  rw [prim_call (pol := polZ) (g := 37) (F := len56) (by kernel_rfl) (rs := [.imm .arg 1 (d.map encR), .imm .arg 1 (l.map encI)]) (by simp only [mapO, arg_rs rfl hx, arg_sl rfl ht]) (res := .int .i64 (lenT d l)) (by simp only [len56, rlF, mapO_map decR_enc, mapO_map decI_enc]; rw [if_pos ⟨h1, h2, h3⟩])]; rfl
end
section
variable {d : List (List Int)} {l : List Int} {H : Heap} (hx : H[0]? = some (.arr 1 (d.map encO) true 0)) (ht : H[1]? = some (bI l))
theorem q26 {o : List Int} {a b n : Nat} (hn : o.length = n) (ho : n ≤ 1000) (h2 : H[a]? = some (bI o)) (h3 : H[b]? = some (bI o)) : ∀ k, callN Try.prog polZ (k + 1) 26 [.sl a 0 n none n 1, .sl b 0 n none n 1] H = some (.bool true, H) := fun k => by
  rw [prim_call (pol := polZ) (g := 26) (F := ints26) (by kernel_rfl) (rs := [.imm .arg 1 (o.map encI), .imm .arg 1 (o.map encI)]) (by simp only [mapO, arg_sl hn h2, arg_sl hn h3]) (res := .bool true) (by simp only [ints26, llF, mapO_map decI_enc]; rw [if_pos (by omega), decide_eq_true trivial])]; rfl
end
open Classical in
theorem roundTours_law (R0 : List (List Int)) (l0 : List Int) : ∃ E H, RunsTo Try.prog polZ 10 B10 (args0 [.imm .arg 1 (R0.map encR), .imm .arg 1 (l0.map encI)]) [] .ret (polZ.keys 10) E H ∧ E.get 4 = .bool true := by
  have a1 := lt_a_0 0 (R0.map encR) (l0.map encI)
  have k15 : ∀ k, callN Try.prog polZ (k + 1) 15 [.imm .arg 1 (R0.map encR)] [] = some (.sl 0 0 (tabL R0).length none (tabL R0).length 1, [.arr 1 ((tabL R0).map encO) true 0]) := fun k => by
    rw [prim_call (pol := polZ) (g := 15) (F := table15) (by kernel_rfl) (rs := [.imm .arg 1 (R0.map encR)]) (by simp only [mapO, arg_rw]) (res := .own 1 ((tabL R0).map encO)) (by simp only [table15, rwF, mapO_map decR_enc]), recv_rows]; rfl
  have k16 : ∀ k, callN Try.prog polZ (k + 1) 16 [.imm .arg 1 (l0.map encI)] [.arr 1 ((tabL R0).map encO) true 0] = some (.sl 1 0 (l0.take 13).length none (l0.take 13).length 1, [.arr 1 ((tabL R0).map encO) true 0, bI (l0.take 13)]) := fun k => by
    rw [prim_call (pol := polZ) (g := 16) (F := list16) (by kernel_rfl) (rs := [.imm .arg 1 (l0.map encI)]) (by simp only [mapO, arg_li]) (res := .own 1 ((l0.take 13).map encI)) (by simp only [list16, liF, mapO_map decI_enc]), recv_ints]; rfl
  have b1 := lt_b_0 0 (R0.map encR) (l0.map encI) _ _ _ _ k15 k16
  obtain ⟨hd12, hdr⟩ := tabL_len R0
  have hl13 : (l0.take 13).length ≤ 13 := by rw [List.length_take]; omega
  generalize tabL R0 = d at b1 hd12 hdr
  generalize l0.take 13 = l at b1 hl13
  have up : ∀ (a e : Int) (o : List Int) (f : Int) (E : Env) (H : Heap), (if okD d ∧ trOk d.length l = true then (lenT d l, (0 : Int)) else (0, 2)) = (a, e) → (if okD d ∧ trOk d.length l = true then (impT d l, (0 : Int)) else ([], 2)) = (o, f) →
      RunsTo Try.prog polZ 10 (sub [1, 1, 1, 1] B10) (env10 (.imm .arg 1 (R0.map encR)) (.imm .arg 1 (l0.map encI)) (.bool false) (.sl 0 0 d.length none d.length 1) (.sl 1 0 l.length none l.length 1) (.int .i64 a) (.int .i64 e) (.sl 2 0 o.length none o.length 1) (.int .i64 f)) [.arr 1 (d.map encO) true 0, bI l, bI o] .ret (polZ.keys 10) E H →
      RunsTo Try.prog polZ 10 B10 (args0 [.imm .arg 1 (R0.map encR), .imm .arg 1 (l0.map encI)]) [] .ret (polZ.keys 10) E H := fun a e o f E H he hf t => by
    have c1 := lt_c_0 0 (R0.map encR) (l0.map encI) d.length l.length (d.map encO) (l.map encI) a e (q34 (d := d) (l := l) (H := [.arr 1 (d.map encO) true 0, bI l]) rfl rfl (by omega) hdr (by omega) he)
    have d1 := lt_d_0 0 (R0.map encR) (l0.map encI) d.length l.length (d.map encO) (l.map encI) a e o.length f (o.map encI) (q35 (d := d) (l := l) (H := [.arr 1 (d.map encO) true 0, bI l]) rfl rfl (by omega) hdr (by omega) hf)
    have t1 := RunsTo.seq c1 (RunsTo.seq d1 t (c := sub [1, 1, 1] B10) (by kernel_rfl) (by kernel_rfl)) (c := sub [1, 1] B10) (by kernel_rfl) (by kernel_rfl)
    exact RunsTo.seq a1 (RunsTo.seq b1 t1 (c := sub [1] B10) (by kernel_rfl) (by kernel_rfl)) (c := B10) (by kernel_rfl) (by kernel_rfl)
  by_cases c1 : okD d
  · have hd := c1.1
    by_cases c2 : trOk d.length l = true
    · obtain ⟨t1, t2, t3, t4⟩ := trOk_iff.1 c2
      have k18 := q18 (d := d) (H := [.arr 1 (d.map encO) true 0, bI l, bI (impT d l)]) rfl (by omega) hdr true (okB_true c1)
      have k36 := q36 (l := l) (H := [.arr 1 (d.map encO) true 0, bI l, bI (impT d l)]) rfl (n := d.length) (by omega) (by omega) true c2
      have e1 := lt_e_0 0 (R0.map encR) (l0.map encI) d.length l.length (d.map encO) (l.map encI) (lenT d l) 0 (impT d l).length 0 ((impT d l).map encI) k18 k36
      have k37 := q37 (d := d) (l := l) (H := [.arr 1 (d.map encO) true 0, bI l, bI (impT d l)]) rfl rfl c1 t3 (by omega)
      obtain ⟨b', H', h1, h2, h3⟩ := ri_call (xb := 0) (xn := d.length) (b := 1) (H := [.arr 1 (d.map encO) true 0, bI l, bI (impT d l)]) c1 rfl t3 (by omega) rfl rfl
      obtain ⟨N, hN⟩ := CallsTo.from h1
      have hil : (impT d l).length = l.length := by
        obtain ⟨_, _, _, _, r3⟩ := ip_loop (l0 := l) c1 (lenT d l).toNat l 0 [bI l] (Nat.le_refl _) t3 (by omega) rfl (by simp [mxs, Blk.mx])
        exact r3
      have k26 := q26 (o := impT d l) (H := H') (a := 2) (b := b') (n := l.length) hil (by omega) (by rw [h3 2 (by simp)]; rfl) h2
      have z1 := lt_z_0 N (R0.map encR) (l0.map encI) d.length l.length (d.map encO) (l.map encI) (lenT d l) 0 l.length 0 ((impT d l).map encI) _ _ _ _ _ k37 rfl rfl hN k26 rfl
      rw [← hil] at z1
      have e1' := RunsTo.seq e1 (by rw [← hil]; exact z1) (c := sub [1, 1, 1, 1] B10) (by kernel_rfl) (by kernel_rfl)
      exact ⟨_, _, up (lenT d l) 0 (impT d l) 0 _ _ (if_pos ⟨c1, c2⟩) (if_pos ⟨c1, c2⟩) e1', rfl⟩
    · have k18 := q18 (d := d) (H := [.arr 1 (d.map encO) true 0, bI l, bI []]) rfl (by omega) hdr true (okB_true c1)
      have k36 := q36 (l := l) (H := [.arr 1 (d.map encO) true 0, bI l, bI []]) rfl (n := d.length) (by omega) (by omega) false (nb_false c2)
      have x1 := lt_x_1 0 (R0.map encR) (l0.map encI) d.length l.length (d.map encO) (l.map encI) 0 2 0 2 (([] : List Int).map encI) k18 k36 rfl rfl rfl rfl
      exact ⟨_, _, up 0 2 [] 2 _ _ (if_neg fun h => c2 h.2) (if_neg fun h => c2 h.2) (RunsTo.seq_out x1 (by simp) (c := sub [1, 1, 1, 1] B10) (b := sub [1, 1, 1, 1, 1] B10) (by kernel_rfl)), rfl⟩
  · have k18 := q18 (d := d) (H := [.arr 1 (d.map encO) true 0, bI l, bI []]) rfl (by omega) hdr false (okB_false c1)
    have x1 := lt_x_6 0 (R0.map encR) (l0.map encI) d.length l.length (d.map encO) (l.map encI) 0 2 0 2 (([] : List Int).map encI) k18 rfl rfl rfl rfl
    exact ⟨_, _, up 0 2 [] 2 _ _ (if_neg fun h => c1 h.1) (if_neg fun h => c1 h.1) (RunsTo.seq_out x1 (by simp) (c := sub [1, 1, 1, 1] B10) (b := sub [1, 1, 1, 1, 1] B10) (by kernel_rfl)), rfl⟩
end Go.Proofs.Ytlendaofkmhgmaa
end
section
namespace Go.HL
open Go.ChangeShapes Go.WideShapes Go.ChangeAt Go.RowKit Go.Deep
theorem okNil (w : World) (r : Nat) : okOf Ctx.nil w.heap.size false r := by
  refine ⟨fun hM => ?_, by simp⟩
  obtain ⟨b, y, h1, _, _⟩ := M_iff.1 hM
  simp [Ctx.nil] at h1
theorem cell_lt {w : World} {a : Addr} {v : Value} (h : w.cell? a = some v) : a.block < w.heap.size := by
  rcases Nat.lt_or_ge a.block w.heap.size with hl | hl
  · exact hl
  · have : w.heap[a.block]? = none := by simp [hl]
    simp [World.cell?, this] at h
end Go.HL
end
section
namespace Go.HL
open Go.ChangeShapes Go.WideShapes Go.ChangeAt Go.RowKit Go.Deep
theorem arg_ints_ok {H : Type} {enc : TypeId × Value → H} {P : Program} {W : World} {base : Nat} {t q : TypeId} {v : Value} {d : DataW H} {ps : List MemPlace} (ht : P.underlying t = some (.slice q)) (hq : P.underlying q = some (.int .i64)) (cq : P.cellsOf q = 1)
    (hval : Value.okWide P W .any base t v) (hd : DataW.Trod enc P W 0 (fun _ => true) true t v d ps) : ∃ l : List Int, V W (okOf Ctx.nil W.heap.size) Ctx.nil (.imm .arg 1 (l.map encI)) v := by
  obtain ⟨a, len, cap, rfl⟩ := okWide_slice ht hval
  obtain ⟨fuel, hf⟩ := hd
  rcases open_slice ht hf with ⟨h0, _⟩ | ⟨a', len', cap', m, n, D, Pl, h0, hb, hl, hm, hmm, hx, hel⟩
  · simp [Value.cells] at h0
    obtain ⟨rfl, rfl, rfl⟩ := h0
    exact ⟨[], .imm .arg 1 [] none 0 (fun _ => .bool false) (by simp) (by simp) (by simp) (by simp) (by simp) (by simp)⟩
  · simp [Value.cells] at h0
    obtain ⟨rfl, rfl, rfl⟩ := h0
    have hlm : len ≤ m := by rw [hmm]; split <;> omega
    have each : ∀ i, i < len → ∃ z : Int, W.cell? (a'.add i) = some (.int .i64 z) := by
      intro i hi
      obtain ⟨cs', h1, h2⟩ := hel i (by omega)
      rw [cq] at h1
      obtain ⟨_, hlen, hcell⟩ := World.cells?_some h1
      match cs', hlen with
      | [v0], _ =>
        obtain ⟨z0, e0, _, _⟩ := DataW.trod_int hq h2
        simp at e0
        subst e0
        have c0 := hcell 0 (by omega)
        rw [add_add] at c0
        exact ⟨z0, by simpa using c0⟩
    obtain ⟨f, hf⟩ := choose_lt each
    refine ⟨(List.range len).map f, ?_⟩
    have hlen : (((List.range len).map f).map encI).length = len := by simp
    have key := V.imm (w := W) (ok := okOf Ctx.nil W.heap.size) (c := Ctx.nil) .arg 1 (((List.range len).map f).map encI) (some a') cap (fun j => .int .i64 (f j))
      (by rw [hlen]; exact hl) (by simp) ?_ ?_ ?_ ?_
    · rw [hlen] at key; exact key
    · intro hne
      have h0 : 0 < len := by
        rcases Nat.eq_zero_or_pos len with h | h
        · subst h; simp at hne
        · exact h
      obtain ⟨b, off, spot⟩ := a'
      have hspot : spot = none := by simpa [Addr.add] using World.cell?_spot (hf 0 h0)
      subst hspot
      refine ⟨b, off, rfl, by simpa [Addr.add] using cell_lt (hf 0 h0), okNil W b, fun j hj => ?_⟩
      rw [hlen] at hj
      have c0 := hf j (by omega)
      rw [add_plain] at c0
      exact c0
    · intro v hv
      obtain ⟨p, _, rfl⟩ := List.mem_map.1 hv
      rfl
    · intro v hv
      obtain ⟨p, _, rfl⟩ := List.mem_map.1 hv
      rfl
    · intro i v j x hi hj
      have hil : i < len := by have := lt_of_get hi; rw [hlen] at this; exact this
      have : v = encI (f i) := by
        rw [List.getElem?_map, List.getElem?_map, List.getElem?_range hil] at hi
        simpa using hi.symm
      subst this
      have hjx : j < 1 := lt_of_get hj
      match j, hjx, hj with
      | 0, _, hj =>
        simp [encI, cellsOf] at hj
        subst hj
        have e1 : i * 1 + 0 = i := by omega
        rw [e1]
        exact V.int _ _
end Go.HL
end
section
namespace Go.HL
open Go.ChangeShapes Go.WideShapes Go.ChangeAt Go.RowKit Go.Deep
theorem ints_cells {H : Type} {enc : TypeId × Value → H} {P : Program} {W : World} {base fuel : Nat} {sp : Nat → Bool} {held : Bool} {t q : TypeId} {cs : List Value} {x : DataW H × List MemPlace} (ht : P.underlying t = some (.slice q)) (hq : P.underlying q = some (.int .i64)) (cq : P.cellsOf q = 1)
    (hf : DataW.trod enc P W base sp held fuel t cs = some x) : ∃ (l : List Int) (v : Value), cs = [v] ∧ V W (okOf Ctx.nil W.heap.size) Ctx.nil (.imm .arg 1 (l.map encI)) v := by
  rcases open_slice ht hf with ⟨h0, _⟩ | ⟨a', len, cap, m, n, D, Pl, h0, hb, hl, hm, hmm, hx, hel⟩
  · exact ⟨[], _, h0, .imm .arg 1 [] none 0 (fun _ => .bool false) (by simp) (by simp) (by simp) (by simp) (by simp) (by simp)⟩
  · subst h0
    have hlm : len ≤ m := by rw [hmm]; split <;> omega
    have each : ∀ i, i < len → ∃ z : Int, W.cell? (a'.add i) = some (.int .i64 z) := by
      intro i hi
      obtain ⟨cs', h1, h2⟩ := hel i (by omega)
      rw [cq] at h1
      obtain ⟨_, hlen, hcell⟩ := World.cells?_some h1
      match cs', hlen with
      | [v0], _ =>
        obtain ⟨z0, e0, _, _⟩ := DataW.trod_int hq h2
        simp at e0
        subst e0
        have c0 := hcell 0 (by omega)
        rw [add_add] at c0
        exact ⟨z0, by simpa using c0⟩
    obtain ⟨f, hf⟩ := choose_lt each
    refine ⟨(List.range len).map f, _, rfl, ?_⟩
    have hlen : (((List.range len).map f).map encI).length = len := by simp
    have key := V.imm (w := W) (ok := okOf Ctx.nil W.heap.size) (c := Ctx.nil) .arg 1 (((List.range len).map f).map encI) (some a') cap (fun j => .int .i64 (f j))
      (by rw [hlen]; exact hl) (by simp) ?_ ?_ ?_ ?_
    · rw [hlen] at key; exact key
    · intro hne
      have h0 : 0 < len := by
        rcases Nat.eq_zero_or_pos len with h | h
        · subst h; simp at hne
        · exact h
      obtain ⟨b, off, spot⟩ := a'
      have hspot : spot = none := by simpa [Addr.add] using World.cell?_spot (hf 0 h0)
      subst hspot
      refine ⟨b, off, rfl, by simpa [Addr.add] using cell_lt (hf 0 h0), okNil W b, fun j hj => ?_⟩
      rw [hlen] at hj
      have c0 := hf j (by omega)
      rw [add_plain] at c0
      exact c0
    · intro v hv
      obtain ⟨p, _, rfl⟩ := List.mem_map.1 hv
      rfl
    · intro v hv
      obtain ⟨p, _, rfl⟩ := List.mem_map.1 hv
      rfl
    · intro i v j x hi hj
      have hil : i < len := by have := lt_of_get hi; rw [hlen] at this; exact this
      have : v = encI (f i) := by
        rw [List.getElem?_map, List.getElem?_map, List.getElem?_range hil] at hi
        simpa using hi.symm
      subst this
      have hjx : j < 1 := lt_of_get hj
      match j, hjx, hj with
      | 0, _, hj =>
        simp [encI, cellsOf] at hj
        subst hj
        have e1 : i * 1 + 0 = i := by omega
        rw [e1]
        exact V.int _ _
def encRH (r : List Int) : HV := .imm .arg 1 (r.map encI)
theorem rows_cells {H : Type} {enc : TypeId × Value → H} {P : Program} {W : World} {base fuel : Nat} {sp : Nat → Bool} {held : Bool} {s t q : TypeId} {cs : List Value} {x : DataW H × List MemPlace} (hs : P.underlying s = some (.slice t)) (ct : P.cellsOf t = 1) (ht : P.underlying t = some (.slice q)) (hq : P.underlying q = some (.int .i64)) (cq : P.cellsOf q = 1)
    (hf : DataW.trod enc P W base sp held fuel s cs = some x) : ∃ (R : List (List Int)) (v : Value), cs = [v] ∧ V W (okOf Ctx.nil W.heap.size) Ctx.nil (.imm .arg 1 (R.map encRH)) v := by
  rcases open_slice hs hf with ⟨h0, _⟩ | ⟨a', len, cap, m, n, D, Pl, h0, hb, hl, hm, hmm, hx, hel⟩
  · exact ⟨[], _, h0, .imm .arg 1 [] none 0 (fun _ => .bool false) (by simp) (by simp) (by simp) (by simp) (by simp) (by simp)⟩
  · subst h0
    have hlm : len ≤ m := by rw [hmm]; split <;> omega
    have each : ∀ i, i < len → ∃ p : List Int × Value, W.cell? (a'.add i) = some p.2 ∧ V W (okOf Ctx.nil W.heap.size) Ctx.nil (encRH p.1) p.2 := by
      intro i hi
      obtain ⟨cs', h1, h2⟩ := hel i (by omega)
      rw [ct, Nat.mul_one] at h1
      obtain ⟨_, hlen, hcell⟩ := World.cells?_some h1
      obtain ⟨l, v, rfl, hV⟩ := ints_cells ht hq cq h2
      have c0 := hcell 0 (by omega)
      rw [add_add] at c0
      exact ⟨(l, v), by simpa using c0, hV⟩
    obtain ⟨f, hf⟩ := choose_lt each
    refine ⟨(List.range len).map fun i => (f i).1, _, rfl, ?_⟩
    have hlen : (((List.range len).map fun i => (f i).1).map encRH).length = len := by simp
    have key := V.imm (w := W) (ok := okOf Ctx.nil W.heap.size) (c := Ctx.nil) .arg 1 (((List.range len).map fun i => (f i).1).map encRH) (some a') cap (fun j => (f j).2)
      (by rw [hlen]; exact hl) (by simp) ?_ ?_ ?_ ?_
    · rw [hlen] at key; exact key
    · intro hne
      have h0 : 0 < len := by
        rcases Nat.eq_zero_or_pos len with h | h
        · subst h; simp at hne
        · exact h
      obtain ⟨b, off, spot⟩ := a'
      have hspot : spot = none := by simpa [Addr.add] using World.cell?_spot (hf 0 h0).1
      subst hspot
      refine ⟨b, off, rfl, by simpa [Addr.add] using cell_lt (hf 0 h0).1, okNil W b, fun j hj => ?_⟩
      rw [hlen, Nat.mul_one] at hj
      have c0 := (hf j hj).1
      rw [add_plain] at c0
      exact c0
    · intro v hv
      obtain ⟨p, _, rfl⟩ := List.mem_map.1 hv
      rfl
    · intro v hv
      obtain ⟨p, _, rfl⟩ := List.mem_map.1 hv
      rfl
    · intro i v j x hi hj
      have hil : i < len := by have := lt_of_get hi; rw [hlen] at this; exact this
      have : v = encRH (f i).1 := by
        rw [List.getElem?_map, List.getElem?_map, List.getElem?_range hil] at hi
        simpa using hi.symm
      subst this
      have hjx : j < 1 := lt_of_get hj
      obtain rfl : j = 0 := by omega
      simp [encRH, cellsOf] at hj
      subst hj
      have e1 : i * 1 + 0 = i := by omega
      rw [e1]
      exact (hf i hil).2
theorem arg_rows_ok {H : Type} {enc : TypeId × Value → H} {P : Program} {W : World} {base : Nat} {s t q : TypeId} {v : Value} {d : DataW H} {ps : List MemPlace} (hs : P.underlying s = some (.slice t)) (ct : P.cellsOf t = 1) (ht : P.underlying t = some (.slice q)) (hq : P.underlying q = some (.int .i64)) (cq : P.cellsOf q = 1)
    (hval : Value.okWide P W .any base s v) (hd : DataW.Trod enc P W 0 (fun _ => true) true s v d ps) : ∃ R : List (List Int), V W (okOf Ctx.nil W.heap.size) Ctx.nil (.imm .arg 1 (R.map encRH)) v := by
  obtain ⟨a, len, cap, rfl⟩ := okWide_slice hs hval
  obtain ⟨fuel, hf⟩ := hd
  obtain ⟨R, v, hv, h⟩ := rows_cells hs ct ht hq cq hf
  simp [Value.cells] at hv
  subst hv
  exact ⟨R, h⟩
end Go.HL
end
