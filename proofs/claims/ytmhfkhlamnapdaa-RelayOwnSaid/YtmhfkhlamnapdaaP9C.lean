/- A part of the proof. -/
import Derived.Test.YtmhfkhlamnapdaaP9B
set_option linter.unusedVariables false
set_option linter.unusedSimpArgs false
section
open Go Go.HL
namespace Go.Proofs.Ytmhfkhlamnapdaa
theorem res63 : Try.f63.results.toList = [.tmp 4] := by kernel_rfl
theorem res55 : Try.f55.results.toList = [.tmp 6] := by kernel_rfl
theorem mxs_get {m : Nat} {H : Heap} : mxs H ≤ m ↔ ∀ (j : Nat) (B : Blk), H[j]? = some B → B.mx ≤ m := by
  rw [mxs_le]
  exact ⟨fun h j B hB => h B (List.mem_of_getElem? hB), fun h B hB => by
    obtain ⟨j, hj⟩ := List.mem_iff_getElem?.1 hB
    exact h j B hj⟩
theorem gc_all {b r : Nat} {H : Heap} (h : H.length ≤ r) : gc b r H = H := by
  unfold gc
  exact List.take_of_length_le (by omega)
theorem same_bI (l : List Int) : sameH [bI l] [bI l] = true := same_arr fun v hv => by
  obtain ⟨k, _, rfl⟩ := List.mem_map.1 hv
  simp [encI, same]
theorem recv_ints (l : List Int) (H : Heap) : recv (.own 1 (l.map encI)) H = (.sl H.length 0 l.length none l.length 1, H ++ [bI l]) := by
  have hno : (l.map encI).any isOwn = false := by
    rw [List.any_eq_false]
    intro v hv
    obtain ⟨k, _, rfl⟩ := List.mem_map.1 hv
    simp [encI, isOwn]
  simp only [recv, recvVal, recvCell, hno, List.length_map]
  rfl
theorem c61_sl {H : Heap} {db n k : Nat} {l' : List Int} (hb : H[db]? = some (bI l')) (hl : l'.length = n) (hk : k ≤ n) (hn : k ≤ 1000) : ∀ kf, callN Try.prog polS (kf + 1) 61 [.sl db 0 k none n 1] H = some (.sl H.length 0 k none k 1, H ++ [bI (l'.take k)]) := fun kf => by
  have ha : toArg H 6 (.sl db 0 k none n 1) = some (.imm .arg 1 ((l'.take k).map encI)) := by
    have e : toArg H 6 (.sl db 0 k none n 1) = if k = 0 then some (.imm .arg 1 []) else match view H db 0 k n 1 with | some l => (match mapO (toArg H 5) l with | some l => some (.imm .arg 1 l) | none => none) | none => none := rfl
    rw [e]
    split
    · rename_i h0
      subst h0; rfl
    · have hv : view H db 0 k n 1 = some ((l'.take k).map encI) := by
        simp only [view, hb, List.length_map, hl]
        rw [if_pos ⟨trivial, by omega, trivial⟩, List.drop_zero, List.map_take]
      have hm : mapO (toArg H 5) ((l'.take k).map encI) = some ((l'.take k).map encI) := mapO_self (f := toArg H 5) (g := encI) (fun _ => rfl) _
      rw [hv]
      simp only [hm]
  have hlen : (l'.take k).length = k := by simp; omega
  rw [prim_call (pol := polS) (g := 61) (F := clone61) (by kernel_rfl) (rs := [.imm .arg 1 ((l'.take k).map encI)]) (by simp only [mapO, ha]) (res := .own 1 ((l'.take k).map encI)) (by simp only [clone61, mapO_map decI_enc]; rw [if_pos (by omega)]), recv_ints, hlen]
theorem c61_row {H : Heap} (r : List Nat) (hn : r.length ≤ 1000) : ∀ kf, callN Try.prog polS (kf + 1) 61 [rowO r] H = some (.sl H.length 0 r.length none r.length 1, H ++ [bI (rowI r)]) := fun kf => by
  have ha : toArg H 6 (rowO r) = some (.imm .arg 1 ((rowI r).map encI)) := by
    have e : toArg H 6 (rowO r) = match argPL (r.map encN) with | some l => some (.imm .arg 1 l) | none => none := rfl
    rw [e, rowI_enc, argP_ints']
  have hlen : (rowI r).length = r.length := by simp [rowI]
  rw [prim_call (pol := polS) (g := 61) (F := clone61) (by kernel_rfl) (rs := [.imm .arg 1 ((rowI r).map encI)]) (by simp only [mapO, ha]) (res := .own 1 ((rowI r).map encI)) (by simp only [clone61, mapO_map decI_enc]; rw [if_pos (by omega)]), recv_ints, hlen]
section
variable {adj : List (List Nat)} {T : Int → Int → Int} {n : Nat}
theorem fl_call {H : Heap} {v : Int} {tb vb db m k : Nat} {l' : List Int} (hM : Mem adj T H) (htv : tb ≠ 1 ∧ vb ≠ 1) (hlt : tb < H.length ∧ vb < H.length) (ht : H[tb]? = some (boxT n)) (hv : H[vb]? = some (boxI v)) (hd : H[db]? = some (bI l')) (hl : l'.length = m) (hk : k ≤ m) (h39 : k ≤ 39) (hT : ∀ u, u ∈ l'.take k → TimeOk adj T n u v) :
    ∃ H', Cl 63 [.sl db 0 k none m 1, .func 64 [] [.ptr tb 0 0 1, .ptr vb 0 0 1]] H (.sl (H.length + 1) 0 k none k 1) H' ∧ KOk adj T n v tb vb H.length H' ∧ H'.length = H.length + 2 ∧ H'[H.length + 1]? = some (bI (stable (fun u => T u v) k (l'.take k))) ∧ ∀ j, j ≠ 1 → j < H.length → H'[j]? = H[j]? := by
  have h2 := hM.two
  have hb0 : (newV (.func 64 [] [.ptr tb 0 0 1, .ptr vb 0 0 1]) H) = (.ptr H.length 0 0 1, H ++ [boxF tb vb]) := by
    simp only [newV, cellsOf, bnd, bndL, boxF, List.length_singleton]
    simp
  have hM1 : Mem adj T (H ++ [boxF tb vb]) := hM.app (same_F tb vb) (by show max (tb + 1) (vb + 1) ≤ _; omega)
  have hdl := lt_of_get hd
  have hd1 : (H ++ [boxF tb vb])[db]? = some (bI l') := by rw [List.getElem?_append_left hdl]; exact hd
  have hM2 : Mem adj T (H ++ [boxF tb vb] ++ [bI (l'.take k)]) := hM1.app (same_bI _) (Nat.zero_le _)
  have hlen1 : (H ++ [boxF tb vb]).length = H.length + 1 := by simp
  have hK : KOk adj T n v tb vb H.length (H ++ [boxF tb vb] ++ [bI (l'.take k)]) := by
    refine ⟨hM2, ?_, ?_, ?_⟩
    · rw [List.getElem?_append_left (by simp; omega), List.getElem?_append_left hlt.1]; exact ht
    · rw [List.getElem?_append_left (by simp; omega), List.getElem?_append_left hlt.2]; exact hv
    · rw [List.getElem?_append_left (by simp), List.getElem?_append_right (Nat.le_refl _)]; simp
  have hc := cmp_ok (adj := adj) (T := T) (n := n) (v := v) (tb := tb) (vb := vb) (fb := H.length) (db := H.length + 1) (dom := fun u => u ∈ l'.take k) ⟨htv.1, htv.2, by omega⟩ ⟨by omega, by omega, by omega, by omega⟩ hT
  have hlk : (l'.take k).length = k := by simp; omega
  obtain ⟨H', hcl, hL, hF⟩ := sort_call hc (n := k) h39 hlk (H := H ++ [boxF tb vb] ++ [bI (l'.take k)]) ⟨by rw [List.getElem?_append_right (by simp), hlen1]; simp, hK, fun v hv => hv⟩
  obtain ⟨N, hN⟩ := hcl.from
  have hcl1 := c61_sl hd1 hl hk (by omega)
  rw [hlen1] at hcl1
  have t := flg_a_0 N (.sl db 0 k none m 1) tb vb H.length H (H ++ [boxF tb vb]) (H.length + 1) k _ H' (by rw [hb0]) hcl1 hN
  have hlen : H'.length = H.length + 2 := by rw [hF.len]; simp
  have hcl := CallsTo.shared (P := Try.prog) (pol := polS) (g := 63) (fn := Try.f63) (cd := B63) (args := [.sl db 0 k none m 1, .func 64 [] [.ptr tb 0 0 1, .ptr vb 0 0 1]]) (v := .sl (H.length + 1) 0 k none k 1) (by kernel_rfl) (by kernel_rfl) (by kernel_rfl) (by kernel_rfl) t (by kernel_rfl) (by simp) (by simp only [resultsV, res63, mapO, resultV]; rfl)
  rw [gc_all (by rw [hlen]; exact Nat.le_refl _)] at hcl
  refine ⟨H', hcl, hL.ok, hlen, hL.blk, fun j h1 h2 => ?_⟩
  rw [hF.same j h1 (by omega), List.getElem?_append_left (by simp; omega), List.getElem?_append_left h2]
end
section
variable {adj : List (List Nat)} {T : Int → Int → Int} {n : Nat}
theorem br_call {H : Heap} {v : Nat} {w : Int} {r : List Nat} (hM : Mem adj T H) (hn : adj.length = n) (hr : adj[v]? = some r) (h39 : r.length ≤ 39) (hT : ∀ u, u ∈ keep w (rowI r) → TimeOk adj T n u v) :
    ∃ H', Cl 55 [TV n, .int .i64 v, .int .i64 w] H (.sl (H.length + 5) 0 (keep w (rowI r)).length none (keep w (rowI r)).length 1) H' ∧ Mem adj T H' ∧ H'.length = H.length + 6 ∧
      H'[H.length + 5]? = some (bI (stable (fun u => T u v) (keep w (rowI r)).length (keep w (rowI r)))) ∧ (∀ j, j ≠ 1 → j < H.length → H'[j]? = H[j]?) ∧ H'[H.length]? = some (boxT n) ∧ H'[H.length + 1]? = some (boxI v) ∧ mxs H' ≤ H.length + 2 := by
  have h2 := hM.two
  have hvn : v < n := by have := lt_of_get hr; omega
  have hb0 : newV (TV n) H = (.ptr H.length 0 0 1, H ++ [boxT n]) := by
    simp only [newV, cellsOf, bnd, bndL, List.length_cons, List.length_nil]
    simp
  have hM1 : Mem adj T (H ++ [boxT n]) := hM.app (same_T n) (by show 2 ≤ _; omega)
  have hb1 : newV (.int .i64 (v : Int)) (H ++ [boxT n]) = (.ptr (H.length + 1) 0 0 1, H ++ [boxT n] ++ [boxI v]) := by
    simp only [newV, cellsOf, bnd, List.length_cons, List.length_nil, List.length_append]
  have hM2 : Mem adj T (H ++ [boxT n] ++ [boxI v]) := hM1.app (same_I v) (Nat.zero_le _)
  have hb2 : newV (.int .i64 w) (H ++ [boxT n] ++ [boxI v]) = (.ptr (H.length + 2) 0 0 1, H ++ [boxT n] ++ [boxI v] ++ [boxI w]) := by
    simp only [newV, cellsOf, bnd, List.length_cons, List.length_nil, List.length_append]
  have hM3 : Mem adj T (H ++ [boxT n] ++ [boxI v] ++ [boxI w]) := hM2.app (same_I w) (Nat.zero_le _)
  have hlen3 : (H ++ [boxT n] ++ [boxI v] ++ [boxI w]).length = H.length + 3 := by simp
  have hlow : ∀ j, j < H.length → (H ++ [boxT n] ++ [boxI v] ++ [boxI w])[j]? = H[j]? := fun j hj => by
    rw [List.getElem?_append_left (by simp; omega), List.getElem?_append_left (by simp; omega), List.getElem?_append_left hj]
  have g0 : (H ++ [boxT n] ++ [boxI v] ++ [boxI w])[H.length]? = some (boxT n) := by
    rw [List.getElem?_append_left (by simp), List.getElem?_append_left (by simp), List.getElem?_append_right (Nat.le_refl _)]; simp
  have g1 : (H ++ [boxT n] ++ [boxI v] ++ [boxI w])[H.length + 1]? = some (boxI v) := by
    rw [List.getElem?_append_left (by simp), List.getElem?_append_right (by simp)]; simp
  have g2 : (H ++ [boxT n] ++ [boxI v] ++ [boxI w])[H.length + 2]? = some (boxI w) := by
    rw [List.getElem?_append_right (by simp)]; simp
  generalize H ++ [boxT n] ++ [boxI v] ++ [boxI w] = H3 at hb2 hM3 hlen3 hlow g0 g1 g2
  have hnear : H3[0]? = some (.arr 1 (adj.map rowO) true 0) := hM3.near
  have lrow : loadV Try.prog H3 24 (.ptr 0 v 0 n) = some (rowO r) :=
    load_elem hnear (by simp [hn]) (by rw [List.getElem?_map, hr]; rfl) rfl (by kernel_rfl) (by kernel_rfl)
  have c61 := c61_row (H := H3) r (by omega)
  rw [hlen3] at c61
  have hM4 : Mem adj T (H3 ++ [bI (rowI r)]) := hM3.app (same_bI _) (Nat.zero_le _)
  have hd4 : (H3 ++ [bI (rowI r)])[H.length + 3]? = some (bI (rowI r)) := by rw [List.getElem?_append_right (by omega), hlen3]; simp
  have hw4 : (H3 ++ [bI (rowI r)])[H.length + 2]? = some (boxI w) := by rw [List.getElem?_append_left (by omega)]; exact g2
  obtain ⟨k, l', hcl, hk, hl', hke⟩ := df_call hd4 (n := r.length) (by simp [rowI]) (by omega) (by omega) hw4
  have hkk : (keep w (rowI r)).length = k := by rw [← hke]; simp; omega
  have hM5 : Mem adj T ((H3 ++ [bI (rowI r)]).set (H.length + 3) (bI l')) := hM4.set (by omega) (same_bI _) (Nat.zero_le _)
  have hlow5 : ∀ j, j < H.length + 3 → ((H3 ++ [bI (rowI r)]).set (H.length + 3) (bI l'))[j]? = H3[j]? := fun j hj => by
    rw [List.getElem?_set_ne (by omega), List.getElem?_append_left (by omega)]
  have hd5 : ((H3 ++ [bI (rowI r)]).set (H.length + 3) (bI l'))[H.length + 3]? = some (bI l') := List.getElem?_set_self (by simp; omega)
  have hlen5 : ((H3 ++ [bI (rowI r)]).set (H.length + 3) (bI l')).length = H.length + 4 := by simp; omega
  generalize (H3 ++ [bI (rowI r)]).set (H.length + 3) (bI l') = H5 at hcl hM5 hlow5 hd5 hlen5
  obtain ⟨N1, hN1⟩ := hcl.from
  obtain ⟨H6, hcl6, hK6, hlen6, hblk6, hlow6⟩ := fl_call (n := n) (v := (v : Int)) (tb := H.length) (vb := H.length + 1) (db := H.length + 3) (m := r.length) (k := k) hM5 ⟨by omega, by omega⟩ ⟨by omega, by omega⟩ (by rw [hlow5 _ (by omega)]; exact g0) (by rw [hlow5 _ (by omega)]; exact g1) hd5 hl' hk (by omega) (by rw [hke]; exact hT)
  obtain ⟨N2, hN2⟩ := hcl6.from
  rw [hlen5] at hN2 hlen6 hblk6 hlow6 hK6
  rw [hke] at hblk6
  have t := br_a_0 (max N1 N2) n v w H.length (H.length + 1) (H.length + 2) (rowO r) H _ _ H3 (H.length + 3) r.length _ (.sl (H.length + 3) 0 k none r.length 1) H5 (.sl (H.length + 5) 0 k none k 1) H6 (by rw [hb0]) (by rw [hb1]) (by rw [hb2]) (ld_n g0) (ld_I g1)
    (by have := idx_sl (P := Try.prog) (t := 55) (e := 24) (k := 1) (b := 0) (len := n) (tot := n) (cap := none) (ik := .i64) (n := (v : Int)) (by kernel_rfl) (by kernel_rfl) (by omega) (by omega); rwa [Int.toNat_natCast] at this)
    lrow c61 (fun kf hk => hN1 kf (by omega)) (fun kf hk => hN2 kf (by omega))
  have hcl := CallsTo.shared (P := Try.prog) (pol := polS) (g := 55) (fn := Try.f55) (cd := B55) (args := [TV n, .int .i64 v, .int .i64 w]) (v := .sl (H.length + 5) 0 k none k 1) (by kernel_rfl) (by kernel_rfl) (by kernel_rfl) (by kernel_rfl) t (by kernel_rfl) (by simp) (by simp only [resultsV, res55, mapO, resultV]; rfl)
  rw [gc_all (by rw [hlen6]; exact Nat.le_refl _)] at hcl
  rw [hkk]
  have hs : ∀ j, j ≠ 1 → j < H.length + 3 → H6[j]? = H3[j]? := fun j h1 hj => by rw [hlow6 j h1 (by omega), hlow5 j hj]
  refine ⟨H6, hcl, hK6.mem, by omega, by rw [← hkk] at hblk6 ⊢; exact hblk6, fun j h1 hj => by rw [hs j h1 (by omega), hlow j hj], by rw [hs _ (by omega) (by omega)]; exact g0, by rw [hs _ (by omega) (by omega)]; exact g1, ?_⟩
  rw [mxs_get]
  intro j B hB
  by_cases e1 : j = 1
  · obtain ⟨ks, hks⟩ := hK6.mem.memo
    rw [e1, hks] at hB
    rw [← Option.some.inj hB]
    exact Nat.zero_le _
  · by_cases e2 : j < H.length + 3
    · rw [hs j e1 e2] at hB
      by_cases e3 : j < H.length
      · rw [hlow j e3] at hB
        have := mxs_get.1 hM.mx j B hB
        omega
      · by_cases e4 : j = H.length
        · rw [e4, g0] at hB
          rw [← Option.some.inj hB]
          show 2 ≤ _
          omega
        · by_cases e5 : j = H.length + 1
          · rw [e5, g1] at hB
            rw [← Option.some.inj hB]; exact Nat.zero_le _
          · have e5 : j = H.length + 2 := by omega
            rw [e5, g2] at hB
            rw [← Option.some.inj hB]; exact Nat.zero_le _
    · have hjl := lt_of_get hB
      by_cases e3 : j = H.length + 3
      · rw [e3, hlow6 _ (by omega) (by omega), hd5] at hB
        rw [← Option.some.inj hB]; exact Nat.zero_le _
      · by_cases e4 : j = H.length + 4
        · rw [e4, hK6.f] at hB
          rw [← Option.some.inj hB]
          show max (H.length + 1) (H.length + 1 + 1) ≤ _
          omega
        · have e5 : j = H.length + 5 := by omega
          rw [e5, hblk6] at hB
          rw [← Option.some.inj hB]; exact Nat.zero_le _
end
end Go.Proofs.Ytmhfkhlamnapdaa
end
section
open Go Go.HL
namespace Go.Proofs.Ytmhfkhlamnapdaa
set_option maxRecDepth 100000
noncomputable def B47 : Code := Try.f47.body.getD .skip
abbrev env47 (v0 v1 v2 v3 v6 v7 v9 v10 v11 v12 v28 v29 v30 : HV) : Env := [(0, v0), (1, v1), (2, v2), (3, v3), (6, v6), (7, v7), (9, v9), (10, v10), (11, v11), (12, v12), (28, v28), (29, v29), (30, v30)]
theorem ti_a_0 (N : Nat) (n : Nat) (v w : Int) (tb : Nat) (H : Heap) (H0 : Heap) (g0 : some (newV (.agg [.sl 0 0 n none n 1, .map 1]) H) = some (.ptr tb 0 0 1, H0)) : RunsTo Try.prog polS 47 (sub [0] B47) [(0, .agg [.sl 0 0 n none n 1, .map 1]), (1, .i v), (2, .i w)] H .normal (polS.keys 47) (env47 (.agg [.sl 0 0 n none n 1, .map 1]) (.i v) (.i w) (.ptr tb 0 0 1) (.i 0) .undef .undef .undef .undef .undef .undef .undef .undef) H0 :=
  RunsTo.hin N 60 [⟨0, 0, .ptr tb 0 0 1, H0⟩] fun kf hk => ⟨_, by kernel_rfl, (oC (g0) .nil)⟩
theorem ti_b_0 (N : Nat) (n : Nat) (v w : Int) (tb kb : Nat) (H : Heap) (H0 : Heap) (H1 : Heap) (g0 : some (newV (.agg [.i 0, .i 0]) H) = some (.ptr kb 0 0 1, H0)) (g1 : storeV Try.prog H0 33 (.ptr kb 0 0 1) (.agg [.i v, .i w]) = some H1) : RunsTo Try.prog polS 47 (sub [1, 0] B47) (env47 (.agg [.sl 0 0 n none n 1, .map 1]) (.i v) (.i w) (.ptr tb 0 0 1) (.i 0) .undef .undef .undef .undef .undef .undef .undef .undef) H .normal (polS.keys 47) (env47 (.agg [.sl 0 0 n none n 1, .map 1]) (.i v) (.i w) (.ptr tb 0 0 1) (.i 0) (.ptr kb 0 0 1) .undef .undef .undef .undef .undef .undef .undef) H1 :=
  RunsTo.hin N 60 [⟨1, 3, .ptr kb 0 0 1, H0⟩, ⟨1, 4, .tuple [], H1⟩] fun kf hk => ⟨_, by kernel_rfl, (oC (g0) (oS g1 .nil))⟩
theorem ti_c_0 (N : Nat) (n : Nat) (v w : Int) (tb kb : Nat) (H : Heap) (t0 : Int) (g0 : loadV Try.prog H 70 (.ptr tb 0 1 1) = some (.map 1)) (g1 : loadV Try.prog H 33 (.ptr kb 0 0 1) = some (.agg [.i v, .i w])) (g2 : lkG Try.prog 70 H 1 (.agg [.i v, .i w]) true = some (.tuple [.i t0, .bool true], H)) : RunsTo Try.prog polS 47 (sub [1, 1, 0, 0] B47) (env47 (.agg [.sl 0 0 n none n 1, .map 1]) (.i v) (.i w) (.ptr tb 0 0 1) (.i 0) (.ptr kb 0 0 1) .undef .undef .undef .undef .undef .undef .undef) H .normal (polS.keys 47) (env47 (.agg [.sl 0 0 n none n 1, .map 1]) (.i v) (.i w) (.ptr tb 0 0 1) (.i 0) (.ptr kb 0 0 1) (.bool true) .undef .undef .undef .undef .undef .undef) H :=
  RunsTo.hin N 60 [⟨2, 1, .map 1, H⟩, ⟨2, 2, .agg [.i v, .i w], H⟩, ⟨2, 3, .tuple [.i t0, .bool true], H⟩] fun kf hk => ⟨_, by kernel_rfl, (oP H g0 (oP H g1 (oC (g2) .nil)))⟩
theorem ti_c_1 (N : Nat) (n : Nat) (v w : Int) (tb kb : Nat) (H : Heap)(g0 : loadV Try.prog H 70 (.ptr tb 0 1 1) = some (.map 1)) (g1 : loadV Try.prog H 33 (.ptr kb 0 0 1) = some (.agg [.i v, .i w])) (g2 : lkG Try.prog 70 H 1 (.agg [.i v, .i w]) true = some (.tuple [.i 0, .bool false], H)) : RunsTo Try.prog polS 47 (sub [1, 1, 0, 0] B47) (env47 (.agg [.sl 0 0 n none n 1, .map 1]) (.i v) (.i w) (.ptr tb 0 0 1) (.i 0) (.ptr kb 0 0 1) .undef .undef .undef .undef .undef .undef .undef) H .normal (polS.keys 47) (env47 (.agg [.sl 0 0 n none n 1, .map 1]) (.i v) (.i w) (.ptr tb 0 0 1) (.i 0) (.ptr kb 0 0 1) (.bool false) .undef .undef .undef .undef .undef .undef) H :=
  RunsTo.hin N 60 [⟨2, 1, .map 1, H⟩, ⟨2, 2, .agg [.i v, .i w], H⟩, ⟨2, 3, .tuple [.i 0, .bool false], H⟩] fun kf hk => ⟨_, by kernel_rfl, (oP H g0 (oP H g1 (oC (g2) .nil)))⟩
theorem ti_dt_0 (N : Nat) (n : Nat) (v w : Int) (tb kb : Nat) (H : Heap) : RunsTo Try.prog polS 47 (sub [1, 1, 0, 1, 0] B47) (env47 (.agg [.sl 0 0 n none n 1, .map 1]) (.i v) (.i w) (.ptr tb 0 0 1) (.i 0) (.ptr kb 0 0 1) (.bool true) .undef .undef .undef .undef .undef .undef) H .normal [0, 1, 2, 3, 6, 7, 9, 10, 11, 12, 28, 29, 30, 24] [(0, .agg [.sl 0 0 n none n 1, .map 1]), (1, .i v), (2, .i w), (3, .ptr tb 0 0 1), (6, .i 0), (7, .ptr kb 0 0 1), (9, .bool true), (10, .undef), (11, .undef), (12, .undef), (28, .undef), (29, .undef), (30, .undef), (24, .bool false)] H :=
  RunsTo.hin N 60 [] fun kf hk => ⟨_, by kernel_rfl, .nil⟩
theorem ti_df_0 (N : Nat) (n : Nat) (v w : Int) (tb kb : Nat) (H : Heap) : RunsTo Try.prog polS 47 (sub [1, 1, 0, 1, 0] B47) (env47 (.agg [.sl 0 0 n none n 1, .map 1]) (.i v) (.i w) (.ptr tb 0 0 1) (.i 0) (.ptr kb 0 0 1) (.bool false) .undef .undef .undef .undef .undef .undef) H .normal [0, 1, 2, 3, 6, 7, 9, 10, 11, 12, 28, 29, 30, 24] [(0, .agg [.sl 0 0 n none n 1, .map 1]), (1, .i v), (2, .i w), (3, .ptr tb 0 0 1), (6, .i 0), (7, .ptr kb 0 0 1), (9, .bool false), (10, .undef), (11, .undef), (12, .undef), (28, .undef), (29, .undef), (30, .undef), (24, .bool true)] H :=
  RunsTo.hin N 60 [] fun kf hk => ⟨_, by kernel_rfl, .nil⟩
theorem ti_e_0 (N : Nat) (n : Nat) (v w : Int) (tb kb : Nat) (H : Heap) : RunsTo Try.prog polS 47 (sub [1, 1, 0, 1, 1, 0, 0] B47) (env47 (.agg [.sl 0 0 n none n 1, .map 1]) (.i v) (.i w) (.ptr tb 0 0 1) (.i 0) (.ptr kb 0 0 1) (.bool false) .undef .undef .undef .undef .undef .undef) H .normal (polS.keys 47) (env47 (.agg [.sl 0 0 n none n 1, .map 1]) (.i v) (.i w) (.ptr tb 0 0 1) (.i 0) (.ptr kb 0 0 1) (.bool false) (.i 0) .undef .undef .undef .undef .undef) H :=
  RunsTo.hin N 60 [] fun kf hk => ⟨_, by kernel_rfl, .nil⟩
theorem ti_f_0 (N : Nat) (n : Nat) (v w : Int) (tb kb : Nat) (H : Heap) (mo : Int) (cb : Nat) (k : Nat) (k2 : Nat) (H0 : Heap) (g0 : loadV Try.prog H 72 (.ptr tb 0 0 1) = some (.agg [.sl 0 0 n none n 1, .map 1])) (g1 : ∀ kf, N ≤ kf → callN Try.prog polS (kf + 1) 55 [.agg [.sl 0 0 n none n 1, .map 1], .i v, .i w] H = some (.sl cb 0 k none k2 1, H0)) : RunsTo Try.prog polS 47 (sub [1, 1, 0, 1, 1, 0, 1, 0, 0] B47) (env47 (.agg [.sl 0 0 n none n 1, .map 1]) (.i v) (.i w) (.ptr tb 0 0 1) (.i 0) (.ptr kb 0 0 1) (.bool false) (.i mo) .undef .undef .undef .undef .undef) H .normal (polS.keys 47) (env47 (.agg [.sl 0 0 n none n 1, .map 1]) (.i v) (.i w) (.ptr tb 0 0 1) (.i 0) (.ptr kb 0 0 1) (.bool false) (.i mo) .undef .undef (.sl cb 0 k none k2 1) (.i (k : Int)) (.i 0)) H0 :=
  RunsTo.hin N 60 [⟨5, 0, .agg [.sl 0 0 n none n 1, .map 1], H⟩, ⟨5, 3, .sl cb 0 k none k2 1, H0⟩] fun kf hk => ⟨_, by kernel_rfl, (oP H g0 (oC (g1 kf (by omega)) .nil))⟩
theorem ti_l_0 (N : Nat) (n : Nat) (v w : Int) (tb kb : Nat) (H : Heap) (mo : Int) (cb k k2 i : Nat) (x0 : Int) (s : Int) (H0 : Heap) (g0 : (i : Int) < (k : Int)) (g1 : idxV Try.prog 24 (.sl cb 0 k none k2 1) (.i (i : Int)) = some (.ptr cb i 0 k2)) (g2 : loadV Try.prog H 3 (.ptr cb i 0 k2) = some (.i x0)) (g3 : loadV Try.prog H 72 (.ptr tb 0 0 1) = some (.agg [.sl 0 0 n none n 1, .map 1])) (g4 : ∀ kf, N ≤ kf → callN Try.prog polS (kf + 1) 47 [.agg [.sl 0 0 n none n 1, .map 1], .i x0, .i v] H = some (.i s, H0)) : RunsTo Try.prog polS 47 (sub [1, 1, 0, 1, 1, 0, 1, 0, 1, 0, 0] B47) (env47 (.agg [.sl 0 0 n none n 1, .map 1]) (.i v) (.i w) (.ptr tb 0 0 1) (.i 0) (.ptr kb 0 0 1) .undef (.i mo) .undef .undef (.sl cb 0 k none k2 1) (.i (k : Int)) (.i (i : Int))) H .normal (polS.keys 47) (env47 (.agg [.sl 0 0 n none n 1, .map 1]) (.i v) (.i w) (.ptr tb 0 0 1) (.i 0) (.ptr kb 0 0 1) .undef (.i (max mo (IntKind.i64.wrap (IntKind.i64.wrap ((i : Int) + 1) + s)))) (.i (i : Int)) (.i x0) (.sl cb 0 k none k2 1) (.i (k : Int)) (.i (IntKind.i64.wrap ((i : Int) + 1)))) H0 :=
  RunsTo.hin N 60 [⟨6, 0, .bool true, H⟩, ⟨7, 1, .ptr cb i 0 k2, H⟩, ⟨7, 2, .i x0, H⟩, ⟨8, 3, .agg [.sl 0 0 n none n 1, .map 1], H⟩, ⟨8, 6, .i s, H0⟩] fun kf hk => ⟨_, by kernel_rfl, (oB H (decide_eq_true g0) (oP H g1 (oP H g2 (oP H g3 (oC (g4 kf (by omega)) .nil)))))⟩
theorem ti_l_1 (N : Nat) (n : Nat) (v w : Int) (tb kb : Nat) (H : Heap) (mo : Int) (cb k k2 i : Nat)(g0 : ¬ ((i : Int) < (k : Int))) : RunsTo Try.prog polS 47 (sub [1, 1, 0, 1, 1, 0, 1, 0, 1, 0, 0] B47) (env47 (.agg [.sl 0 0 n none n 1, .map 1]) (.i v) (.i w) (.ptr tb 0 0 1) (.i 0) (.ptr kb 0 0 1) .undef (.i mo) .undef .undef (.sl cb 0 k none k2 1) (.i (k : Int)) (.i (i : Int))) H (.exit 0) (polS.keys 47) (env47 (.agg [.sl 0 0 n none n 1, .map 1]) (.i v) (.i w) (.ptr tb 0 0 1) (.i 0) (.ptr kb 0 0 1) .undef (.i mo) .undef .undef (.sl cb 0 k none k2 1) (.i (k : Int)) (.i (i : Int))) H :=
  RunsTo.hin N 60 [⟨6, 0, .bool false, H⟩] fun kf hk => ⟨_, by kernel_rfl, (oB H (decide_eq_false g0) .nil)⟩
theorem ti_g_0 (N : Nat) (n : Nat) (v w : Int) (tb kb : Nat) (H : Heap) (mo : Int) (cb k k2 i : Nat) (H0 : Heap) (g0 : loadV Try.prog H 70 (.ptr tb 0 1 1) = some (.map 1)) (g1 : loadV Try.prog H 33 (.ptr kb 0 0 1) = some (.agg [.i v, .i w])) (g2 : updV Try.prog false 70 (.map 1) (.agg [.i v, .i w]) (.i mo) H = some H0) : RunsTo Try.prog polS 47 (sub [1, 1, 0, 1, 1, 0, 1, 1] B47) (env47 (.agg [.sl 0 0 n none n 1, .map 1]) (.i v) (.i w) (.ptr tb 0 0 1) (.i 0) (.ptr kb 0 0 1) .undef (.i mo) .undef .undef (.sl cb 0 k none k2 1) (.i (k : Int)) (.i (i : Int))) H .normal (polS.keys 47) (env47 (.agg [.sl 0 0 n none n 1, .map 1]) (.i v) (.i w) (.ptr tb 0 0 1) (.i 0) (.ptr kb 0 0 1) .undef (.i mo) .undef .undef (.sl cb 0 k none k2 1) (.i (k : Int)) (.i (i : Int))) H0 :=
  RunsTo.hin N 60 [⟨10, 1, .map 1, H⟩, ⟨10, 2, .agg [.i v, .i w], H⟩, ⟨10, 4, .tuple [], H0⟩] fun kf hk => ⟨_, by kernel_rfl, (oP H g0 (oP H g1 (oS g2 .nil)))⟩
theorem ti_z_0 (N : Nat) (n : Nat) (v w : Int) (tb kb : Nat) (H : Heap) (y9 y10 y11 y12 y28 y29 y30 : HV) (t0 : Int) (g0 : loadV Try.prog H 70 (.ptr tb 0 1 1) = some (.map 1)) (g1 : loadV Try.prog H 33 (.ptr kb 0 0 1) = some (.agg [.i v, .i w])) (g2 : lkG Try.prog 70 H 1 (.agg [.i v, .i w]) false = some (.i t0, H)) : RunsTo Try.prog polS 47 (sub [1, 1, 1] B47) (env47 (.agg [.sl 0 0 n none n 1, .map 1]) (.i v) (.i w) (.ptr tb 0 0 1) (.i 0) (.ptr kb 0 0 1) y9 y10 y11 y12 y28 y29 y30) H .ret (polS.keys 47) (env47 (.agg [.sl 0 0 n none n 1, .map 1]) (.i v) (.i w) (.ptr tb 0 0 1) (.i t0) (.ptr kb 0 0 1) y9 y10 y11 y12 y28 y29 y30) H :=
  RunsTo.hin N 60 [⟨11, 1, .map 1, H⟩, ⟨11, 2, .agg [.i v, .i w], H⟩, ⟨11, 3, .i t0, H⟩] fun kf hk => ⟨_, by kernel_rfl, (oP H g0 (oP H g1 (oC (g2) .nil)))⟩
end Go.Proofs.Ytmhfkhlamnapdaa
end
section
open Go Go.HL
namespace Go.Proofs.Ytmhfkhlamnapdaa
def Sd (f : Int → Int) (l : List Int) (a b : Nat) : Prop := ∀ p q, a ≤ p → p < q → q < b → f (l.getD q 0) ≤ f (l.getD p 0)
structure Ran (a b : Nat) (l l' : List Int) : Prop where
  len : l'.length = l.length
  out : ∀ p, ¬ (a ≤ p ∧ p < b) → l'.getD p 0 = l.getD p 0
  inn : ∀ p, a ≤ p → p < b → ∃ p', a ≤ p' ∧ p' < b ∧ l'.getD p 0 = l.getD p' 0
  perm : l'.Perm l
theorem Ran.refl (a b : Nat) (l : List Int) : Ran a b l l := ⟨rfl, fun _ _ => rfl, fun p h1 h2 => ⟨p, h1, h2, rfl⟩, List.Perm.refl _⟩
theorem Ran.trans {a b : Nat} {l l' l'' : List Int} (h : Ran a b l l') (h' : Ran a b l' l'') : Ran a b l l'' := by
  refine ⟨h'.len.trans h.len, fun p hp => (h'.out p hp).trans (h.out p hp), fun p h1 h2 => ?_, h'.perm.trans h.perm⟩
  obtain ⟨p', g1, g2, g3⟩ := h'.inn p h1 h2
  obtain ⟨p'', k1, k2, k3⟩ := h.inn p' g1 g2
  exact ⟨p'', k1, k2, g3.trans k3⟩
theorem Ran.wide {a b a' b' : Nat} {l l' : List Int} (h : Ran a b l l') (ha : a' ≤ a) (hb : b ≤ b') : Ran a' b' l l' := by
  refine ⟨h.len, fun p hp => h.out p (by omega), fun p h1 h2 => ?_, h.perm⟩
  by_cases c : a ≤ p ∧ p < b
  · obtain ⟨p', g1, g2, g3⟩ := h.inn p c.1 c.2
    exact ⟨p', by omega, by omega, g3⟩
  · exact ⟨p, h1, h2, h.out p c⟩
theorem ran_swp {l : List Int} {a b i j : Nat} (hi : a ≤ i ∧ i < b) (hj : a ≤ j ∧ j < b) (hb : b ≤ l.length) : Ran a b l (swp l i j) := by
  have g := swp_get (l := l) (i := i) (j := j) (by omega) (by omega)
  refine ⟨swp_len _ _ _, fun p hp => ?_, fun p h1 h2 => ?_, swp_perm (by omega) (by omega)⟩
  · rw [g, if_neg (by omega), if_neg (by omega)]
  · rw [g]
    by_cases c1 : p = j
    · rw [if_pos c1]; exact ⟨i, hi.1, hi.2, rfl⟩
    · rw [if_neg c1]
      by_cases c2 : p = i
      · rw [if_pos c2]; exact ⟨j, hj.1, hj.2, rfl⟩
      · rw [if_neg c2]; exact ⟨p, h1, h2, rfl⟩
theorem Sd.ran {f : Int → Int} {l l' : List Int} {a b c d : Nat} (h : Sd f l a b) (hr : Ran c d l l') (hd : b ≤ c ∨ d ≤ a) : Sd f l' a b := fun p q h1 h2 h3 => by
  rw [hr.out p (by omega), hr.out q (by omega)]; exact h p q h1 h2 h3
theorem sink_ok (f : Int → Int) (a : Nat) : ∀ (j i : Nat) (l : List Int), a ≤ j → j ≤ i → i < l.length → (∀ p q, a ≤ p → p < q → q ≤ i → p ≠ j → q ≠ j → f (l.getD q 0) ≤ f (l.getD p 0)) → (∀ q, j < q → q ≤ i → f (l.getD q 0) ≤ f (l.getD j 0)) → Ran a (i + 1) l (sink f a j l) ∧ Sd f (sink f a j l) a (i + 1) := by
  intro j
  induction j with
  | zero =>
    intro i l ha hj hi h1 h2
    rw [sink]
    refine ⟨Ran.refl _ _ _, fun p q hp hpq hq => ?_⟩
    by_cases c : p = 0
    · rw [c]; exact h2 q (by omega) (by omega)
    · exact h1 p q hp hpq (by omega) c (by omega)
  | succ j ih =>
    intro i l ha hj hi h1 h2
    rw [sink]
    by_cases c : a < j + 1 ∧ f (l.getD j 0) < f (l.getD (j + 1) 0)
    · rw [if_pos c]
      have g := swp_get (l := l) (i := j + 1) (j := j) (by omega) (by omega)
      have r1 := ran_swp (l := l) (a := a) (b := i + 1) (i := j + 1) (j := j) (by omega) (by omega) (by omega)
      obtain ⟨r2, s2⟩ := ih i (swp l (j + 1) j) (by omega) (by omega) (by rw [swp_len]; exact hi) (fun p q hp hpq hq hpj hqj => by
        rw [g, g, if_neg hqj, if_neg hpj]
        by_cases e1 : q = j + 1
        · rw [if_pos e1, if_neg (by omega)]
          exact h1 p j hp (by omega) (by omega) (by omega) (by omega)
        · rw [if_neg e1]
          by_cases e2 : p = j + 1
          · rw [if_pos e2]
            exact h1 j q (by omega) (by omega) hq (by omega) (by omega)
          · rw [if_neg e2]
            exact h1 p q hp hpq hq e2 e1) (fun q hq hqi => by
        rw [g, g, if_neg (by omega), if_pos rfl]
        by_cases e1 : q = j + 1
        · rw [if_pos e1]; omega
        · rw [if_neg e1]
          exact h2 q (by omega) hqi)
      exact ⟨r1.trans r2, s2⟩
    · rw [if_neg c]
      refine ⟨Ran.refl _ _ _, fun p q hp hpq hq => ?_⟩
      by_cases e1 : p = j + 1
      · rw [e1]; exact h2 q (by omega) (by omega)
      · by_cases e2 : q = j + 1
        · rw [e2]
          have h3 : f (l.getD (j + 1) 0) ≤ f (l.getD j 0) := by
            by_cases c2 : a < j + 1
            · have := fun h => c ⟨c2, h⟩
              omega
            · omega
          by_cases e3 : p = j
          · rw [e3]; exact h3
          · have := h1 p j hp (by omega) (by omega) e1 (by omega)
            omega
        · exact h1 p q hp hpq (by omega) e1 e2
theorem insGo_ok (f : Int → Int) (a b : Nat) : ∀ (d i : Nat) (l : List Int), i + d = b → a < i → b ≤ l.length → Sd f l a i → Ran a b l (insGo f a d i l) ∧ Sd f (insGo f a d i l) a b := by
  intro d
  induction d with
  | zero =>
    intro i l hi ha hb hs
    have : i = b := by omega
    subst this
    exact ⟨Ran.refl _ _ _, hs⟩
  | succ d ih =>
    intro i l hi ha hb hs
    rw [insGo]
    obtain ⟨r1, s1⟩ := sink_ok f a i i l (by omega) (Nat.le_refl _) (by omega) (fun p q hp hpq hq hpi hqi => hs p q hp hpq (by omega)) (fun q h1 h2 => by omega)
    obtain ⟨r2, s2⟩ := ih (i + 1) (sink f a i l) (by omega) (by omega) (by rw [r1.len]; exact hb) s1
    exact ⟨(r1.wide (Nat.le_refl _) (by omega)).trans r2, s2⟩
theorem insertion_ok (f : Int → Int) {a b : Nat} {l : List Int} (hab : a ≤ b) (hb : b ≤ l.length) : Ran a b l (insertion f a b l) ∧ Sd f (insertion f a b l) a b := by
  unfold insertion
  rcases Nat.lt_or_ge a b with h | h
  · exact insGo_ok f a b (b - (a + 1)) (a + 1) l (by omega) (by omega) hb (fun p q h1 h2 h3 => by omega)
  · rw [show b - (a + 1) = 0 by omega]
    exact ⟨Ran.refl _ _ _, fun p q h1 h2 h3 => by omega⟩
theorem swapR_get (a b D : Nat) (hab : a + D ≤ b) : ∀ (d i : Nat) (l : List Int), i + d = D → b + D ≤ l.length → ∀ p, (swapR a b d i l).getD p 0 = if a + i ≤ p ∧ p < a + D then l.getD (p - a + b) 0 else if b + i ≤ p ∧ p < b + D then l.getD (p - b + a) 0 else l.getD p 0 := by
  intro d
  induction d with
  | zero =>
    intro i l hi hl p
    rw [swapR, if_neg (by omega), if_neg (by omega)]
  | succ d ih =>
    intro i l hi hl p
    have g := swp_get (l := l) (i := a + i) (j := b + i) (by omega) (by omega)
    rw [swapR, ih (i + 1) _ (by omega) (by rw [swp_len]; exact hl), g, g, g]
    by_cases c1 : p = a + i
    · rw [if_neg (by omega), if_neg (by omega), if_neg (by omega), if_pos c1, if_pos (by omega), c1]
      congr 1; omega
    · by_cases c2 : p = b + i
      · rw [if_neg (by omega), if_neg (by omega), if_pos c2, if_neg (by omega), if_pos (by omega), c2]
        congr 1; omega
      · by_cases c3 : a + (i + 1) ≤ p ∧ p < a + D
        · rw [if_pos c3, if_neg (by omega), if_neg (by omega), if_pos (by omega)]
        · rw [if_neg c3]
          by_cases c4 : b + (i + 1) ≤ p ∧ p < b + D
          · rw [if_pos c4, if_neg (by omega), if_neg (by omega), if_neg (by omega), if_pos (by omega)]
          · rw [if_neg c4, if_neg c2, if_neg c1, if_neg (by omega), if_neg (by omega)]
theorem swapR_ran {lo hi : Nat} (a b D : Nat) (ha : lo ≤ a) (hb : lo ≤ b) (ha' : a + D ≤ hi) (hb' : b + D ≤ hi) : ∀ (d i : Nat) (l : List Int), i + d = D → hi ≤ l.length → Ran lo hi l (swapR a b d i l) := by
  intro d
  induction d with
  | zero => intro i l _ _; exact Ran.refl _ _ _
  | succ d ih =>
    intro i l hid hl
    rw [swapR]
    exact (ran_swp (by omega) (by omega) hl).trans (ih (i + 1) _ (by omega) (by rw [swp_len]; exact hl))
theorem rotGo_ok (m : Nat) : ∀ (k i j : Nat) (l : List Int), i + j ≤ k + 1 → 0 < i → 0 < j → i ≤ m → m + j ≤ l.length → Ran (m - i) (m + j) l (rotGo m k i j l) ∧ ∀ p, m - i ≤ p → p < m + j → (rotGo m k i j l).getD p 0 = if p < m - i + j then l.getD (p - (m - i) + m) 0 else l.getD (p - j) 0 := by
  intro k
  induction k with
  | zero => intro i j l h hi hj; omega
  | succ k ih =>
    intro i j l h hi hj him hl
    rw [rotGo]
    by_cases c1 : i = j
    · rw [if_pos c1]
      subst c1
      refine ⟨swapR_ran _ _ i (by omega) (by omega) (by omega) (by omega) i 0 l (by omega) hl, fun p h1 h2 => ?_⟩
      rw [swapR_get (m - i) m i (by omega) i 0 l (by omega) (by omega)]
      by_cases c : p < m - i + i
      · rw [if_pos (by omega), if_pos c]
      · rw [if_neg (by omega), if_pos (by omega), if_neg c]
        congr 1; omega
    · rw [if_neg c1]
      by_cases c2 : j < i
      · rw [if_pos c2]
        have r1 := swapR_ran (lo := m - i) (hi := m + j) (m - i) m j (by omega) (by omega) (by omega) (by omega) j 0 l (by omega) hl
        have g1 := swapR_get (m - i) m j (by omega) j 0 l (by omega) (by omega)
        obtain ⟨r2, g2⟩ := ih (i - j) j (swapR (m - i) m j 0 l) (by omega) (by omega) hj (by omega) (by rw [swapR_len]; exact hl)
        refine ⟨r1.trans (r2.wide (by omega) (Nat.le_refl _)), fun p h1 h2 => ?_⟩
        by_cases c3 : p < m - i + j
        · rw [r2.out p (by omega), g1, if_pos (by omega), if_pos c3]
        · rw [if_neg c3, g2 p (by omega) h2]
          by_cases c4 : p < m - (i - j) + j
          · rw [if_pos c4, g1, if_neg (by omega), if_pos (by omega)]
            congr 1; omega
          · rw [if_neg c4, g1, if_neg (by omega), if_neg (by omega)]
      · rw [if_neg c2]
        have r1 := swapR_ran (lo := m - i) (hi := m + j) (m - i) (m + j - i) i (by omega) (by omega) (by omega) (by omega) i 0 l (by omega) hl
        have g1 := swapR_get (m - i) (m + j - i) i (by omega) i 0 l (by omega) (by omega)
        obtain ⟨r2, g2⟩ := ih i (j - i) (swapR (m - i) (m + j - i) i 0 l) (by omega) hi (by omega) him (by rw [swapR_len]; omega)
        refine ⟨r1.trans (r2.wide (by omega) (by omega)), fun p h1 h2 => ?_⟩
        by_cases c3 : p < m + (j - i)
        · rw [g2 p h1 c3]
          by_cases c4 : p < m - i + (j - i)
          · rw [if_pos c4, if_pos (by omega), g1, if_neg (by omega), if_neg (by omega)]
          · rw [if_neg c4, if_pos (by omega), g1, if_pos (by omega)]
            congr 1; omega
        · rw [r2.out p (by omega), if_neg (by omega), g1, if_neg (by omega), if_pos (by omega)]
          congr 1; omega
theorem rotate_ok {s m e : Nat} {l : List Int} (hs : s < m) (he : m < e) (hl : e ≤ l.length) : Ran s e l (rotate s m e l) ∧ ∀ p, s ≤ p → p < e → (rotate s m e l).getD p 0 = if p < s + (e - m) then l.getD (p - s + m) 0 else l.getD (p - (e - m)) 0 := by
  have h := rotGo_ok m (e - s) (m - s) (e - m) l (by omega) (by omega) (by omega) (by omega) (by omega)
  rw [show m - (m - s) = s by omega, show m + (e - m) = e by omega] at h
  exact h
theorem bs_ok (q : Nat → Bool) : ∀ (d i j : Nat), j - i ≤ d → i ≤ j → (∀ x y, i ≤ x → x ≤ y → y < j → q y = true → q x = true) → (∀ x, i ≤ x → x < bs q d i j → q x = true) ∧ (∀ x, bs q d i j ≤ x → x < j → q x = false) := by
  intro d
  induction d with
  | zero => intro i j hd hij hm; rw [bs]; exact ⟨fun x h1 h2 => by omega, fun x h1 h2 => by omega⟩
  | succ d ih =>
    intro i j hd hij hm
    rw [bs]
    by_cases c : i < j
    · rw [if_pos c]
      by_cases hq : q ((i + j) / 2) = true
      · rw [if_pos hq]
        obtain ⟨h1, h2⟩ := ih ((i + j) / 2 + 1) j (by omega) (by omega) (fun x y hx hxy hy => hm x y (by omega) hxy hy)
        refine ⟨fun x hx hlt => ?_, h2⟩
        by_cases c2 : x ≤ (i + j) / 2
        · exact hm x ((i + j) / 2) hx c2 (by omega) hq
        · exact h1 x (by omega) hlt
      · rw [if_neg hq]
        obtain ⟨h1, h2⟩ := ih i ((i + j) / 2) (by omega) (by omega) (fun x y hx hxy hy => hm x y hx hxy (by omega))
        refine ⟨h1, fun x hx hlt => ?_⟩
        by_cases c2 : x < (i + j) / 2
        · exact h2 x hx c2
        · cases e : q x with
          | false => rfl
          | true => exact absurd (hm ((i + j) / 2) x (by omega) (by omega) hlt e) hq
    · rw [if_neg c]; exact ⟨fun x h1 h2 => by omega, fun x h1 h2 => by omega⟩
theorem mvUp_ok : ∀ (d k : Nat) (l : List Int), k + d < l.length → Ran k (k + d + 1) l (mvUp d k l) ∧ ∀ p, k ≤ p → p ≤ k + d → (mvUp d k l).getD p 0 = if p = k + d then l.getD k 0 else l.getD (p + 1) 0 := by
  intro d
  induction d with
  | zero =>
    intro k l hl
    refine ⟨Ran.refl _ _ _, fun p h1 h2 => ?_⟩
    have : p = k := by omega
    subst this
    rw [mvUp, if_pos (by omega)]
  | succ d ih =>
    intro k l hl
    have g := swp_get (l := l) (i := k) (j := k + 1) (by omega) (by omega)
    obtain ⟨r2, g2⟩ := ih (k + 1) (swp l k (k + 1)) (by rw [swp_len]; omega)
    rw [mvUp]
    refine ⟨(ran_swp (by omega) (by omega) (by omega)).trans (r2.wide (by omega) (by omega)), fun p h1 h2 => ?_⟩
    by_cases c : p = k
    · rw [r2.out p (by omega), g, if_neg (by omega), if_pos c, if_neg (by omega), c]
    · rw [g2 p (by omega) (by omega), g, g]
      by_cases c2 : p = k + 1 + d
      · rw [if_pos c2, if_pos rfl, if_pos (by omega)]
      · rw [if_neg c2, if_neg (by omega), if_neg (by omega), if_neg (by omega)]
theorem mvDn_ok : ∀ (d k : Nat) (l : List Int), d ≤ k → k < l.length → Ran (k - d) (k + 1) l (mvDn d k l) ∧ ∀ p, k - d ≤ p → p ≤ k → (mvDn d k l).getD p 0 = if p = k - d then l.getD k 0 else l.getD (p - 1) 0 := by
  intro d
  induction d with
  | zero =>
    intro k l _ hl
    refine ⟨Ran.refl _ _ _, fun p h1 h2 => ?_⟩
    have : p = k := by omega
    subst this
    rw [mvDn, if_pos (by omega)]
  | succ d ih =>
    intro k l hd hl
    have g := swp_get (l := l) (i := k) (j := k - 1) (by omega) (by omega)
    obtain ⟨r2, g2⟩ := ih (k - 1) (swp l k (k - 1)) (by omega) (by rw [swp_len]; omega)
    rw [mvDn]
    refine ⟨(ran_swp (by omega) (by omega) (by omega)).trans (r2.wide (by omega) (by omega)), fun p h1 h2 => ?_⟩
    by_cases c : p = k
    · rw [r2.out p (by omega), g, if_neg (by omega), if_pos c, if_neg (by omega), c]
    · rw [g2 p (by omega) (by omega), g, g]
      by_cases c2 : p = k - 1 - d
      · rw [if_pos c2, if_pos rfl, if_pos (by omega)]
      · rw [if_neg c2, if_neg (by omega), if_neg (by omega), if_neg (by omega)]
theorem symM_ok (f : Int → Int) : ∀ (k a m b : Nat) (l : List Int), b - a ≤ k → a < m → m < b → b ≤ l.length → Sd f l a m → Sd f l m b → Ran a b l (symM f k a m b l) ∧ Sd f (symM f k a m b l) a b := by
  intro k
  induction k with
  | zero => intro a m b l h1 h2 h3; omega
  | succ k ih =>
    intro a m b l hk ham hmb hbl hs1 hs2
    rw [symM]
    by_cases c1 : m - a = 1
    · rw [if_pos c1]
      have hbd := bs_bound (fun h => decide (f (l.getD a 0) < f (l.getD h 0))) (b - m) m b (by omega)
      obtain ⟨q1, q2⟩ := bs_ok (fun h => decide (f (l.getD a 0) < f (l.getD h 0))) (b - m) m b (by omega) (by omega) (fun x y hx hxy hy hq => by
        simp only [decide_eq_true_eq] at hq ⊢
        rcases Nat.lt_or_ge x y with h | h
        · have := hs2 x y hx h hy; omega
        · rw [show x = y by omega]; exact hq)
      generalize bs (fun h => decide (f (l.getD a 0) < f (l.getD h 0))) (b - m) m b = i at hbd q1 q2
      simp only [decide_eq_true_eq, decide_eq_false_iff_not] at q1 q2
      obtain ⟨r, g⟩ := mvUp_ok (i - 1 - a) a l (by omega)
      rw [show a + (i - 1 - a) = i - 1 by omega] at g
      refine ⟨r.wide (Nat.le_refl _) (by omega), fun p q hp hpq hq => ?_⟩
      by_cases d1 : q ≤ i - 1
      · rw [g p hp (by omega), g q (by omega) d1, if_neg (show ¬ p = i - 1 by omega)]
        by_cases d2 : q = i - 1
        · rw [if_pos d2]
          have := q1 (p + 1) (by omega) (by omega); omega
        · rw [if_neg d2]
          exact hs2 (p + 1) (q + 1) (by omega) (by omega) (by omega)
      · rw [r.out q (by omega)]
        by_cases d2 : p ≤ i - 1
        · rw [g p hp d2]
          by_cases d3 : p = i - 1
          · rw [if_pos d3]
            have := q2 q (by omega) hq; omega
          · rw [if_neg d3]
            exact hs2 (p + 1) q (by omega) (by omega) hq
        · rw [r.out p (by omega)]
          exact hs2 p q (by omega) hpq hq
    · rw [if_neg c1]
      by_cases c2 : b - m = 1
      · rw [if_pos c2]
        have hbd := bs_bound (fun h => !decide (f (l.getD h 0) < f (l.getD m 0))) (m - a) a m (by omega)
        obtain ⟨q1, q2⟩ := bs_ok (fun h => !decide (f (l.getD h 0) < f (l.getD m 0))) (m - a) a m (by omega) (by omega) (fun x y hx hxy hy hq => by
          simp only [Bool.not_eq_true', decide_eq_false_iff_not] at hq ⊢
          rcases Nat.lt_or_ge x y with h | h
          · have := hs1 x y hx h hy; omega
          · rw [show x = y by omega]; exact hq)
        generalize bs (fun h => !decide (f (l.getD h 0) < f (l.getD m 0))) (m - a) a m = i at hbd q1 q2
        simp only [Bool.not_eq_true', Bool.not_eq_false', decide_eq_true_eq, decide_eq_false_iff_not] at q1 q2
        obtain ⟨r, g⟩ := mvDn_ok (m - i) m l (by omega) (by omega)
        rw [show m - (m - i) = i by omega] at g r
        refine ⟨r.wide (by omega) (by omega), fun p q hp hpq hq => ?_⟩
        by_cases d1 : i ≤ p
        · rw [g p d1 (by omega), g q (by omega) (by omega), if_neg (by omega)]
          by_cases d2 : p = i
          · rw [if_pos d2]
            have := q2 (q - 1) (by omega) (by omega); omega
          · rw [if_neg d2]
            exact hs1 (p - 1) (q - 1) (by omega) (by omega) (by omega)
        · rw [r.out p (by omega)]
          by_cases d2 : i ≤ q
          · rw [g q d2 (by omega)]
            by_cases d3 : q = i
            · rw [if_pos d3]
              have := q1 p hp (by omega); omega
            · rw [if_neg d3]
              exact hs1 p (q - 1) hp (by omega) (by omega)
          · rw [r.out q (by omega)]
            exact hs1 p q hp hpq (by omega)
      · rw [if_neg c2]
        dsimp only
        have hs0 : ∀ mid, mid = (a + b) / 2 → s0F m b mid a ≤ r0F m mid ∧ r0F m mid ≤ m ∧ a ≤ s0F m b mid a ∧ mid + m - s0F m b mid a ≤ b ∧ mid + m - r0F m mid ≥ m ∧ mid + m - r0F m mid ≥ mid ∧ s0F m b mid a ≤ mid + m ∧ r0F m mid ≤ mid ∧ (s0F m b mid a = a ∨ mid + m - s0F m b mid a = b) ∧ (r0F m mid = m ∨ mid + m - r0F m mid = m) := by
          intro mid hm
          unfold s0F r0F
          split <;> omega
        have hsF : sF f a m b l = bs (fun c => !decide (f (l.getD c 0) < f (l.getD ((a + b) / 2 + m - 1 - c) 0))) (r0F m ((a + b) / 2) - s0F m b ((a + b) / 2) a) (s0F m b ((a + b) / 2) a) (r0F m ((a + b) / 2)) := rfl
        have hb0 := hs0 _ rfl
        have hmb2 : m ≤ b := by omega
        generalize hmid : (a + b) / 2 = mid at hsF hb0
        generalize s0F m b mid a = s0 at hsF hb0
        generalize r0F m mid = r0 at hsF hb0
        obtain ⟨b1, b2, b3, b4, b5, b6, b7, b8, b9, b10⟩ := hb0
        have hbd := bs_bound (fun c => !decide (f (l.getD c 0) < f (l.getD (mid + m - 1 - c) 0))) (r0 - s0) s0 r0 b1
        obtain ⟨q1, q2⟩ := bs_ok (fun c => !decide (f (l.getD c 0) < f (l.getD (mid + m - 1 - c) 0))) (r0 - s0) s0 r0 (Nat.le_refl _) b1 (fun x y hx hxy hy hq => by
          simp only [Bool.not_eq_true', decide_eq_false_iff_not] at hq ⊢
          rcases Nat.lt_or_ge x y with h | h
          · have h1 := hs1 x y (by omega) h (by omega)
            have h2 := hs2 (mid + m - 1 - y) (mid + m - 1 - x) (by omega) (by omega) (by omega)
            omega
          · rw [show x = y by omega]; exact hq)
        rw [← hsF] at hbd q1 q2
        simp only [Bool.not_eq_true', Bool.not_eq_false', decide_eq_true_eq, decide_eq_false_iff_not] at q1 q2
        generalize sF f a m b l = s at hbd q1 q2
        generalize he : mid + m - s = e
        -- the four parts
        have x1 : ∀ p q, a ≤ p → p < s → e ≤ q → q < b → f (l.getD q 0) ≤ f (l.getD p 0) := fun p q h1 h2 h3 h4 => by
          have hne : s0 < s := by
            rcases b9 with h | h <;> omega
          have k1 := q1 (s - 1) (by omega) (by omega)
          rw [show mid + m - 1 - (s - 1) = e by omega] at k1
          have k2 : f (l.getD (s - 1) 0) ≤ f (l.getD p 0) := by
            rcases Nat.lt_or_ge p (s - 1) with h | h
            · exact hs1 p (s - 1) h1 h (by omega)
            · rw [show p = s - 1 by omega]; omega
          have k3 : f (l.getD q 0) ≤ f (l.getD e 0) := by
            rcases Nat.lt_or_ge e q with h | h
            · exact hs2 e q (by omega) h h4
            · rw [show q = e by omega]; omega
          omega
        have x2 : ∀ p q, m ≤ p → p < e → s ≤ q → q < m → f (l.getD q 0) ≤ f (l.getD p 0) := fun p q h1 h2 h3 h4 => by
          have hne : s < r0 := by
            rcases b10 with h | h <;> omega
          have k1 := q2 s (Nat.le_refl _) hne
          rw [show mid + m - 1 - s = e - 1 by omega] at k1
          have k2 : f (l.getD (e - 1) 0) ≤ f (l.getD p 0) := by
            rcases Nat.lt_or_ge p (e - 1) with h | h
            · exact hs2 p (e - 1) h1 h (by omega)
            · rw [show p = e - 1 by omega]; omega
          have k3 : f (l.getD q 0) ≤ f (l.getD s 0) := by
            rcases Nat.lt_or_ge s q with h | h
            · exact hs1 s q (by omega) h h4
            · rw [show q = s by omega]; omega
          omega
        -- after the rotation
        obtain ⟨ra, sa, sb, sc, sd, cross⟩ : Ran a b l (if s < m ∧ m < e then rotate s m e l else l) ∧ Sd f (if s < m ∧ m < e then rotate s m e l else l) a s ∧ Sd f (if s < m ∧ m < e then rotate s m e l else l) s mid ∧ Sd f (if s < m ∧ m < e then rotate s m e l else l) mid e ∧ Sd f (if s < m ∧ m < e then rotate s m e l else l) e b ∧
            ∀ p q, a ≤ p → p < mid → mid ≤ q → q < b → f ((if s < m ∧ m < e then rotate s m e l else l).getD q 0) ≤ f ((if s < m ∧ m < e then rotate s m e l else l).getD p 0) := by
          by_cases c : s < m ∧ m < e
          · simp only [if_pos c]
            obtain ⟨r, g⟩ := rotate_ok c.1 c.2 (l := l) (by omega)
            refine ⟨r.wide (by omega) (by omega), fun p q h1 h2 h3 => by rw [r.out p (by omega), r.out q (by omega)]; exact hs1 p q h1 h2 (by omega), fun p q h1 h2 h3 => ?_, fun p q h1 h2 h3 => ?_, fun p q h1 h2 h3 => ?_, fun p q h1 h2 h3 h4 => ?_⟩
            · rw [g p h1 (by omega), g q (by omega) (by omega), if_pos (by omega), if_pos (by omega)]
              exact hs2 _ _ (by omega) (by omega) (by omega)
            · rw [g p (by omega) (by omega), g q (by omega) h3, if_neg (by omega), if_neg (by omega)]
              exact hs1 _ _ (by omega) (by omega) (by omega)
            · rw [r.out p (by omega), r.out q (by omega)]
              exact hs2 p q (by omega) h2 h3
            · by_cases d1 : p < s
              · rw [r.out p (by omega)]
                by_cases d2 : q < e
                · rw [g q (by omega) d2, if_neg (by omega)]
                  exact hs1 _ _ h1 (by omega) (by omega)
                · rw [r.out q (by omega)]
                  exact x1 p q h1 d1 (by omega) h4
              · rw [g p (by omega) (by omega), if_pos (by omega)]
                by_cases d2 : q < e
                · rw [g q (by omega) d2, if_neg (by omega)]
                  exact x2 _ _ (by omega) (by omega) (by omega) (by omega)
                · rw [r.out q (by omega)]
                  exact hs2 _ _ (by omega) (by omega) h4
          · simp only [if_neg c]
            -- nothing to rotate: s = m or e = m, so that mid = e or mid = s
            have hm2 : (s = m ∧ e = mid) ∨ (e = m ∧ s = mid) := by omega
            refine ⟨Ran.refl _ _ _, fun p q h1 h2 h3 => hs1 p q h1 h2 (by omega), fun p q h1 h2 h3 => ?_, fun p q h1 h2 h3 => ?_, fun p q h1 h2 h3 => hs2 p q (by omega) h2 h3, fun p q h1 h2 h3 h4 => ?_⟩
            · rcases hm2 with ⟨e1, e2⟩ | ⟨e1, e2⟩
              · exact hs2 p q (by omega) h2 (by omega)
              · omega
            · rcases hm2 with ⟨e1, e2⟩ | ⟨e1, e2⟩
              · omega
              · exact hs1 p q (by omega) h2 (by omega)
            · rcases hm2 with ⟨e1, e2⟩ | ⟨e1, e2⟩
              · by_cases d1 : p < s
                · exact x1 p q h1 d1 (by omega) h4
                · exact hs2 p q (by omega) (by omega) h4
              · by_cases d2 : q < m
                · exact hs1 p q h1 (by omega) d2
                · exact x1 p q h1 (by omega) (by omega) h4
        have hla : (if s < m ∧ m < e then rotate s m e l else l).length = l.length := ra.len
        generalize (if s < m ∧ m < e then rotate s m e l else l) = l1 at ra sa sb sc sd cross hla
        -- the first half
        obtain ⟨rb, s2a⟩ : Ran a mid l1 (if a < s ∧ s < mid then symM f k a s mid l1 else l1) ∧ Sd f (if a < s ∧ s < mid then symM f k a s mid l1 else l1) a mid := by
          by_cases c : a < s ∧ s < mid
          · simp only [if_pos c]
            exact ih a s mid l1 (by omega) c.1 c.2 (by omega) sa sb
          · simp only [if_neg c]
            refine ⟨Ran.refl _ _ _, fun p q h1 h2 h3 => ?_⟩
            by_cases d : s = mid
            · exact sa p q h1 h2 (by omega)
            · exact sb p q (by omega) h2 h3
        have sc' := sc.ran rb (.inr (Nat.le_refl _))
        have sd' := sd.ran rb (.inr (by omega))
        have cross' : ∀ p q, a ≤ p → p < mid → mid ≤ q → q < b → f ((if a < s ∧ s < mid then symM f k a s mid l1 else l1).getD q 0) ≤ f ((if a < s ∧ s < mid then symM f k a s mid l1 else l1).getD p 0) := fun p q h1 h2 h3 h4 => by
          obtain ⟨p', k1, k2, k3⟩ := rb.inn p h1 h2
          rw [k3, rb.out q (by omega)]
          exact cross p' q k1 k2 h3 h4
        have hlb : (if a < s ∧ s < mid then symM f k a s mid l1 else l1).length = l.length := rb.len.trans hla
        generalize (if a < s ∧ s < mid then symM f k a s mid l1 else l1) = l2 at rb s2a sc' sd' cross' hlb
        -- the other half
        obtain ⟨rc, s3a⟩ : Ran mid b l2 (if mid < e ∧ e < b then symM f k mid e b l2 else l2) ∧ Sd f (if mid < e ∧ e < b then symM f k mid e b l2 else l2) mid b := by
          by_cases c : mid < e ∧ e < b
          · simp only [if_pos c]
            exact ih mid e b l2 (by omega) c.1 c.2 (by omega) sc' sd'
          · simp only [if_neg c]
            refine ⟨Ran.refl _ _ _, fun p q h1 h2 h3 => ?_⟩
            by_cases d : e = mid
            · exact sd' p q (by omega) h2 h3
            · exact sc' p q h1 h2 (by omega)
        have s2a' := s2a.ran rc (.inl (Nat.le_refl _))
        refine ⟨ra.trans ((rb.wide (Nat.le_refl _) (by omega)).trans (rc.wide (by omega) (Nat.le_refl _))), fun p q h1 h2 h3 => ?_⟩
        by_cases d1 : q < mid
        · exact s2a' p q h1 h2 d1
        · by_cases d2 : p < mid
          · obtain ⟨q', k1, k2, k3⟩ := rc.inn q (by omega) h3
            rw [k3, rc.out p (by omega)]
            exact cross' p q' h1 d2 k1 k2
          · exact s3a p q (by omega) h2 h3
theorem stable_ok (f : Int → Int) {n : Nat} {l : List Int} (hl : l.length = n) : (stable f n l).Perm l ∧ Sd f (stable f n l) 0 n := by
  unfold stable stab1
  by_cases c1 : 20 ≤ n
  · rw [if_pos c1]
    obtain ⟨r1, s1⟩ := insertion_ok f (a := 0) (b := 20) (l := l) (by omega) (by omega)
    obtain ⟨r2, s2⟩ := insertion_ok f (a := 20) (b := n) (l := insertion f 0 20 l) c1 (by rw [r1.len]; omega)
    have s1' := s1.ran r2 (.inl (Nat.le_refl _))
    by_cases c2 : 20 < n
    · rw [if_pos c2]
      obtain ⟨r3, s3⟩ := symM_ok f n 0 20 n (insertion f 20 n (insertion f 0 20 l)) (by omega) (by omega) c2 (by rw [r2.len, r1.len]; omega) s1' s2
      exact ⟨r3.perm.trans (r2.perm.trans r1.perm), s3⟩
    · rw [if_neg c2]
      have : n = 20 := by omega
      subst this
      exact ⟨r2.perm.trans r1.perm, s1'⟩
  · rw [if_neg c1, if_neg (by omega)]
    obtain ⟨r1, s1⟩ := insertion_ok f (a := 0) (b := n) (l := l) (by omega) (by omega)
    exact ⟨r1.perm, s1⟩
end Go.Proofs.Ytmhfkhlamnapdaa
end
section
open Go Go.HL
namespace Go.Proofs.Ytmhfkhlamnapdaa
theorem res47 : Try.f47.results.toList = [.tmp 6] := by kernel_rfl
def bestGo : Nat → Int → List Int → Int
  | _, mo, [] => mo
  | i, mo, t :: l => bestGo (i + 1) (max mo ((i : Int) + 1 + t)) l
abbrev boxK (v w : Int) : Blk := .arr 2 [.agg [.int .i64 v, .int .i64 w]] true 0
section
variable {adj : List (List Nat)} {T : Int → Int → Int} {n : Nat}
theorem mxs_fr {H H' : Heap} {m : Nat} (hM : Mem adj T H') (hs : ∀ j, j ≠ 1 → H'[j]? = H[j]?) (hx : mxs H ≤ m) : mxs H' ≤ m := by
  rw [mxs_get] at hx ⊢
  intro j B hB
  by_cases e : j = 1
  · obtain ⟨ks, hks⟩ := hM.memo
    rw [e, hks] at hB
    rw [← Option.some.inj hB]; exact Nat.zero_le _
  · rw [hs j e] at hB; exact hx j B hB
end
section
variable {adj : List (List Nat)} {T : Int → Int → Int} {n : Nat}
theorem gr_of {H Hd : Heap} (hM : Mem adj T H) (hD : Mem adj T Hd) (hlen : H.length ≤ Hd.length) (hs : ∀ j, j ≠ 1 → j < H.length → Hd[j]? = H[j]?) (hx : mxs Hd ≤ H.length + 4) (hb : ∀ (j : Nat) (B : Blk), H.length ≤ j → j < H.length + 4 → Hd[j]? = some B → B.mx ≤ 2) : Gr adj T H (gc H.length 0 Hd) := by
  have h2 := hM.two
  have hm := hD.mx
  have e : gc H.length 0 Hd = Hd.take (max H.length (mxs Hd)) := by
    simp only [gc, Nat.zero_max]
  rw [e]
  refine ⟨hD.take (by omega) (by omega) (by omega), by rw [List.length_take]; omega, fun k h1 hk => by rw [List.getElem?_take, if_pos (by omega)]; exact hs k h1 hk, ?_⟩
  rw [mxs_get]
  intro j B hB
  rw [List.getElem?_take] at hB
  split at hB
  · by_cases c : j < H.length
    · by_cases e1 : j = 1
      · obtain ⟨ks, hks⟩ := hD.memo
        rw [e1, hks] at hB
        rw [← Option.some.inj hB]; exact Nat.zero_le _
      · rw [hs j e1 c] at hB
        exact mxs_get.1 hM.mx j B hB
    · have := hb j B (by omega) (by omega) hB
      omega
  · cases hB
end
section
variable {adj : List (List Nat)} {T : Int → Int → Int} {n : Nat}
abbrev tmQ (n : Nat) (v w : Int) (tb kb : Nat) (v9 v10 v11 v12 v28 v29 v30 : HV) : Env := env47 (TV n) (.int .i64 v) (.int .i64 w) (.ptr tb 0 0 1) (.int .i64 0) (.ptr kb 0 0 1) v9 v10 v11 v12 v28 v29 v30
end
section
variable {adj : List (List Nat)} {T : Int → Int → Int} {n : Nat}
theorem ti_loop {v w : Int} {tb kb cb : Nat} {S : List Int} {k : Nat} (hk : S.length = k) (hk9 : k ≤ 1000) (htb : tb ≠ 1 ∧ kb ≠ 1 ∧ cb ≠ 1) (hT : ∀ u, u ∈ S → TimeOk adj T n u v) (hB : ∀ u, u ∈ S → 0 ≤ T u v ∧ T u v ≤ 100000) :
    ∀ d i mo H, i + d = k → Mem adj T H → H[cb]? = some (bI S) → H[tb]? = some (boxT n) → kb < H.length →
    ∃ H', RunsTo Try.prog polS 47 (sub [1, 1, 0, 1, 1, 0, 1, 0, 1, 0] B47) (tmQ n v w tb kb .undef (.int .i64 mo) .undef .undef (.sl cb 0 k none k 1) (.int .i64 (k : Int)) (.int .i64 (i : Int))) H
      (.exit 0) (polS.keys 47) (tmQ n v w tb kb .undef (.int .i64 (bestGo i mo ((S.drop i).map fun u => T u v))) .undef .undef (.sl cb 0 k none k 1) (.int .i64 (k : Int)) (.int .i64 (k : Int))) H' ∧ Mem adj T H' ∧ Fr H H' := by
  intro d
  induction d with
  | zero =>
    intro i mo H hi hM hc ht hkb
    have hi : i = k := by omega
    subst hi
    rw [List.drop_of_length_le (by omega)]
    exact ⟨H, RunsTo.loop_out (ti_l_1 0 n v w tb kb H mo cb i i i (by omega)) (by simp) (by kernel_rfl) (by kernel_rfl), hM, Fr.refl _⟩
  | succ d ih =>
    intro i mo H hi hM hc ht hkb
    have hiS : i < S.length := by omega
    have hmem : S.getD i 0 ∈ S := by
      have : S.getD i 0 = S[i] := by simp [List.getD, List.getElem?_eq_getElem hiS]
      rw [this]; exact List.getElem_mem hiS
    obtain ⟨H1, hcl, hG⟩ := hT _ hmem H hM
    obtain ⟨N, hN⟩ := hcl.from
    have hb := hB _ hmem
    have s := ti_l_0 N n v w tb kb H mo cb k k i (S.getD i 0) (T (S.getD i 0) v) H1 (by omega) (gi2 (by omega)) (gl2 hc hk (by omega)) (ld_T ht) hN
    have w1 : IntKind.i64.wrap (((i : Nat) : Int) + 1) = (i : Int) + 1 := by rw [wrapI64]; omega
    have w2 : IntKind.i64.wrap ((i : Int) + 1 + T (S.getD i 0) v) = (i : Int) + 1 + T (S.getD i 0) v := by rw [wrapI64]; omega
    rw [w1, w2] at s
    have hcl := lt_of_get hc
    have htl := lt_of_get ht
    have h2 := hM.two
    obtain ⟨hM1, hF1⟩ := hG.fr h2 (r := bndE (tmQ n v w tb kb .undef (.int .i64 (max mo ((i : Int) + 1 + T (S.getD i 0) v))) .undef .undef (.sl cb 0 k none k 1) (.int .i64 (k : Int)) (.int .i64 ((i : Int) + 1)))) (by simp only [bndE, bnd, bndL]; omega)
    obtain ⟨H', r, hM', hF'⟩ := ih (i + 1) (max mo ((i : Int) + 1 + T (S.getD i 0) v)) _ (by omega) hM1 (by rw [hF1.same _ htb.2.2]; exact hc) (by rw [hF1.same _ htb.1]; exact ht) (by rw [hF1.len]; exact hkb)
    rw [List.drop_eq_getElem_cons hiS, List.map_cons, bestGo]
    have hg : S[i] = S.getD i 0 := by simp [List.getD, List.getElem?_eq_getElem hiS]
    rw [hg]
    refine ⟨H', RunsTo.loop s (by kernel_rfl) rfl r rfl (by kernel_rfl) (by kernel_rfl), hM', hF1.trans hF'⟩
end
section
variable {adj : List (List Nat)} {T : Int → Int → Int} {n : Nat}
theorem time_step {v : Nat} {w : Int} {r : List Nat} (hn : adj.length = n) (hr : adj[v]? = some r) (h39 : r.length ≤ 39) (hT : ∀ u, u ∈ keep w (rowI r) → TimeOk adj T n u v) (hB : ∀ u, u ∈ keep w (rowI r) → 0 ≤ T u v ∧ T u v ≤ 100000)
    (hrec : T v w = bestGo 0 0 ((stable (fun u => T u v) (keep w (rowI r)).length (keep w (rowI r))).map fun u => T u v)) : TimeOk adj T n v w := by
  intro H hM
  have h2 := hM.two
  have hb0 : newV (TV n) H = (.ptr H.length 0 0 1, H ++ [boxT n]) := by
    simp only [newV, cellsOf, bnd, bndL, List.length_cons, List.length_nil]
    simp
  have a := ti_a_0 0 n v w H.length H _ (by rw [hb0])
  have hb1 : newV (.agg [.i 0, .i 0]) (H ++ [boxT n]) = (.ptr (H.length + 1) 0 0 1, H ++ [boxT n] ++ [boxK 0 0]) := by
    simp only [newV, cellsOf, bnd, bndL, List.length_cons, List.length_nil, List.length_append]
    simp
  have hk0 : (H ++ [boxT n] ++ [boxK 0 0])[H.length + 1]? = some (boxK 0 0) := by rw [List.getElem?_append_right (by simp)]; simp
  have hst : storeV Try.prog (H ++ [boxT n] ++ [boxK 0 0]) 33 (.ptr (H.length + 1) 0 0 1) (.agg [.i v, .i w]) = some ((H ++ [boxT n] ++ [boxK 0 0]).set (H.length + 1) (boxK v w)) := by
    have := store_agg (P := Try.prog) (t := 33) (b := H.length + 1) (i := 0) (tot := 1) (new := [.i (v : Int), .i w]) hk0 rfl rfl s33c rfl (by simp) rfl rfl
    rw [this]; rfl
  have b := ti_b_0 0 n v w H.length (H.length + 1) (H ++ [boxT n]) _ _ (by rw [hb1]) hst
  have hset : (H ++ [boxT n] ++ [boxK 0 0]).set (H.length + 1) (boxK v w) = H ++ [boxT n] ++ [boxK v w] := by
    rw [List.set_append_right _ _ (by simp)]; simp
  rw [hset] at b
  have hMa : Mem adj T (H ++ [boxT n] ++ [boxK v w]) := (hM.app (same_T n) (by show 2 ≤ _; omega)).app (by simp [sameH, sameL, same]) (Nat.zero_le _)
  have hla : (H ++ [boxT n] ++ [boxK (v : Int) w]).length = H.length + 2 := by simp
  have hlow : ∀ j, j < H.length → (H ++ [boxT n] ++ [boxK (v : Int) w])[j]? = H[j]? := fun j hj => by
    rw [List.getElem?_append_left (by simp; omega), List.getElem?_append_left hj]
  have gT : (H ++ [boxT n] ++ [boxK (v : Int) w])[H.length]? = some (boxT n) := by
    rw [List.getElem?_append_left (by simp), List.getElem?_append_right (Nat.le_refl _)]; simp
  have gK : (H ++ [boxT n] ++ [boxK (v : Int) w])[H.length + 1]? = some (boxK v w) := by
    rw [List.getElem?_append_right (by simp)]; simp
  generalize H ++ [boxT n] ++ [boxK (v : Int) w] = Ha at b hMa hla hlow gT gK
  have ldK : ∀ {Hx : Heap}, Hx[H.length + 1]? = some (boxK v w) → loadV Try.prog Hx 33 (.ptr (H.length + 1) 0 0 1) = some (.agg [.i v, .i w]) := fun h => load_agg h rfl rfl a33c s33c
  have done : ∀ (E : Env) (Hd : Heap), RunsTo Try.prog polS 47 (sub [1, 1] B47) (tmQ n v w H.length (H.length + 1) .undef .undef .undef .undef .undef .undef .undef) Ha .ret (polS.keys 47) E Hd → E.get 6 = .i (T v w) → Cl 47 [TV n, .i v, .i w] H (.i (T v w)) (gc H.length 0 Hd) := by
    intro E Hd t h6
    have t2 := RunsTo.seq a (RunsTo.seq b t (c := sub [1] B47) (by kernel_rfl) (by kernel_rfl)) (c := B47) (by kernel_rfl) (by kernel_rfl)
    exact CallsTo.shared (P := Try.prog) (pol := polS) (g := 47) (fn := Try.f47) (cd := B47) (args := [TV n, .i v, .i w]) (v := .i (T v w)) (by kernel_rfl) (by kernel_rfl) (by kernel_rfl) (by kernel_rfl) t2 (by kernel_rfl) (by simp) (by simp only [resultsV, res47, mapO, resultV, h6])
  obtain ⟨bb, hl1, hl2⟩ := hMa.lk (v, w)
  cases bb with
  | true =>
    have c := ti_c_0 0 n v w H.length (H.length + 1) Ha _ (ld_m gT) (ldK gK) hl1
    have d := ti_dt_0 0 n v w H.length (H.length + 1) Ha
    have z := ti_z_0 0 n v w H.length (H.length + 1) Ha (.bool true) .undef .undef .undef .undef .undef .undef (T v w) (ld_m gT) (ldK gK) (hl2 rfl)
    have sk : RunsTo Try.prog polS 47 (sub [1, 1, 0, 1, 1, 1] B47) (tmQ n v w H.length (H.length + 1) (.bool true) .undef .undef .undef .undef .undef .undef) Ha .normal (polS.keys 47) (tmQ n v w H.length (H.length + 1) (.bool true) .undef .undef .undef .undef .undef .undef) Ha := RunsTo.hint 1 60 [] fun kf hk => by
      obtain ⟨kf, rfl⟩ : ∃ n, kf = n + 1 := ⟨kf - 1, by omega⟩
      exact ⟨[], by kernel_rfl, Obls.nil⟩
    have t1 := RunsTo.seq d (RunsTo.cond (y := .tmp 24) (t := false) (c := sub [1, 1, 0, 1, 1] B47) (a := sub [1, 1, 0, 1, 1, 0] B47) (b := sub [1, 1, 0, 1, 1, 1] B47) (by kernel_rfl) rfl sk) (c := sub [1, 1, 0, 1] B47) (by kernel_rfl) (by kernel_rfl)
    have t2 := RunsTo.seq (RunsTo.seq c t1 (c := sub [1, 1, 0] B47) (by kernel_rfl) (by kernel_rfl)) z (c := sub [1, 1] B47) (by kernel_rfl) (by kernel_rfl)
    refine ⟨_, done _ _ t2 rfl, gr_of hM hMa (by omega) (fun j h1 hj => hlow j hj) (by have := hMa.mx; omega) fun j B h1 h3 hB => ?_⟩
    have hjl := lt_of_get hB
    by_cases e : j = H.length
    · rw [e, gT] at hB
      rw [← Option.some.inj hB]; exact Nat.le_refl _
    · have e : j = H.length + 1 := by omega
      rw [e, gK] at hB
      rw [← Option.some.inj hB]; exact Nat.zero_le _
  | false =>
    have c := ti_c_1 0 n v w H.length (H.length + 1) Ha (ld_m gT) (ldK gK) hl1
    have d := ti_df_0 0 n v w H.length (H.length + 1) Ha
    have e := ti_e_0 0 n v w H.length (H.length + 1) Ha
    obtain ⟨Hb, hclb, hMb, hlb, hSb, hlowb, gTb, gIb, hxb⟩ := br_call hMa hn hr h39 hT
    obtain ⟨Nb, hNb⟩ := hclb.from
    have f := ti_f_0 Nb n v w H.length (H.length + 1) Ha 0 _ _ _ Hb (ld_T gT) hNb
    rw [hla] at hlb hSb gTb gIb hxb f
    have hok := stable_ok (fun u => T u v) (n := (keep w (rowI r)).length) (l := keep w (rowI r)) rfl
    have hkl : (keep w (rowI r)).length ≤ 39 := by
      have h1 : (keep w (rowI r)).length ≤ (rowI r).length := List.length_filter_le _ _
      have h2 : (rowI r).length = r.length := by simp [rowI]
      omega
    have hmm : ∀ u, u ∈ stable (fun u => T u v) (keep w (rowI r)).length (keep w (rowI r)) → u ∈ keep w (rowI r) := fun u hu => hok.1.mem_iff.1 hu
    have gT2 : Hb[H.length]? = some (boxT n) := by rw [hlowb _ (by omega) (by omega)]; exact gT
    have gK2 : Hb[H.length + 1]? = some (boxK v w) := by rw [hlowb _ (by omega) (by omega)]; exact gK
    obtain ⟨Hc, rl, hMc, hFc⟩ := ti_loop (adj := adj) (T := T) (n := n) (v := (v : Int)) (w := w) (tb := H.length) (kb := H.length + 1) (cb := H.length + 2 + 5) (S := stable (fun u => T u v) (keep w (rowI r)).length (keep w (rowI r))) (k := (keep w (rowI r)).length) (stable_len _ _ _) (by omega) ⟨by omega, by omega, by omega⟩ (fun u hu => hT u (hmm u hu)) (fun u hu => hB u (hmm u hu)) (keep w (rowI r)).length 0 0 Hb (by omega) hMb hSb gT2 (by omega)
    rw [List.drop_zero, ← hrec] at rl
    have gT3 : Hc[H.length]? = some (boxT n) := by rw [hFc.same _ (by omega)]; exact gT2
    have gK3 : Hc[H.length + 1]? = some (boxK v w) := by rw [hFc.same _ (by omega)]; exact gK2
    obtain ⟨Hd, hu, hMd, hFd, hlk, hsd⟩ := hMc.upd (v, w)
    have gT4 : Hd[H.length]? = some (boxT n) := by rw [hsd _ (by omega)]; exact gT3
    have gK4 : Hd[H.length + 1]? = some (boxK v w) := by rw [hsd _ (by omega)]; exact gK3
    have g := ti_g_0 0 n v w H.length (H.length + 1) Hc (T v w) (H.length + 2 + 5) (keep w (rowI r)).length (keep w (rowI r)).length (keep w (rowI r)).length Hd (ld_m gT3) (ldK gK3) hu
    have z := ti_z_0 0 n v w H.length (H.length + 1) Hd .undef (.i (T v w)) .undef .undef (.sl (H.length + 2 + 5) 0 (keep w (rowI r)).length none (keep w (rowI r)).length 1) (.i ((keep w (rowI r)).length : Int)) (.i ((keep w (rowI r)).length : Int)) (T v w) (ld_m gT4) (ldK gK4) hlk
    have rl' := RunsTo.loop_in (e0 := tmQ n v w H.length (H.length + 1) (.bool false) (.i 0) .undef .undef (.sl (H.length + 2 + 5) 0 (keep w (rowI r)).length none (keep w (rowI r)).length 1) (.i ((keep w (rowI r)).length : Int)) (.i 0)) rl (b := sub [1, 1, 0, 1, 1, 0, 1, 0, 1, 0, 0] B47) (by kernel_rfl) (by kernel_rfl) (by kernel_rfl)
    have t1 := RunsTo.seq f (RunsTo.block_exit (c := sub [1, 1, 0, 1, 1, 0, 1, 0, 1] B47) rl' (by kernel_rfl)) (c := sub [1, 1, 0, 1, 1, 0, 1, 0] B47) (by kernel_rfl) (by kernel_rfl)
    have t2 := RunsTo.seq t1 g (c := sub [1, 1, 0, 1, 1, 0, 1] B47) (by kernel_rfl) (by kernel_rfl)
    have t3 := RunsTo.seq e t2 (c := sub [1, 1, 0, 1, 1, 0] B47) (by kernel_rfl) (by kernel_rfl)
    have t4 := RunsTo.seq d (RunsTo.cond (y := .tmp 24) (t := true) (c := sub [1, 1, 0, 1, 1] B47) (a := sub [1, 1, 0, 1, 1, 0] B47) (b := sub [1, 1, 0, 1, 1, 1] B47) (by kernel_rfl) rfl t3) (c := sub [1, 1, 0, 1] B47) (by kernel_rfl) (by kernel_rfl)
    have t5 := RunsTo.seq (RunsTo.seq c t4 (c := sub [1, 1, 0] B47) (by kernel_rfl) (by kernel_rfl)) z (c := sub [1, 1] B47) (by kernel_rfl) (by kernel_rfl)
    have hsame : ∀ j, j ≠ 1 → Hd[j]? = Hb[j]? := fun j h1 => by rw [hsd j h1, hFc.same j h1]
    refine ⟨_, done _ _ t5 rfl, gr_of hM hMd (by rw [hFd.len, hFc.len]; omega) (fun j h1 hj => by rw [hsame j h1, hlowb j h1 (by omega), hlow j hj]) (mxs_fr hMd hsame (by omega)) fun j B h1 h3 hB => ?_⟩
    rw [hsame j (by omega)] at hB
    by_cases e : j = H.length
    · rw [e, gT2] at hB
      rw [← Option.some.inj hB]; exact Nat.le_refl _
    · by_cases e2 : j = H.length + 1
      · rw [e2, gK2] at hB
        rw [← Option.some.inj hB]; exact Nat.zero_le _
      · by_cases e3 : j = H.length + 2
        · rw [e3, gTb] at hB
          rw [← Option.some.inj hB]; exact Nat.le_refl _
        · have e4 : j = H.length + 2 + 1 := by omega
          rw [e4, gIb] at hB
          rw [← Option.some.inj hB]; exact Nat.zero_le _
end
end Go.Proofs.Ytmhfkhlamnapdaa
end
section
open Go Go.HL
namespace Go.Proofs.Ytmhfkhlamnapdaa
theorem res57 : Try.f57.results.toList = [.tmp 8] := by kernel_rfl
theorem info3b : (Try.prog.info? 3).map (fun i => (i.size, i.bytes, zeroFits i)) = some (1, 8, true) := by kernel_rfl
theorem appV_ints {H : Heap} {b : Nat} {o xs : List Int} (hb : H[b]? = some (bI o)) (hlen : o.length + xs.length ≤ 1000) (hx : xs ≠ []) :
    appV H 1 8 (.sl b 0 o.length none o.length 1) (xs.map encI) = some (.sl b 0 (o.length + xs.length) none (o.length + xs.length) 1, H.set b (bI (o ++ xs))) := by
  have hbl : ∀ l : List Int, bndL (l.map encI) = 0 := by
    intro l
    induction l with
    | nil => rfl
    | cons a l ih => simp only [List.map_cons, bndL, ih, encI, bnd]; rfl
  have hne : xs.map encI ≠ [] := by simpa using hx
  simp only [appV, if_neg hne, hb, List.length_map, hbl]
  rw [if_pos ⟨trivial, trivial, trivial, by rw [show roomMax = 70368744177664 from rfl]; omega⟩, if_pos ⟨trivial, trivial, trivial⟩]
  simp only [bI, List.map_append, Nat.max_zero]
theorem set_self' {H : Heap} {b : Nat} {B : Blk} (hb : H[b]? = some B) : H.set b B = H := by
  apply List.ext_getElem?
  intro k
  rw [List.getElem?_set]
  by_cases e : b = k
  · subst e; rw [if_pos rfl, if_pos (lt_of_get hb), hb]
  · rw [if_neg e]
theorem app_sq {H : Heap} {b : Nat} {x : HV} {o xs : List Int} (hb : H[b]? = some (bI o)) (hs : srcOf H x = some (xs.map encI, 1)) (hlen : o.length + xs.length ≤ 1000) :
    builtinV Try.prog .append [24, 24] [.sl b 0 o.length none o.length 1, x] H = some (.sl b 0 (o.length + xs.length) none (o.length + xs.length) 1, H.set b (bI (o ++ xs))) := by
  have hi := info3b
  cases hinf : Try.prog.info? 3 with
  | none => rw [hinf] at hi; cases hi
  | some inf =>
    rw [hinf] at hi
    simp only [Option.map, Option.some.injEq, Prod.mk.injEq] at hi
    obtain ⟨e1, e2, e3⟩ := hi
    simp only [builtinV, u24b, hinf, hs, e1, e2, e3]
    rw [if_pos ⟨.inl trivial, by omega, trivial⟩]
    by_cases hx : xs = []
    · subst hx
      simp only [List.map_nil, appV, if_true, List.length_nil, Nat.add_zero, List.append_nil, set_self' hb]
    · exact appV_ints hb hlen hx
theorem src_sl {H : Heap} {b off len tot : Nat} {o : List Int} (hb : H[b]? = some (bI o)) (ht : o.length = tot) (h : off + len ≤ tot) : srcOf H (.sl b off len none tot 1) = some (((o.drop off).take len).map encI, 1) := by
  simp only [srcOf]
  split
  · rename_i h0
    subst h0
    simp
  · simp only [view, hb, List.length_map, ht]
    rw [if_pos ⟨trivial, by omega, trivial⟩]
    simp [List.map_take, List.map_drop]
def dsIns (t : Int) : List Int → List Int
  | [] => [t]
  | a :: l => if t ≤ a then a :: dsIns t l else t :: a :: l
def dsAcc : List Int → List Int → List Int
  | acc, [] => acc
  | acc, t :: l => dsAcc (dsIns t acc) l
theorem dsIns_len (t : Int) : ∀ l : List Int, (dsIns t l).length = l.length + 1
  | [] => rfl
  | a :: l => by
    rw [dsIns]
    split
    · simp [dsIns_len t l]
    · rfl
theorem dsIns_at (t : Int) : ∀ (l : List Int) (p : Nat), p ≤ l.length → (∀ i, i < p → t ≤ l.getD i 0) → (p < l.length → ¬ t ≤ l.getD p 0) → dsIns t l = l.take p ++ [t] ++ l.drop p
  | [], p, h, _, _ => by simp [dsIns]
  | a :: l, 0, _, _, h => by
    have h := h (by simp)
    simp only [List.getD_cons_zero] at h
    rw [dsIns, if_neg h]; simp
  | a :: l, p + 1, h0, h1, h2 => by
    have ha := h1 0 (by omega)
    simp only [List.getD_cons_zero] at ha
    rw [dsIns, if_pos ha, dsIns_at t l p (by simpa using h0) (fun i hi => by simpa using h1 (i + 1) (by omega)) (fun hp => by simpa using h2 (by simpa using hp))]
    simp
def RT (n : Int) (l : List (Int × Int)) (T : Int → Int → Int) (x w : Int) : Prop :=
  ∀ H, CallsTo (P := Try.prog) (pol := polN) 57 [.int .i64 n, .imm .arg 2 (l.map encP), .int .i64 x, .int .i64 w] H (.int .i64 (T x w)) H
abbrev rtE (n : Int) (lc : List HV) (x w : Int) (r8 : Int) (v9 v10 v11 v12 v13 v14 v15 v16 : HV) : Env := env57 (.int .i64 n) (.imm .arg 2 lc) (.int .i64 x) (.int .i64 w) (.int .i64 r8) v9 v10 v11 v12 v13 v14 v15 v16
section
variable {n : Int} {lc : List HV} {x w : Int}
theorem rt_scan {tb nbk m i : Nat} {q : Int} {o : List Int} {H : Heap} (ho : H[tb]? = some (bI o)) (h1000 : o.length ≤ 1000) : ∀ d j, j + d = o.length → (∀ i, i < j → q ≤ o.getD i 0) →
    ∃ p : Nat, RunsTo Try.prog polN 57 (sub [1, 1, 1, 0, 1, 0, 0, 1, 0, 0, 1, 1, 1, 0, 0] B57) (rtE n lc x w 0 (.sl tb 0 o.length none o.length 1) (.sl nbk 0 m none m 1) (.int .i64 (i : Int)) (.int .i64 q) (.int .i64 (j : Int)) .undef .undef .undef) H
      (.exit 2) (polN.keys 57) (rtE n lc x w 0 (.sl tb 0 o.length none o.length 1) (.sl nbk 0 m none m 1) (.int .i64 (i : Int)) (.int .i64 q) (.int .i64 (p : Int)) .undef .undef .undef) H ∧ p ≤ o.length ∧ dsIns q o = o.take p ++ [q] ++ o.drop p := by
  intro d
  induction d with
  | zero =>
    intro j hj h
    have hj : j = o.length := by omega
    exact ⟨j, RunsTo.loop_out (rt_l_2 0 n lc x w H tb o.length nbk m i q j (by omega)) (by simp) (by kernel_rfl) (by kernel_rfl), by omega, dsIns_at q o j (by omega) h (fun hp => by omega)⟩
  | succ d ih =>
    intro j hj h
    by_cases c : q ≤ o.getD j 0
    · have s := rt_l_0 0 n lc x w H tb o.length nbk m i q j _ (by omega) (gi2 (by omega)) (gl2 ho rfl (by omega)) c
      rw [wrap_succ (by omega)] at s
      obtain ⟨p, r, h1, h2⟩ := ih (j + 1) (by omega) (fun i hi => by
        by_cases e : i = j
        · rw [e]; exact c
        · exact h i (by omega))
      exact ⟨p, RunsTo.loop s (by kernel_rfl) (gc_eq _ rfl) r rfl (by kernel_rfl) (by kernel_rfl), h1, h2⟩
    · have s := rt_l_1 0 n lc x w H tb o.length nbk m i q j _ (by omega) (gi2 (by omega)) (gl2 ho rfl (by omega)) c
      exact ⟨j, RunsTo.loop_out s (by simp) (by kernel_rfl) (by kernel_rfl), by omega, dsIns_at q o j (by omega) h (fun _ => c)⟩
end
section
variable {n : Int} {lc : List HV} {x w : Int}
theorem slV_hi {b m j : Nat} (h : j ≤ m) : sliceV Try.prog 24 (.sl b 0 m none m 1) none (some (.int .i64 (j : Int))) none = some (.sl b 0 j none m 1) := by
  have hb0 : boundV (some (.int .i64 (j : Int))) = some (some j) := by simp [boundV]
  have hbn : boundV none = some none := rfl
  simp only [sliceV, hb0, hbn, u24b, z3b, if_true, Option.getD, Option.map]
  rw [if_pos (by omega)]
  simp
end
section
variable {n : Int} {lc : List HV} {x w : Int}
theorem slV_lo {b m j : Nat} (h : j ≤ m) : sliceV Try.prog 24 (.sl b 0 m none m 1) (some (.int .i64 (j : Int))) none none = some (.sl b j (m - j) none m 1) := by
  have hb0 : boundV (some (.int .i64 (j : Int))) = some (some j) := by simp [boundV]
  have hbn : boundV none = some none := rfl
  simp only [sliceV, hb0, hbn, u24b, z3b, if_true, Option.getD, Option.map]
  rw [if_pos (by omega)]
  simp
end
section
variable {n : Int} {lc : List HV} {x w : Int}
theorem rt_ins {tb nbk m i p : Nat} {q : Int} {o : List Int} {H : Heap} (ho : H[tb]? = some (bI o)) (h100 : o.length ≤ 100) (hp : p ≤ o.length) (hd : dsIns q o = o.take p ++ [q] ++ o.drop p) :
    RunsTo Try.prog polN 57 (sub [1, 1, 1, 0, 1, 0, 0, 1, 0, 0, 1, 1, 1, 1] B57) (rtE n lc x w 0 (.sl tb 0 o.length none o.length 1) (.sl nbk 0 m none m 1) (.int .i64 (i : Int)) (.int .i64 q) (.int .i64 (p : Int)) .undef .undef .undef) H
      .normal (polN.keys 57) (rtE n lc x w 0 (.sl H.length 0 (o.length + 1) none (o.length + 1) 1) (.sl nbk 0 m none m 1) (.int .i64 (i : Int)) (.int .i64 q) (.int .i64 (p : Int)) (.sl H.length 0 (p + 1) none (p + 1) 1) .undef .undef) (H ++ [bI (dsIns q o)]) := by
  have htl := lt_of_get ho
  have hap : ∀ xs : List Int, (H ++ [bI xs])[tb]? = some (bI o) := fun xs => by rw [List.getElem?_append_left htl]; exact ho
  have hsl : ∀ xs : List Int, (H ++ [bI xs])[H.length]? = some (bI xs) := fun xs => by rw [List.getElem?_append_right (Nat.le_refl _)]; simp
  have hst : ∀ xs ys : List Int, (H ++ [bI xs]).set H.length (bI ys) = H ++ [bI ys] := fun xs ys => by rw [List.set_append_right _ _ (Nat.le_refl _)]; simp
  have g2 := app_sq (H := H ++ [bI []]) (b := H.length) (x := .sl tb 0 p none o.length 1) (o := []) (xs := o.take p) (hsl []) (by
    have := src_sl (H := H ++ [bI []]) (off := 0) (len := p) (hap []) rfl (by omega)
    rw [List.drop_zero] at this; exact this) (by simp; omega)
  have hl1 : (o.take p).length = p := by simp; omega
  rw [hst, List.nil_append, hl1, List.length_nil, Nat.zero_add] at g2
  have g3 := appV_ints (H := H ++ [bI (o.take p)]) (b := H.length) (o := o.take p) (xs := [q]) (hsl _) (by simp; omega) (by simp)
  rw [hst, hl1] at g3
  have hl2 : (o.take p ++ [q]).length = p + 1 := by simp; omega
  have g5 := app_sq (H := H ++ [bI (o.take p ++ [q])]) (b := H.length) (x := .sl tb p (o.length - p) none o.length 1) (o := o.take p ++ [q]) (xs := o.drop p) (hsl _) (by
    have := src_sl (H := H ++ [bI (o.take p ++ [q])]) (off := p) (len := o.length - p) (hap _) rfl (by omega)
    have e : (o.drop p).take (o.length - p) = o.drop p := List.take_of_length_le (by simp)
    rw [e] at this; exact this) (by simp; omega)
  have hl3 : p + 1 + (o.drop p).length = o.length + 1 := by simp; omega
  rw [hst, hl2, hl3, ← hd] at g5
  exact rt_m_0 0 n lc x w H tb o.length nbk m i q p H.length _ _ _ _ rfl (slV_hi hp) g2 g3 (slV_lo hp) g5
end
section
variable {n : Int} {l : List (Int × Int)} {T : Int → Int → Int} {x w : Int} {R : List Int}
theorem rt_loop (hm : R.length ≤ 50) (hT : ∀ u, u ∈ keep w R → RT n l T u x) : ∀ d i (o : List Int) (tb : Nat) (H : Heap), i + d = R.length → o.length ≤ i → H[1]? = some (bI R) → H[tb]? = some (bI o) →
    ∃ (tb' : Nat) (H' : Heap), RunsTo Try.prog polN 57 (sub [1, 1, 1, 0, 1, 0] B57) (rtE n (l.map encP) x w 0 (.sl tb 0 o.length none o.length 1) (.sl 1 0 R.length none R.length 1) (.int .i64 (i : Int)) .undef .undef .undef .undef .undef) H
      (.exit 0) (polN.keys 57) (rtE n (l.map encP) x w 0 (.sl tb' 0 (dsAcc o ((keep w (R.drop i)).map fun u => T u x)).length none (dsAcc o ((keep w (R.drop i)).map fun u => T u x)).length 1) (.sl 1 0 R.length none R.length 1) (.int .i64 (R.length : Int)) .undef .undef .undef .undef .undef) H' ∧
      H'[tb']? = some (bI (dsAcc o ((keep w (R.drop i)).map fun u => T u x))) ∧ (dsAcc o ((keep w (R.drop i)).map fun u => T u x)).length ≤ R.length := by
  intro d
  induction d with
  | zero =>
    intro i o tb H hi hoi h1 ho
    have hi : i = R.length := by omega
    subst hi
    rw [List.drop_length]
    exact ⟨tb, H, RunsTo.loop_out (RunsTo.seq_out (rt_e_1 0 n (l.map encP) x w H tb o.length 1 R.length R.length (by omega)) (by simp) (c := sub [1, 1, 1, 0, 1, 0, 0] B57) (b := sub [1, 1, 1, 0, 1, 0, 0, 1] B57) (by kernel_rfl)) (by simp) (by kernel_rfl) (by kernel_rfl), ho, hoi⟩
  | succ d ih =>
    intro i o tb H hi hoi h1 ho
    have hiR : i < R.length := by omega
    have hg : R[i] = R.getD i 0 := by simp [List.getD, List.getElem?_eq_getElem hiR]
    have e := rt_e_0 0 n (l.map encP) x w H tb o.length 1 R.length i (by omega)
    have hdr : R.drop i = R.getD i 0 :: R.drop (i + 1) := by rw [List.drop_eq_getElem_cons hiR, hg]
    by_cases c : R.getD i 0 = w
    · have f := rt_f_0 0 n (l.map encP) x w H tb o.length 1 R.length i _ (gi2 (by omega)) (gl2 h1 rfl (by omega)) c
      have nn := rt_n_0 0 n (l.map encP) x w H tb o.length 1 R.length i .undef .undef .undef
      rw [wrap_succ (by omega)] at nn
      have hk : keep w (R.drop i) = keep w (R.drop (i + 1)) := by rw [hdr]; simp only [keep, List.filter_cons, decide_eq_true c, Bool.not_true, Bool.false_eq_true, if_false]
      obtain ⟨tb', H', r, h2, h3⟩ := ih (i + 1) o tb H (by omega) (by omega) h1 ho
      rw [hk]
      have t1 := RunsTo.seq_out f (by simp) (c := sub [1, 1, 1, 0, 1, 0, 0, 1, 0, 0] B57) (b := sub [1, 1, 1, 0, 1, 0, 0, 1, 0, 0, 1] B57) (by kernel_rfl)
      have t2 := RunsTo.seq (RunsTo.block_exit (c := sub [1, 1, 1, 0, 1, 0, 0, 1, 0] B57) t1 (by kernel_rfl)) nn (c := sub [1, 1, 1, 0, 1, 0, 0, 1] B57) (by kernel_rfl) (by kernel_rfl)
      have t3 := RunsTo.seq e t2 (c := sub [1, 1, 1, 0, 1, 0, 0] B57) (by kernel_rfl) (by kernel_rfl)
      exact ⟨tb', H', RunsTo.loop t3 (by kernel_rfl) (gc_eq _ rfl) r rfl (by kernel_rfl) (by kernel_rfl), h2, h3⟩
    · have hmem : R.getD i 0 ∈ keep w R := by
        rw [keep, List.mem_filter]
        exact ⟨by rw [← hg]; exact List.getElem_mem hiR, by simp only [decide_eq_false c, Bool.not_false]⟩
      obtain ⟨N, hN⟩ := hT _ hmem H
      have f := rt_f_1 0 n (l.map encP) x w H tb o.length 1 R.length i _ (gi2 (by omega)) (gl2 h1 rfl (by omega)) c
      have g := rt_g_0 N n (l.map encP) x w H tb o.length 1 R.length i _ _ H (gi2 (by omega)) (gl2 h1 rfl (by omega)) (fun kf hk => hN (kf + 1) (by omega))
      have hh := rt_h_0 0 n (l.map encP) x w H tb o.length 1 R.length i (T (R.getD i 0) x)
      obtain ⟨p, rs, hp, hd⟩ := rt_scan (n := n) (lc := l.map encP) (x := x) (w := w) (nbk := 1) (m := R.length) (i := i) (q := T (R.getD i 0) x) ho (by omega) o.length 0 (by omega) (fun i hi => by omega)
      have ri := rt_ins (n := n) (lc := l.map encP) (x := x) (w := w) (nbk := 1) (m := R.length) (i := i) ho (by omega) hp hd
      have nn := rt_n_0 0 n (l.map encP) x w (H ++ [bI (dsIns (T (R.getD i 0) x) o)]) H.length (o.length + 1) 1 R.length i (.int .i64 (T (R.getD i 0) x)) (.int .i64 (p : Int)) (.sl H.length 0 (p + 1) none (p + 1) 1)
      rw [wrap_succ (by omega)] at nn
      have hk : (keep w (R.drop i)).map (fun u => T u x) = T (R.getD i 0) x :: (keep w (R.drop (i + 1))).map (fun u => T u x) := by
        rw [hdr]; simp only [keep, List.filter_cons, decide_eq_false c, Bool.not_false, if_true, List.map_cons]
      obtain ⟨tb', H', r, h2, h3⟩ := ih (i + 1) (dsIns (T (R.getD i 0) x) o) H.length (H ++ [bI (dsIns (T (R.getD i 0) x) o)]) (by omega) (by rw [dsIns_len]; omega) (by rw [List.getElem?_append_left (lt_of_get h1)]; exact h1) (by rw [List.getElem?_append_right (Nat.le_refl _)]; simp)
      rw [hk, dsAcc]
      rw [dsIns_len] at r
      have t0 := RunsTo.seq (RunsTo.block_exit (c := sub [1, 1, 1, 0, 1, 0, 0, 1, 0, 0, 1, 1, 1, 0] B57) rs (by kernel_rfl)) ri (c := sub [1, 1, 1, 0, 1, 0, 0, 1, 0, 0, 1, 1, 1] B57) (by kernel_rfl) (by kernel_rfl)
      have t1 := RunsTo.seq hh t0 (c := sub [1, 1, 1, 0, 1, 0, 0, 1, 0, 0, 1, 1] B57) (by kernel_rfl) (by kernel_rfl)
      have t2 := RunsTo.seq g t1 (c := sub [1, 1, 1, 0, 1, 0, 0, 1, 0, 0, 1] B57) (by kernel_rfl) (by kernel_rfl)
      have t3 := RunsTo.seq f t2 (c := sub [1, 1, 1, 0, 1, 0, 0, 1, 0, 0] B57) (by kernel_rfl) (by kernel_rfl)
      have t4 := RunsTo.seq (RunsTo.block_normal (i := 1) (c := sub [1, 1, 1, 0, 1, 0, 0, 1, 0] B57) t3 (by kernel_rfl)) nn (c := sub [1, 1, 1, 0, 1, 0, 0, 1] B57) (by kernel_rfl) (by kernel_rfl)
      have t5 := RunsTo.seq e t4 (c := sub [1, 1, 1, 0, 1, 0, 0] B57) (by kernel_rfl) (by kernel_rfl)
      exact ⟨tb', H', RunsTo.loop t5 (by kernel_rfl) (gc_all (by simp only [bndE, bnd, bndL, List.length_append, List.length_singleton]; omega)) r rfl (by kernel_rfl) (by kernel_rfl), h2, h3⟩
end
section
variable {n : Int} {l : List (Int × Int)} {T : Int → Int → Int} {x w : Int} {R : List Int}
theorem rt_best {o : List Int} {tb : Nat} {H : Heap} {lc : List HV} (ho : H[tb]? = some (bI o)) (hB : ∀ t, t ∈ o → 0 ≤ t ∧ t ≤ 100000) (hm : o.length ≤ 100) : ∀ d i bx, i + d = o.length →
    RunsTo Try.prog polN 57 (sub [1, 1, 1, 1, 1, 0, 1, 0] B57) (rtE n lc x w 0 (.sl tb 0 o.length none o.length 1) .undef .undef .undef .undef .undef (.int .i64 bx) (.int .i64 (i : Int))) H
      (.exit 4) (polN.keys 57) (rtE n lc x w 0 (.sl tb 0 o.length none o.length 1) .undef .undef .undef .undef .undef (.int .i64 (bestGo i bx (o.drop i))) (.int .i64 (o.length : Int))) H := by
  intro d
  induction d with
  | zero =>
    intro i bx hi
    have hi : i = o.length := by omega
    subst hi
    rw [List.drop_length]
    exact RunsTo.loop_out (rt_q_1 0 n lc x w H tb o.length o.length bx (by omega)) (by simp) (by kernel_rfl) (by kernel_rfl)
  | succ d ih =>
    intro i bx hi
    have hio : i < o.length := by omega
    have hg : o[i] = o.getD i 0 := by simp [List.getD, List.getElem?_eq_getElem hio]
    have hb := hB (o.getD i 0) (by rw [← hg]; exact List.getElem_mem hio)
    have s := rt_q_0 0 n lc x w H tb o.length i bx _ (by omega) (gi2 hio) (gl2 ho rfl hio)
    have w1 : IntKind.i64.wrap (((i : Nat) : Int) + 1) = (i : Int) + 1 := by rw [wrapI64]; omega
    have w2 : IntKind.i64.wrap ((i : Int) + 1 + o.getD i 0) = (i : Int) + 1 + o.getD i 0 := by rw [wrapI64]; omega
    rw [w1, w2] at s
    have r := ih (i + 1) (max bx ((i : Int) + 1 + o.getD i 0)) (by omega)
    rw [List.drop_eq_getElem_cons hio, bestGo, hg]
    exact RunsTo.loop s (by kernel_rfl) (gc_eq _ rfl) r rfl (by kernel_rfl) (by kernel_rfl)
end
section
variable {n : Int} {l : List (Int × Int)} {T : Int → Int → Int} {x w : Int} {R : List Int}
theorem dsIns_mem {t u : Int} : ∀ {l : List Int}, u ∈ dsIns t l ↔ u = t ∨ u ∈ l
  | [] => by simp [dsIns]
  | a :: l => by
    rw [dsIns]
    split
    · simp only [List.mem_cons, dsIns_mem (l := l)]
      exact ⟨fun h => by rcases h with h | h | h <;> simp [h], fun h => by rcases h with h | h | h <;> simp [h]⟩
    · simp
end
section
variable {n : Int} {l : List (Int × Int)} {T : Int → Int → Int} {x w : Int} {R : List Int}
theorem dsAcc_mem {u : Int} : ∀ {l acc : List Int}, u ∈ dsAcc acc l ↔ u ∈ acc ∨ u ∈ l
  | [], acc => by simp [dsAcc]
  | t :: l, acc => by
    rw [dsAcc, dsAcc_mem (l := l), dsIns_mem]
    simp only [List.mem_cons]
    exact ⟨fun h => by rcases h with (h | h) | h <;> simp [h], fun h => by rcases h with h | h | h <;> simp [h]⟩
end
section
variable {n : Int} {l : List (Int × Int)} {T : Int → Int → Int} {x w : Int} {R : List Int}
def dsort (l : List Int) : List Int := dsAcc [] l
end
section
variable {n : Int} {l : List (Int × Int)} {T : Int → Int → Int} {x w : Int} {R : List Int}
theorem rt_step (hn : (0 ≤ n ∧ n ≤ 1000) ∧ l.length ≤ 1000) (hv : (l.all fun p => decide ((0 ≤ p.1 ∧ p.1 < n) ∧ (0 ≤ p.2 ∧ p.2 < n))) = true) (hR : nbrs n.toNat l x = R) (hm : R.length ≤ 50) (hT : ∀ u, u ∈ keep w R → RT n l T u x) (hB : ∀ u, u ∈ keep w R → 0 ≤ T u x ∧ T u x ≤ 100000)
    (hrec : T x w = bestGo 0 0 (dsort ((keep w R).map fun u => T u x))) : RT n l T x w := by
  intro H
  have a := rt_a_0 0 n (l.map encP) x w []
  have b := rt_b_0 0 n (l.map encP) x w [] 0 [bI []] rfl
  have c51 : ∀ kf, callN Try.prog polN (kf + 1) 51 [.int .i64 n, .imm .arg 2 (l.map encP), .int .i64 x] [bI []] = some (.sl 1 0 R.length none R.length 1, [bI [], bI R]) := fun kf => by
    rw [prim_call (pol := polN) (g := 51) (F := nbrs51) (by kernel_rfl) (rs := [.int .i64 n, .imm .arg 2 (l.map encP), .int .i64 x]) (by
      have ha : toArg [bI []] 6 (.imm .arg 2 (l.map encP)) = some (.imm .arg 2 (l.map encP)) := by
        show argP (.imm .arg 2 (l.map encP)) = _
        simp only [argP, argP_pairs]
      simp only [mapO, ha]; rfl) (res := .own 1 (R.map encI)) (by
      simp only [nbrs51, mapO_map decP_enc]
      rw [if_pos ⟨hn, hv⟩, hR]), recv_ints]
    rfl
  have c := rt_c_0 0 n (l.map encP) x w [bI []] 0 1 R.length [bI [], bI R] c51
  have d := rt_d_0 0 n (l.map encP) x w [bI [], bI R] 0 0 1 R.length
  obtain ⟨tb, H', r, ho, hlen⟩ := rt_loop (n := n) (l := l) (T := T) (x := x) (w := w) hm hT R.length 0 [] 0 [bI [], bI R] (by omega) (by simp) rfl rfl
  rw [List.drop_zero] at r ho hlen
  have hE : dsAcc [] ((keep w R).map fun u => T u x) = dsort ((keep w R).map fun u => T u x) := rfl
  rw [hE] at r ho hlen
  have hB2 : ∀ t, t ∈ dsort ((keep w R).map fun u => T u x) → 0 ≤ t ∧ t ≤ 100000 := by
    intro t ht
    rw [dsort, dsAcc_mem] at ht
    rcases ht with ht | ht
    · cases ht
    · obtain ⟨u, hu, rfl⟩ := List.mem_map.1 ht
      exact hB u hu
  generalize dsort ((keep w R).map fun u => T u x) = o at r ho hlen hB2 hrec
  have e := rt_o_0 0 n (l.map encP) x w H' tb o.length 1 R.length (.int .i64 (R.length : Int))
  have f := rt_p_0 0 n (l.map encP) x w H' tb o.length 1 R.length (.int .i64 (R.length : Int)) 0
  have g := rt_best (n := n) (lc := l.map encP) (x := x) (w := w) ho hB2 (by omega) o.length 0 0 (by omega)
  rw [List.drop_zero, ← hrec] at g
  have z := rt_z_0 0 n (l.map encP) x w H' tb o.length o.length (T x w)
  have g' := RunsTo.loop_in (e0 := rtE n (l.map encP) x w 0 (.sl tb 0 o.length none o.length 1) (.sl 1 0 R.length none R.length 1) (.int .i64 (R.length : Int)) .undef .undef .undef (.int .i64 0) (.int .i64 0)) g (b := sub [1, 1, 1, 1, 1, 0, 1, 0, 0] B57) (by kernel_rfl) (by kernel_rfl) (by kernel_rfl)
  have t1 := RunsTo.seq f (RunsTo.block_exit (c := sub [1, 1, 1, 1, 1, 0, 1] B57) g' (by kernel_rfl)) (c := sub [1, 1, 1, 1, 1, 0] B57) (by kernel_rfl) (by kernel_rfl)
  have t2 := RunsTo.seq e (RunsTo.seq t1 z (c := sub [1, 1, 1, 1, 1] B57) (by kernel_rfl) (by kernel_rfl)) (c := sub [1, 1, 1, 1] B57) (by kernel_rfl) (by kernel_rfl)
  have t3 := RunsTo.seq d (RunsTo.block_exit (c := sub [1, 1, 1, 0, 1] B57) r (by kernel_rfl)) (c := sub [1, 1, 1, 0] B57) (by kernel_rfl) (by kernel_rfl)
  have t4 := RunsTo.seq c (RunsTo.seq t3 t2 (c := sub [1, 1, 1] B57) (by kernel_rfl) (by kernel_rfl)) (c := sub [1, 1] B57) (by kernel_rfl) (by kernel_rfl)
  have t5 := RunsTo.seq a (RunsTo.seq b t4 (c := sub [1] B57) (by kernel_rfl) (by kernel_rfl)) (c := B57) (by kernel_rfl) (by kernel_rfl)
  exact CallsTo.pure (P := Try.prog) (pol := polN) (g := 57) (fn := Try.f57) (cd := B57) (rs := [.int .i64 n, .imm .arg 2 (l.map encP), .int .i64 x, .int .i64 w]) (v := .int .i64 (T x w)) (r := .int .i64 (T x w)) (by kernel_rfl) (by kernel_rfl) (by kernel_rfl) (by kernel_rfl) (by kernel_rfl) (by
      have ha : toArg H 6 (.imm .arg 2 (l.map encP)) = some (.imm .arg 2 (l.map encP)) := by
        show argP (.imm .arg 2 (l.map encP)) = _
        simp only [argP, argP_pairs]
      simp only [mapO, ha]; rfl) t5 (by kernel_rfl) (by simp) (by simp only [resultsV, res57, mapO, resultV]; rfl) rfl
end
end Go.Proofs.Ytmhfkhlamnapdaa
end
section
open Go Go.HL
namespace Go.Proofs.Ytmhfkhlamnapdaa
def tmF (row : Int → List Int) : Nat → Int → Int → Int
  | 0, _, _ => 0
  | k + 1, v, w => bestGo 0 0 (dsort ((keep w (row v)).map fun u => tmF row k u v))
def Fl (l : List Int) : Prop := l.Pairwise fun a b => b ≤ a
theorem dsIns_perm (t : Int) : ∀ l : List Int, (dsIns t l).Perm (t :: l)
  | [] => .refl _
  | a :: l => by
    rw [dsIns]
    split
    · exact ((dsIns_perm t l).cons a).trans (.swap _ _ _)
    · exact .refl _
theorem dsIns_fl (t : Int) : ∀ {l : List Int}, Fl l → Fl (dsIns t l)
  | [], _ => by simp [dsIns, Fl]
  | a :: l, h => by
    rw [dsIns]
    obtain ⟨h1, h2⟩ := List.pairwise_cons.1 h
    split
    · rename_i hta
      refine List.pairwise_cons.2 ⟨fun b hb => ?_, dsIns_fl t h2⟩
      rcases dsIns_mem.1 hb with rfl | hb
      · exact hta
      · exact h1 b hb
    · rename_i hta
      refine List.pairwise_cons.2 ⟨fun b hb => ?_, h⟩
      rcases List.mem_cons.1 hb with rfl | hb
      · omega
      · have := h1 b hb; omega
theorem dsAcc_ok : ∀ (l acc : List Int), Fl acc → (dsAcc acc l).Perm (acc ++ l) ∧ Fl (dsAcc acc l)
  | [], acc, h => by simp [dsAcc, h]
  | t :: l, acc, h => by
    rw [dsAcc]
    obtain ⟨h1, h2⟩ := dsAcc_ok l (dsIns t acc) (dsIns_fl t h)
    refine ⟨h1.trans (((dsIns_perm t acc).append_right l).trans ?_), h2⟩
    exact (List.perm_middle (a := t) (l₁ := acc) (l₂ := l)).symm
theorem dsort_perm (l : List Int) : (dsort l).Perm l := (dsAcc_ok l [] List.Pairwise.nil).1
theorem dsort_fl (l : List Int) : Fl (dsort l) := (dsAcc_ok l [] List.Pairwise.nil).2
theorem fl_eq {l l' : List Int} (h : Fl l) (h' : Fl l') (hp : l.Perm l') : l = l' :=
  List.Perm.eq_of_pairwise (le := fun a b => b ≤ a) (fun a b _ _ h1 h2 => by omega) h h' hp
theorem dsort_eq {l l' : List Int} (hp : l.Perm l') : dsort l = dsort l' := fl_eq (dsort_fl l) (dsort_fl l') (((dsort_perm l).trans hp).trans (dsort_perm l').symm)
theorem fl_dsort {l l' : List Int} (h : Fl l) (hp : l.Perm l') : l = dsort l' := fl_eq h (dsort_fl l') (hp.trans (dsort_perm l').symm)
theorem stable_dsort (f : Int → Int) (l : List Int) : (stable f l.length l).map f = dsort (l.map f) := by
  obtain ⟨h1, h2⟩ := stable_ok f (n := l.length) (l := l) rfl
  refine fl_dsort ?_ (h1.map f)
  unfold Fl
  rw [List.pairwise_iff_getElem]
  intro i j hi hj hij
  have hl := stable_len f l.length l
  rw [List.length_map] at hi hj
  have := h2 i j (Nat.zero_le _) hij (by omega)
  simpa [List.getD, List.getElem?_eq_getElem hi, List.getElem?_eq_getElem hj] using this
theorem bestGo_bd {B : Int} : ∀ (l : List Int) (i : Nat) (mo : Int), (∀ t, t ∈ l → 0 ≤ t ∧ t ≤ B) → 0 ≤ mo → mo ≤ bestGo i mo l ∧ bestGo i mo l ≤ max mo ((i : Int) + l.length + B)
  | [], i, mo, _, h0 => by rw [bestGo]; omega
  | t :: l, i, mo, h, h0 => by
    have ht := h t (by simp)
    have := bestGo_bd (B := B) l (i + 1) (max mo ((i : Int) + 1 + t)) (fun t ht => h t (by simp [ht])) (by omega)
    rw [bestGo]
    simp only [List.length_cons]
    omega
theorem keep_len (w : Int) (l : List Int) : (keep w l).length ≤ l.length := List.length_filter_le _ _
theorem tmF_bd {row : Int → List Int} {M : Nat} (hr : ∀ v, (row v).length ≤ M) : ∀ (k : Nat) (v w : Int), 0 ≤ tmF row k v w ∧ tmF row k v w ≤ (M * k : Nat)
  | 0, v, w => by simp [tmF]
  | k + 1, v, w => by
    rw [tmF]
    have := bestGo_bd (B := ((M * k : Nat) : Int)) (dsort ((keep w (row v)).map fun u => tmF row k u v)) 0 0 (fun t ht => by
      rw [(dsort_perm _).mem_iff, List.mem_map] at ht
      obtain ⟨u, _, rfl⟩ := ht
      exact tmF_bd hr k u v) (by omega)
    have hl : (dsort ((keep w (row v)).map fun u => tmF row k u v)).length ≤ M := by
      rw [(dsort_perm _).length_eq, List.length_map]
      have := keep_len w (row v); have := hr v; omega
    rw [Nat.mul_add]
    omega
structure Msr (row : Int → List Int) (G : Int → Int → Prop) (μ : Int → Int → Nat) : Prop where
  step : ∀ v w, G v w → ∀ u, u ∈ keep w (row v) → G u v ∧ μ u v < μ v w
theorem tmF_fuel {row : Int → List Int} {G : Int → Int → Prop} {μ : Int → Int → Nat} (hM : Msr row G μ) : ∀ (k : Nat) (v w : Int), G v w → μ v w < k → tmF row k v w = tmF row (k + 1) v w
  | 0, _, _, _, h => by omega
  | k + 1, v, w, hG, h => by
    rw [tmF, tmF]
    congr 2
    refine List.map_congr_left fun u hu => ?_
    obtain ⟨h1, h2⟩ := hM.step v w hG u hu
    exact tmF_fuel hM k u v h1 (by omega)
def tm (row : Int → List Int) (v w : Int) : Int := tmF row 200 v w
theorem tm_rec {row : Int → List Int} {G : Int → Int → Prop} {μ : Int → Int → Nat} (hM : Msr row G μ) {v w : Int} (hG : G v w) (h : μ v w ≤ 150) : tm row v w = bestGo 0 0 (dsort ((keep w (row v)).map fun u => tm row u v)) := by
  have e : tm row v w = bestGo 0 0 (dsort ((keep w (row v)).map fun u => tmF row 199 u v)) := rfl
  have e2 : ((keep w (row v)).map fun u => tmF row 199 u v) = (keep w (row v)).map fun u => tm row u v := List.map_congr_left fun u hu => by
    obtain ⟨h1, h2⟩ := hM.step v w hG u hu
    exact tmF_fuel hM 199 u v h1 (by omega)
  rw [e, e2]
theorem tm_bd {row : Int → List Int} (hr : ∀ v, (row v).length ≤ 39) (v w : Int) : 0 ≤ tm row v w ∧ tm row v w ≤ 100000 := by
  have := tmF_bd hr 200 v w
  unfold tm
  omega
theorem timeOk_all {adj : List (List Nat)} {row : Int → List Int} {G : Int → Int → Prop} {μ : Int → Int → Nat} (hM : Msr row G μ) (hrow : ∀ v, (row v).length ≤ 39)
    (hA : ∀ v w, G v w → ∃ (a : Nat) (r : List Nat), v = (a : Int) ∧ adj[a]? = some r ∧ rowI r = row v) : ∀ (k : Nat) (v w : Int), G v w → μ v w < k → k ≤ 150 → TimeOk adj (tm row) adj.length v w
  | 0, _, _, _, h, _ => by omega
  | k + 1, v, w, hG, h, hk => by
    obtain ⟨a, r, rfl, h1, h2⟩ := hA v w hG
    have hl : r.length ≤ 39 := by have := hrow a; rw [← h2] at this; simpa [rowI] using this
    refine time_step (r := r) rfl h1 hl (fun u hu => ?_) (fun u _ => tm_bd hrow u a) ?_
    · rw [h2] at hu
      obtain ⟨h3, h4⟩ := hM.step _ _ hG u hu
      exact timeOk_all hM hrow hA k u a h3 (by omega) (by omega)
    · rw [stable_dsort, h2]
      exact tm_rec hM hG (by omega)
theorem rt_all {n : Int} {l : List (Int × Int)} {G : Int → Int → Prop} {μ : Int → Int → Nat} (hn : (0 ≤ n ∧ n ≤ 1000) ∧ l.length ≤ 1000) (hv : (l.all fun p => decide ((0 ≤ p.1 ∧ p.1 < n) ∧ (0 ≤ p.2 ∧ p.2 < n))) = true)
    (hM : Msr (nbrs n.toNat l) G μ) (hrow : ∀ v, (nbrs n.toNat l v).length ≤ 39) : ∀ (k : Nat) (v w : Int), G v w → μ v w < k → k ≤ 150 → RT n l (tm (nbrs n.toNat l)) v w
  | 0, _, _, _, h, _ => by omega
  | k + 1, v, w, hG, h, hk => by
    refine rt_step (R := nbrs n.toNat l v) hn hv rfl (by have := hrow v; omega) (fun u hu => ?_) (fun u _ => tm_bd hrow u v) (tm_rec hM hG (by omega))
    obtain ⟨h3, h4⟩ := hM.step _ _ hG u hu
    exact rt_all hn hv hM hrow k u v h3 (by omega) (by omega)
end Go.Proofs.Ytmhfkhlamnapdaa
end
section
open Go Go.HL
namespace Go.Proofs.Ytmhfkhlamnapdaa
set_option maxRecDepth 100000
noncomputable def B30 : Code := Try.f30.body.getD .skip
abbrev env30 (v0 v1 v2 v3 v8 v9 v10 v11 v12 v13 v14 v15 v16 v17 : HV) : Env := [(0, v0), (1, v1), (2, v2), (3, v3), (8, v8), (9, v9), (10, v10), (11, v11), (12, v12), (13, v13), (14, v14), (15, v15), (16, v16), (17, v17)]
theorem cp_a_0 (n : Int) (lc : List HV) (x : Int) (rds : List HV) : RunsTo Try.prog polY 30 (sub [0] B30) [(0, .i n), (1, .imm .arg 2 lc), (2, .i x), (3, .imm .arg 1 rds)] [] .normal (polY.keys 30) (env30 (.i n) (.imm .arg 2 lc) (.i x) (.imm .arg 1 rds) (.bool false) .undef .undef .undef .undef .undef .undef .undef .undef .undef) [] :=
  RunsTo.hin 0 60 [] fun kf hk => ⟨_, by kernel_rfl, .nil⟩
theorem cp_b_0 (n : Int) (lc : List HV) (x : Int) (rds : List HV) (m : Nat)(g0 : makeV Try.prog false 43 (.i n) (.i n) [] = some (.sl 0 0 m (some m) m 1, [.arr 1 (List.replicate m (.bool false)) true 0])) : RunsTo Try.prog polY 30 (sub [1, 0] B30) (env30 (.i n) (.imm .arg 2 lc) (.i x) (.imm .arg 1 rds) (.bool false) .undef .undef .undef .undef .undef .undef .undef .undef .undef) [] .normal (polY.keys 30) (env30 (.i n) (.imm .arg 2 lc) (.i x) (.imm .arg 1 rds) (.bool false) (.sl 0 0 m (some m) m 1) .undef .undef .undef .undef .undef .undef .undef .undef) [.arr 1 (List.replicate m (.bool false)) true 0] :=
  RunsTo.hin 0 60 [⟨1, 1, .sl 0 0 m (some m) m 1, [.arr 1 (List.replicate m (.bool false)) true 0]⟩] fun kf hk => ⟨_, by kernel_rfl, (oC (g0) .nil)⟩
theorem cp_c_0 (n : Int) (lc : List HV) (x : Int) (rds : List HV) (m : Nat) (kn : List HV) (el0 : List HV) (g0 : idxV Try.prog 43 (.sl 0 0 m (some m) m 1) (.i x) = some (.ptr 0 ((x).toNat) 0 m)) (g1 : storeV Try.prog [.arr 1 kn true 0] 4 (.ptr 0 ((x).toNat) 0 m) (.bool true) = some [.arr 1 el0 true 0]) : RunsTo Try.prog polY 30 (sub [1, 1, 0] B30) (env30 (.i n) (.imm .arg 2 lc) (.i x) (.imm .arg 1 rds) (.bool false) (.sl 0 0 m (some m) m 1) .undef .undef .undef .undef .undef .undef .undef .undef) [.arr 1 kn true 0] .normal (polY.keys 30) (env30 (.i n) (.imm .arg 2 lc) (.i x) (.imm .arg 1 rds) (.bool false) (.sl 0 0 m (some m) m 1) .undef .undef .undef .undef .undef .undef .undef .undef) [.arr 1 el0 true 0] :=
  RunsTo.hin 0 60 [⟨2, 2, .ptr 0 ((x).toNat) 0 m, [.arr 1 kn true 0]⟩, ⟨2, 3, .tuple [], [.arr 1 el0 true 0]⟩] fun kf hk => ⟨_, by kernel_rfl, (oP [.arr 1 kn true 0] g0 (oS g1 .nil))⟩
theorem cp_d_0 (n : Int) (lc : List HV) (x : Int) (rds : List HV) (m : Nat) (kn : List HV) : RunsTo Try.prog polY 30 (sub [1, 1, 1, 0] B30) (env30 (.i n) (.imm .arg 2 lc) (.i x) (.imm .arg 1 rds) (.bool false) (.sl 0 0 m (some m) m 1) .undef .undef .undef .undef .undef .undef .undef .undef) [.arr 1 kn true 0] .normal (polY.keys 30) (env30 (.i n) (.imm .arg 2 lc) (.i x) (.imm .arg 1 rds) (.bool false) (.sl 0 0 m (some m) m 1) (.i 1) .undef .undef .undef .undef .undef .undef .undef) [.arr 1 kn true 0] :=
  RunsTo.hin 0 60 [] fun kf hk => ⟨_, by kernel_rfl, .nil⟩
theorem cp_e_0 (n : Int) (lc : List HV) (x : Int) (rds : List HV) (m : Nat) (kn : List HV) (q : Nat) : RunsTo Try.prog polY 30 (sub [1, 1, 1, 1, 0, 0] B30) (env30 (.i n) (.imm .arg 2 lc) (.i x) (.imm .arg 1 rds) (.bool false) (.sl 0 0 m (some m) m 1) (.i (q : Int)) .undef .undef .undef .undef .undef .undef .undef) [.arr 1 kn true 0] .normal (polY.keys 30) (env30 (.i n) (.imm .arg 2 lc) (.i x) (.imm .arg 1 rds) (.bool false) (.sl 0 0 m (some m) m 1) (.i (q : Int)) (.i 0) .undef .undef .undef .undef .undef .undef) [.arr 1 kn true 0] :=
  RunsTo.hin 0 60 [] fun kf hk => ⟨_, by kernel_rfl, .nil⟩
theorem cp_f_0 (n : Int) (lc : List HV) (x : Int) (rds : List HV) (m : Nat) (kn : List HV) (q : Nat) (i : Nat)(g0 : (i : Int) < (rds.length : Int)) : RunsTo Try.prog polY 30 (sub [1, 1, 1, 1, 0, 1, 0, 0, 0] B30) (env30 (.i n) (.imm .arg 2 lc) (.i x) (.imm .arg 1 rds) (.bool false) (.sl 0 0 m (some m) m 1) (.i (q : Int)) (.i (i : Int)) .undef .undef .undef .undef .undef .undef) [.arr 1 kn true 0] .normal (polY.keys 30) (env30 (.i n) (.imm .arg 2 lc) (.i x) (.imm .arg 1 rds) (.bool false) (.sl 0 0 m (some m) m 1) (.i (q : Int)) (.i (i : Int)) .undef .undef .undef .undef .undef .undef) [.arr 1 kn true 0] :=
  RunsTo.hin 0 60 [⟨5, 3, .bool true, [.arr 1 kn true 0]⟩] fun kf hk => ⟨_, by kernel_rfl, (oB [.arr 1 kn true 0] (decide_eq_true g0) .nil)⟩
theorem cp_f_1 (n : Int) (lc : List HV) (x : Int) (rds : List HV) (m : Nat) (kn : List HV) (q : Nat) (i : Nat)(g0 : ¬ ((i : Int) < (rds.length : Int))) : RunsTo Try.prog polY 30 (sub [1, 1, 1, 1, 0, 1, 0, 0, 0] B30) (env30 (.i n) (.imm .arg 2 lc) (.i x) (.imm .arg 1 rds) (.bool false) (.sl 0 0 m (some m) m 1) (.i (q : Int)) (.i (i : Int)) .undef .undef .undef .undef .undef .undef) [.arr 1 kn true 0] (.exit 0) (polY.keys 30) (env30 (.i n) (.imm .arg 2 lc) (.i x) (.imm .arg 1 rds) (.bool false) (.sl 0 0 m (some m) m 1) (.i (q : Int)) (.i (i : Int)) .undef .undef .undef .undef .undef .undef) [.arr 1 kn true 0] :=
  RunsTo.hin 0 60 [⟨5, 3, .bool false, [.arr 1 kn true 0]⟩] fun kf hk => ⟨_, by kernel_rfl, (oB [.arr 1 kn true 0] (decide_eq_false g0) .nil)⟩
theorem cp_g_0 (n : Int) (lc : List HV) (x : Int) (rds : List HV) (m : Nat) (kn : List HV) (q : Nat) (i : Nat)(g0 : makeV Try.prog false 43 (.i n) (.i n) [.arr 1 kn true 0] = some (.sl 1 0 m (some m) m 1, [.arr 1 kn true 0, .arr 1 (List.replicate m (.bool false)) true 0])) : RunsTo Try.prog polY 30 (sub [1, 1, 1, 1, 0, 1, 0, 0, 1, 0, 0, 0] B30) (env30 (.i n) (.imm .arg 2 lc) (.i x) (.imm .arg 1 rds) (.bool false) (.sl 0 0 m (some m) m 1) (.i (q : Int)) (.i (i : Int)) .undef .undef .undef .undef .undef .undef) [.arr 1 kn true 0] .normal (polY.keys 30) (env30 (.i n) (.imm .arg 2 lc) (.i x) (.imm .arg 1 rds) (.bool false) (.sl 0 0 m (some m) m 1) (.i (q : Int)) (.i (i : Int)) (.sl 1 0 m (some m) m 1) .undef .undef .undef .undef .undef) [.arr 1 kn true 0, .arr 1 (List.replicate m (.bool false)) true 0] :=
  RunsTo.hin 0 60 [⟨7, 1, .sl 1 0 m (some m) m 1, [.arr 1 kn true 0, .arr 1 (List.replicate m (.bool false)) true 0]⟩] fun kf hk => ⟨_, by kernel_rfl, (oC (g0) .nil)⟩
theorem cp_h_0 (n : Int) (lc : List HV) (x : Int) (rds : List HV) (m : Nat) (kn : List HV) (q : Nat) (i : Nat) (bz : List HV) (l0 : List HV) (g0 : idxV Try.prog 44 (.imm .arg 1 rds) (.i (i : Int)) = some (.vptr (.imm .arg 2 l0))) : RunsTo Try.prog polY 30 (sub [1, 1, 1, 1, 0, 1, 0, 0, 1, 0, 0, 1, 0] B30) (env30 (.i n) (.imm .arg 2 lc) (.i x) (.imm .arg 1 rds) (.bool false) (.sl 0 0 m (some m) m 1) (.i (q : Int)) (.i (i : Int)) (.sl 1 0 m (some m) m 1) .undef .undef .undef .undef .undef) [.arr 1 kn true 0, .arr 1 bz true 0] .normal (polY.keys 30) (env30 (.i n) (.imm .arg 2 lc) (.i x) (.imm .arg 1 rds) (.bool false) (.sl 0 0 m (some m) m 1) (.i (q : Int)) (.i (i : Int)) (.sl 1 0 m (some m) m 1) (.imm .arg 2 l0) .undef .undef .undef .undef) [.arr 1 kn true 0, .arr 1 bz true 0] :=
  RunsTo.hin 0 60 [⟨8, 2, .vptr (.imm .arg 2 l0), [.arr 1 kn true 0, .arr 1 bz true 0]⟩] fun kf hk => ⟨_, by kernel_rfl, (oP [.arr 1 kn true 0, .arr 1 bz true 0] g0 .nil)⟩
theorem cp_i_0 (n : Int) (lc : List HV) (x : Int) (rds : List HV) (m : Nat) (kn : List HV) (q : Nat) (i : Nat) (bz : List HV) (r : List HV) : RunsTo Try.prog polY 30 (sub [1, 1, 1, 1, 0, 1, 0, 0, 1, 0, 0, 1, 1, 0, 0] B30) (env30 (.i n) (.imm .arg 2 lc) (.i x) (.imm .arg 1 rds) (.bool false) (.sl 0 0 m (some m) m 1) (.i (q : Int)) (.i (i : Int)) (.sl 1 0 m (some m) m 1) (.imm .arg 2 r) .undef .undef .undef .undef) [.arr 1 kn true 0, .arr 1 bz true 0] .normal (polY.keys 30) (env30 (.i n) (.imm .arg 2 lc) (.i x) (.imm .arg 1 rds) (.bool false) (.sl 0 0 m (some m) m 1) (.i (q : Int)) (.i (i : Int)) (.sl 1 0 m (some m) m 1) (.imm .arg 2 r) (.i 0) .undef .undef .undef) [.arr 1 kn true 0, .arr 1 bz true 0] :=
  RunsTo.hin 0 60 [] fun kf hk => ⟨_, by kernel_rfl, .nil⟩
theorem cp_l_0 (n : Int) (lc : List HV) (x : Int) (rds : List HV) (m : Nat) (kn : List HV) (q : Nat) (i : Nat) (bz : List HV) (r : List HV) (j : Nat) (x0 : Int) (x1 : Int) (x2 : Int) (x3 : Int) (g0 : (j : Int) < (r.length : Int)) (g1 : idxV Try.prog 22 (.imm .arg 2 r) (.i (j : Int)) = some (.vptr (.agg [.i x0, .i x1]))) (g2 : idxV Try.prog 22 (.imm .arg 2 r) (.i (j : Int)) = some (.vptr (.agg [.i x2, .i x3]))) (g3 : x0 < 0) : RunsTo Try.prog polY 30 (sub [1, 1, 1, 1, 0, 1, 0, 0, 1, 0, 0, 1, 1, 0, 1, 0, 0] B30) (env30 (.i n) (.imm .arg 2 lc) (.i x) (.imm .arg 1 rds) (.bool false) (.sl 0 0 m (some m) m 1) (.i (q : Int)) (.i (i : Int)) (.sl 1 0 m (some m) m 1) (.imm .arg 2 r) (.i (j : Int)) .undef .undef .undef) [.arr 1 kn true 0, .arr 1 bz true 0] .ret (polY.keys 30) (env30 (.i n) (.imm .arg 2 lc) (.i x) (.imm .arg 1 rds) (.bool false) (.sl 0 0 m (some m) m 1) (.i (q : Int)) (.i (i : Int)) (.sl 1 0 m (some m) m 1) (.imm .arg 2 r) (.i (j : Int)) (.i x0) (.i x3) .undef) [.arr 1 kn true 0, .arr 1 bz true 0] :=
  RunsTo.hin 0 60 [⟨10, 3, .bool true, [.arr 1 kn true 0, .arr 1 bz true 0]⟩, ⟨12, 2, .vptr (.agg [.i x0, .i x1]), [.arr 1 kn true 0, .arr 1 bz true 0]⟩, ⟨12, 7, .vptr (.agg [.i x2, .i x3]), [.arr 1 kn true 0, .arr 1 bz true 0]⟩, ⟨13, 1, .bool true, [.arr 1 kn true 0, .arr 1 bz true 0]⟩] fun kf hk => ⟨_, by kernel_rfl, (oB [.arr 1 kn true 0, .arr 1 bz true 0] (decide_eq_true g0) (oP [.arr 1 kn true 0, .arr 1 bz true 0] g1 (oP [.arr 1 kn true 0, .arr 1 bz true 0] g2 (oB [.arr 1 kn true 0, .arr 1 bz true 0] (decide_eq_true g3) .nil))))⟩
theorem cp_l_1 (n : Int) (lc : List HV) (x : Int) (rds : List HV) (m : Nat) (kn : List HV) (q : Nat) (i : Nat) (bz : List HV) (r : List HV) (j : Nat) (x0 : Int) (x1 : Int) (x2 : Int) (x3 : Int) (g0 : (j : Int) < (r.length : Int)) (g1 : idxV Try.prog 22 (.imm .arg 2 r) (.i (j : Int)) = some (.vptr (.agg [.i x0, .i x1]))) (g2 : idxV Try.prog 22 (.imm .arg 2 r) (.i (j : Int)) = some (.vptr (.agg [.i x2, .i x3]))) (g3 : ¬ (x0 < 0)) (g4 : n ≤ x0) : RunsTo Try.prog polY 30 (sub [1, 1, 1, 1, 0, 1, 0, 0, 1, 0, 0, 1, 1, 0, 1, 0, 0] B30) (env30 (.i n) (.imm .arg 2 lc) (.i x) (.imm .arg 1 rds) (.bool false) (.sl 0 0 m (some m) m 1) (.i (q : Int)) (.i (i : Int)) (.sl 1 0 m (some m) m 1) (.imm .arg 2 r) (.i (j : Int)) .undef .undef .undef) [.arr 1 kn true 0, .arr 1 bz true 0] .ret (polY.keys 30) (env30 (.i n) (.imm .arg 2 lc) (.i x) (.imm .arg 1 rds) (.bool false) (.sl 0 0 m (some m) m 1) (.i (q : Int)) (.i (i : Int)) (.sl 1 0 m (some m) m 1) (.imm .arg 2 r) (.i (j : Int)) (.i x0) (.i x3) .undef) [.arr 1 kn true 0, .arr 1 bz true 0] :=
  RunsTo.hin 0 60 [⟨10, 3, .bool true, [.arr 1 kn true 0, .arr 1 bz true 0]⟩, ⟨12, 2, .vptr (.agg [.i x0, .i x1]), [.arr 1 kn true 0, .arr 1 bz true 0]⟩, ⟨12, 7, .vptr (.agg [.i x2, .i x3]), [.arr 1 kn true 0, .arr 1 bz true 0]⟩, ⟨13, 1, .bool false, [.arr 1 kn true 0, .arr 1 bz true 0]⟩, ⟨13, 5, .bool true, [.arr 1 kn true 0, .arr 1 bz true 0]⟩] fun kf hk => ⟨_, by kernel_rfl, (oB [.arr 1 kn true 0, .arr 1 bz true 0] (decide_eq_true g0) (oP [.arr 1 kn true 0, .arr 1 bz true 0] g1 (oP [.arr 1 kn true 0, .arr 1 bz true 0] g2 (oB [.arr 1 kn true 0, .arr 1 bz true 0] (decide_eq_false g3) (oB [.arr 1 kn true 0, .arr 1 bz true 0] (decide_eq_true g4) .nil)))))⟩
theorem cp_l_2 (n : Int) (lc : List HV) (x : Int) (rds : List HV) (m : Nat) (kn : List HV) (q : Nat) (i : Nat) (bz : List HV) (r : List HV) (j : Nat) (x0 : Int) (x1 : Int) (x2 : Int) (x3 : Int) (g0 : (j : Int) < (r.length : Int)) (g1 : idxV Try.prog 22 (.imm .arg 2 r) (.i (j : Int)) = some (.vptr (.agg [.i x0, .i x1]))) (g2 : idxV Try.prog 22 (.imm .arg 2 r) (.i (j : Int)) = some (.vptr (.agg [.i x2, .i x3]))) (g3 : ¬ (x0 < 0)) (g4 : ¬ (n ≤ x0)) (g5 : x3 < 0) : RunsTo Try.prog polY 30 (sub [1, 1, 1, 1, 0, 1, 0, 0, 1, 0, 0, 1, 1, 0, 1, 0, 0] B30) (env30 (.i n) (.imm .arg 2 lc) (.i x) (.imm .arg 1 rds) (.bool false) (.sl 0 0 m (some m) m 1) (.i (q : Int)) (.i (i : Int)) (.sl 1 0 m (some m) m 1) (.imm .arg 2 r) (.i (j : Int)) .undef .undef .undef) [.arr 1 kn true 0, .arr 1 bz true 0] .ret (polY.keys 30) (env30 (.i n) (.imm .arg 2 lc) (.i x) (.imm .arg 1 rds) (.bool false) (.sl 0 0 m (some m) m 1) (.i (q : Int)) (.i (i : Int)) (.sl 1 0 m (some m) m 1) (.imm .arg 2 r) (.i (j : Int)) (.i x0) (.i x3) .undef) [.arr 1 kn true 0, .arr 1 bz true 0] :=
  RunsTo.hin 0 60 [⟨10, 3, .bool true, [.arr 1 kn true 0, .arr 1 bz true 0]⟩, ⟨12, 2, .vptr (.agg [.i x0, .i x1]), [.arr 1 kn true 0, .arr 1 bz true 0]⟩, ⟨12, 7, .vptr (.agg [.i x2, .i x3]), [.arr 1 kn true 0, .arr 1 bz true 0]⟩, ⟨13, 1, .bool false, [.arr 1 kn true 0, .arr 1 bz true 0]⟩, ⟨13, 5, .bool false, [.arr 1 kn true 0, .arr 1 bz true 0]⟩, ⟨13, 9, .bool true, [.arr 1 kn true 0, .arr 1 bz true 0]⟩] fun kf hk => ⟨_, by kernel_rfl, (oB [.arr 1 kn true 0, .arr 1 bz true 0] (decide_eq_true g0) (oP [.arr 1 kn true 0, .arr 1 bz true 0] g1 (oP [.arr 1 kn true 0, .arr 1 bz true 0] g2 (oB [.arr 1 kn true 0, .arr 1 bz true 0] (decide_eq_false g3) (oB [.arr 1 kn true 0, .arr 1 bz true 0] (decide_eq_false g4) (oB [.arr 1 kn true 0, .arr 1 bz true 0] (decide_eq_true g5) .nil))))))⟩
theorem cp_l_3 (n : Int) (lc : List HV) (x : Int) (rds : List HV) (m : Nat) (kn : List HV) (q : Nat) (i : Nat) (bz : List HV) (r : List HV) (j : Nat) (x0 : Int) (x1 : Int) (x2 : Int) (x3 : Int) (g0 : (j : Int) < (r.length : Int)) (g1 : idxV Try.prog 22 (.imm .arg 2 r) (.i (j : Int)) = some (.vptr (.agg [.i x0, .i x1]))) (g2 : idxV Try.prog 22 (.imm .arg 2 r) (.i (j : Int)) = some (.vptr (.agg [.i x2, .i x3]))) (g3 : ¬ (x0 < 0)) (g4 : ¬ (n ≤ x0)) (g5 : ¬ (x3 < 0)) (g6 : n ≤ x3) : RunsTo Try.prog polY 30 (sub [1, 1, 1, 1, 0, 1, 0, 0, 1, 0, 0, 1, 1, 0, 1, 0, 0] B30) (env30 (.i n) (.imm .arg 2 lc) (.i x) (.imm .arg 1 rds) (.bool false) (.sl 0 0 m (some m) m 1) (.i (q : Int)) (.i (i : Int)) (.sl 1 0 m (some m) m 1) (.imm .arg 2 r) (.i (j : Int)) .undef .undef .undef) [.arr 1 kn true 0, .arr 1 bz true 0] .ret (polY.keys 30) (env30 (.i n) (.imm .arg 2 lc) (.i x) (.imm .arg 1 rds) (.bool false) (.sl 0 0 m (some m) m 1) (.i (q : Int)) (.i (i : Int)) (.sl 1 0 m (some m) m 1) (.imm .arg 2 r) (.i (j : Int)) (.i x0) (.i x3) .undef) [.arr 1 kn true 0, .arr 1 bz true 0] :=
  RunsTo.hin 0 60 [⟨10, 3, .bool true, [.arr 1 kn true 0, .arr 1 bz true 0]⟩, ⟨12, 2, .vptr (.agg [.i x0, .i x1]), [.arr 1 kn true 0, .arr 1 bz true 0]⟩, ⟨12, 7, .vptr (.agg [.i x2, .i x3]), [.arr 1 kn true 0, .arr 1 bz true 0]⟩, ⟨13, 1, .bool false, [.arr 1 kn true 0, .arr 1 bz true 0]⟩, ⟨13, 5, .bool false, [.arr 1 kn true 0, .arr 1 bz true 0]⟩, ⟨13, 9, .bool false, [.arr 1 kn true 0, .arr 1 bz true 0]⟩, ⟨13, 14, .bool true, [.arr 1 kn true 0, .arr 1 bz true 0]⟩] fun kf hk => ⟨_, by kernel_rfl, (oB [.arr 1 kn true 0, .arr 1 bz true 0] (decide_eq_true g0) (oP [.arr 1 kn true 0, .arr 1 bz true 0] g1 (oP [.arr 1 kn true 0, .arr 1 bz true 0] g2 (oB [.arr 1 kn true 0, .arr 1 bz true 0] (decide_eq_false g3) (oB [.arr 1 kn true 0, .arr 1 bz true 0] (decide_eq_false g4) (oB [.arr 1 kn true 0, .arr 1 bz true 0] (decide_eq_false g5) (oB [.arr 1 kn true 0, .arr 1 bz true 0] (decide_eq_true g6) .nil)))))))⟩
theorem cp_l_4 (n : Int) (lc : List HV) (x : Int) (rds : List HV) (m : Nat) (kn : List HV) (q : Nat) (i : Nat) (bz : List HV) (r : List HV) (j : Nat) (x0 : Int) (x1 : Int) (x2 : Int) (x3 : Int) (g0 : (j : Int) < (r.length : Int)) (g1 : idxV Try.prog 22 (.imm .arg 2 r) (.i (j : Int)) = some (.vptr (.agg [.i x0, .i x1]))) (g2 : idxV Try.prog 22 (.imm .arg 2 r) (.i (j : Int)) = some (.vptr (.agg [.i x2, .i x3]))) (g3 : ¬ (x0 < 0)) (g4 : ¬ (n ≤ x0)) (g5 : ¬ (x3 < 0)) (g6 : ¬ (n ≤ x3)) (g7 : idxV Try.prog 43 (.sl 0 0 m (some m) m 1) (.i x0) = some (.ptr 0 ((x0).toNat) 0 m)) (g8 : loadV Try.prog [.arr 1 kn true 0, .arr 1 bz true 0] 4 (.ptr 0 ((x0).toNat) 0 m) = some (.bool true)) (g9 : idxV Try.prog 43 (.sl 0 0 m (some m) m 1) (.i x3) = some (.ptr 0 ((x3).toNat) 0 m)) (g10 : loadV Try.prog [.arr 1 kn true 0, .arr 1 bz true 0] 4 (.ptr 0 ((x3).toNat) 0 m) = some (.bool true)) : RunsTo Try.prog polY 30 (sub [1, 1, 1, 1, 0, 1, 0, 0, 1, 0, 0, 1, 1, 0, 1, 0, 0] B30) (env30 (.i n) (.imm .arg 2 lc) (.i x) (.imm .arg 1 rds) (.bool false) (.sl 0 0 m (some m) m 1) (.i (q : Int)) (.i (i : Int)) (.sl 1 0 m (some m) m 1) (.imm .arg 2 r) (.i (j : Int)) .undef .undef .undef) [.arr 1 kn true 0, .arr 1 bz true 0] .ret (polY.keys 30) (env30 (.i n) (.imm .arg 2 lc) (.i x) (.imm .arg 1 rds) (.bool false) (.sl 0 0 m (some m) m 1) (.i (q : Int)) (.i (i : Int)) (.sl 1 0 m (some m) m 1) (.imm .arg 2 r) (.i (j : Int)) (.i x0) (.i x3) .undef) [.arr 1 kn true 0, .arr 1 bz true 0] :=
  RunsTo.hin 0 60 [⟨10, 3, .bool true, [.arr 1 kn true 0, .arr 1 bz true 0]⟩, ⟨12, 2, .vptr (.agg [.i x0, .i x1]), [.arr 1 kn true 0, .arr 1 bz true 0]⟩, ⟨12, 7, .vptr (.agg [.i x2, .i x3]), [.arr 1 kn true 0, .arr 1 bz true 0]⟩, ⟨13, 1, .bool false, [.arr 1 kn true 0, .arr 1 bz true 0]⟩, ⟨13, 5, .bool false, [.arr 1 kn true 0, .arr 1 bz true 0]⟩, ⟨13, 9, .bool false, [.arr 1 kn true 0, .arr 1 bz true 0]⟩, ⟨13, 14, .bool false, [.arr 1 kn true 0, .arr 1 bz true 0]⟩, ⟨13, 19, .ptr 0 ((x0).toNat) 0 m, [.arr 1 kn true 0, .arr 1 bz true 0]⟩, ⟨13, 20, .bool true, [.arr 1 kn true 0, .arr 1 bz true 0]⟩, ⟨13, 26, .ptr 0 ((x3).toNat) 0 m, [.arr 1 kn true 0, .arr 1 bz true 0]⟩, ⟨13, 27, .bool true, [.arr 1 kn true 0, .arr 1 bz true 0]⟩] fun kf hk => ⟨_, by kernel_rfl, (oB [.arr 1 kn true 0, .arr 1 bz true 0] (decide_eq_true g0) (oP [.arr 1 kn true 0, .arr 1 bz true 0] g1 (oP [.arr 1 kn true 0, .arr 1 bz true 0] g2 (oB [.arr 1 kn true 0, .arr 1 bz true 0] (decide_eq_false g3) (oB [.arr 1 kn true 0, .arr 1 bz true 0] (decide_eq_false g4) (oB [.arr 1 kn true 0, .arr 1 bz true 0] (decide_eq_false g5) (oB [.arr 1 kn true 0, .arr 1 bz true 0] (decide_eq_false g6) (oP [.arr 1 kn true 0, .arr 1 bz true 0] g7 (oP [.arr 1 kn true 0, .arr 1 bz true 0] g8 (oP [.arr 1 kn true 0, .arr 1 bz true 0] g9 (oP [.arr 1 kn true 0, .arr 1 bz true 0] g10 .nil)))))))))))⟩
theorem cp_l_5 (n : Int) (lc : List HV) (x : Int) (rds : List HV) (m : Nat) (kn : List HV) (q : Nat) (i : Nat) (bz : List HV) (r : List HV) (j : Nat) (x0 : Int) (x1 : Int) (x2 : Int) (x3 : Int) (g0 : (j : Int) < (r.length : Int)) (g1 : idxV Try.prog 22 (.imm .arg 2 r) (.i (j : Int)) = some (.vptr (.agg [.i x0, .i x1]))) (g2 : idxV Try.prog 22 (.imm .arg 2 r) (.i (j : Int)) = some (.vptr (.agg [.i x2, .i x3]))) (g3 : ¬ (x0 < 0)) (g4 : ¬ (n ≤ x0)) (g5 : ¬ (x3 < 0)) (g6 : ¬ (n ≤ x3)) (g7 : idxV Try.prog 43 (.sl 0 0 m (some m) m 1) (.i x0) = some (.ptr 0 ((x0).toNat) 0 m)) (g8 : loadV Try.prog [.arr 1 kn true 0, .arr 1 bz true 0] 4 (.ptr 0 ((x0).toNat) 0 m) = some (.bool true)) (g9 : idxV Try.prog 43 (.sl 0 0 m (some m) m 1) (.i x3) = some (.ptr 0 ((x3).toNat) 0 m)) (g10 : loadV Try.prog [.arr 1 kn true 0, .arr 1 bz true 0] 4 (.ptr 0 ((x3).toNat) 0 m) = some (.bool false)) (g11 : idxV Try.prog 43 (.sl 1 0 m (some m) m 1) (.i x0) = some (.ptr 1 ((x0).toNat) 0 m)) (g12 : loadV Try.prog [.arr 1 kn true 0, .arr 1 bz true 0] 4 (.ptr 1 ((x0).toNat) 0 m) = some (.bool true)) : RunsTo Try.prog polY 30 (sub [1, 1, 1, 1, 0, 1, 0, 0, 1, 0, 0, 1, 1, 0, 1, 0, 0] B30) (env30 (.i n) (.imm .arg 2 lc) (.i x) (.imm .arg 1 rds) (.bool false) (.sl 0 0 m (some m) m 1) (.i (q : Int)) (.i (i : Int)) (.sl 1 0 m (some m) m 1) (.imm .arg 2 r) (.i (j : Int)) .undef .undef .undef) [.arr 1 kn true 0, .arr 1 bz true 0] .ret (polY.keys 30) (env30 (.i n) (.imm .arg 2 lc) (.i x) (.imm .arg 1 rds) (.bool false) (.sl 0 0 m (some m) m 1) (.i (q : Int)) (.i (i : Int)) (.sl 1 0 m (some m) m 1) (.imm .arg 2 r) (.i (j : Int)) (.i x0) (.i x3) .undef) [.arr 1 kn true 0, .arr 1 bz true 0] :=
  RunsTo.hin 0 60 [⟨10, 3, .bool true, [.arr 1 kn true 0, .arr 1 bz true 0]⟩, ⟨12, 2, .vptr (.agg [.i x0, .i x1]), [.arr 1 kn true 0, .arr 1 bz true 0]⟩, ⟨12, 7, .vptr (.agg [.i x2, .i x3]), [.arr 1 kn true 0, .arr 1 bz true 0]⟩, ⟨13, 1, .bool false, [.arr 1 kn true 0, .arr 1 bz true 0]⟩, ⟨13, 5, .bool false, [.arr 1 kn true 0, .arr 1 bz true 0]⟩, ⟨13, 9, .bool false, [.arr 1 kn true 0, .arr 1 bz true 0]⟩, ⟨13, 14, .bool false, [.arr 1 kn true 0, .arr 1 bz true 0]⟩, ⟨13, 19, .ptr 0 ((x0).toNat) 0 m, [.arr 1 kn true 0, .arr 1 bz true 0]⟩, ⟨13, 20, .bool true, [.arr 1 kn true 0, .arr 1 bz true 0]⟩, ⟨13, 26, .ptr 0 ((x3).toNat) 0 m, [.arr 1 kn true 0, .arr 1 bz true 0]⟩, ⟨13, 27, .bool false, [.arr 1 kn true 0, .arr 1 bz true 0]⟩, ⟨13, 32, .ptr 1 ((x0).toNat) 0 m, [.arr 1 kn true 0, .arr 1 bz true 0]⟩, ⟨13, 33, .bool true, [.arr 1 kn true 0, .arr 1 bz true 0]⟩] fun kf hk => ⟨_, by kernel_rfl, (oB [.arr 1 kn true 0, .arr 1 bz true 0] (decide_eq_true g0) (oP [.arr 1 kn true 0, .arr 1 bz true 0] g1 (oP [.arr 1 kn true 0, .arr 1 bz true 0] g2 (oB [.arr 1 kn true 0, .arr 1 bz true 0] (decide_eq_false g3) (oB [.arr 1 kn true 0, .arr 1 bz true 0] (decide_eq_false g4) (oB [.arr 1 kn true 0, .arr 1 bz true 0] (decide_eq_false g5) (oB [.arr 1 kn true 0, .arr 1 bz true 0] (decide_eq_false g6) (oP [.arr 1 kn true 0, .arr 1 bz true 0] g7 (oP [.arr 1 kn true 0, .arr 1 bz true 0] g8 (oP [.arr 1 kn true 0, .arr 1 bz true 0] g9 (oP [.arr 1 kn true 0, .arr 1 bz true 0] g10 (oP [.arr 1 kn true 0, .arr 1 bz true 0] g11 (oP [.arr 1 kn true 0, .arr 1 bz true 0] g12 .nil)))))))))))))⟩
theorem cp_l_6 (n : Int) (lc : List HV) (x : Int) (rds : List HV) (m : Nat) (kn : List HV) (q : Nat) (i : Nat) (bz : List HV) (r : List HV) (j : Nat) (x0 : Int) (x1 : Int) (x2 : Int) (x3 : Int) (g0 : (j : Int) < (r.length : Int)) (g1 : idxV Try.prog 22 (.imm .arg 2 r) (.i (j : Int)) = some (.vptr (.agg [.i x0, .i x1]))) (g2 : idxV Try.prog 22 (.imm .arg 2 r) (.i (j : Int)) = some (.vptr (.agg [.i x2, .i x3]))) (g3 : ¬ (x0 < 0)) (g4 : ¬ (n ≤ x0)) (g5 : ¬ (x3 < 0)) (g6 : ¬ (n ≤ x3)) (g7 : idxV Try.prog 43 (.sl 0 0 m (some m) m 1) (.i x0) = some (.ptr 0 ((x0).toNat) 0 m)) (g8 : loadV Try.prog [.arr 1 kn true 0, .arr 1 bz true 0] 4 (.ptr 0 ((x0).toNat) 0 m) = some (.bool true)) (g9 : idxV Try.prog 43 (.sl 0 0 m (some m) m 1) (.i x3) = some (.ptr 0 ((x3).toNat) 0 m)) (g10 : loadV Try.prog [.arr 1 kn true 0, .arr 1 bz true 0] 4 (.ptr 0 ((x3).toNat) 0 m) = some (.bool false)) (g11 : idxV Try.prog 43 (.sl 1 0 m (some m) m 1) (.i x0) = some (.ptr 1 ((x0).toNat) 0 m)) (g12 : loadV Try.prog [.arr 1 kn true 0, .arr 1 bz true 0] 4 (.ptr 1 ((x0).toNat) 0 m) = some (.bool false)) (g13 : idxV Try.prog 43 (.sl 1 0 m (some m) m 1) (.i x3) = some (.ptr 1 ((x3).toNat) 0 m)) (g14 : loadV Try.prog [.arr 1 kn true 0, .arr 1 bz true 0] 4 (.ptr 1 ((x3).toNat) 0 m) = some (.bool true)) : RunsTo Try.prog polY 30 (sub [1, 1, 1, 1, 0, 1, 0, 0, 1, 0, 0, 1, 1, 0, 1, 0, 0] B30) (env30 (.i n) (.imm .arg 2 lc) (.i x) (.imm .arg 1 rds) (.bool false) (.sl 0 0 m (some m) m 1) (.i (q : Int)) (.i (i : Int)) (.sl 1 0 m (some m) m 1) (.imm .arg 2 r) (.i (j : Int)) .undef .undef .undef) [.arr 1 kn true 0, .arr 1 bz true 0] .ret (polY.keys 30) (env30 (.i n) (.imm .arg 2 lc) (.i x) (.imm .arg 1 rds) (.bool false) (.sl 0 0 m (some m) m 1) (.i (q : Int)) (.i (i : Int)) (.sl 1 0 m (some m) m 1) (.imm .arg 2 r) (.i (j : Int)) (.i x0) (.i x3) .undef) [.arr 1 kn true 0, .arr 1 bz true 0] :=
  RunsTo.hin 0 60 [⟨10, 3, .bool true, [.arr 1 kn true 0, .arr 1 bz true 0]⟩, ⟨12, 2, .vptr (.agg [.i x0, .i x1]), [.arr 1 kn true 0, .arr 1 bz true 0]⟩, ⟨12, 7, .vptr (.agg [.i x2, .i x3]), [.arr 1 kn true 0, .arr 1 bz true 0]⟩, ⟨13, 1, .bool false, [.arr 1 kn true 0, .arr 1 bz true 0]⟩, ⟨13, 5, .bool false, [.arr 1 kn true 0, .arr 1 bz true 0]⟩, ⟨13, 9, .bool false, [.arr 1 kn true 0, .arr 1 bz true 0]⟩, ⟨13, 14, .bool false, [.arr 1 kn true 0, .arr 1 bz true 0]⟩, ⟨13, 19, .ptr 0 ((x0).toNat) 0 m, [.arr 1 kn true 0, .arr 1 bz true 0]⟩, ⟨13, 20, .bool true, [.arr 1 kn true 0, .arr 1 bz true 0]⟩, ⟨13, 26, .ptr 0 ((x3).toNat) 0 m, [.arr 1 kn true 0, .arr 1 bz true 0]⟩, ⟨13, 27, .bool false, [.arr 1 kn true 0, .arr 1 bz true 0]⟩, ⟨13, 32, .ptr 1 ((x0).toNat) 0 m, [.arr 1 kn true 0, .arr 1 bz true 0]⟩, ⟨13, 33, .bool false, [.arr 1 kn true 0, .arr 1 bz true 0]⟩, ⟨13, 38, .ptr 1 ((x3).toNat) 0 m, [.arr 1 kn true 0, .arr 1 bz true 0]⟩, ⟨13, 39, .bool true, [.arr 1 kn true 0, .arr 1 bz true 0]⟩] fun kf hk => ⟨_, by kernel_rfl, (oB [.arr 1 kn true 0, .arr 1 bz true 0] (decide_eq_true g0) (oP [.arr 1 kn true 0, .arr 1 bz true 0] g1 (oP [.arr 1 kn true 0, .arr 1 bz true 0] g2 (oB [.arr 1 kn true 0, .arr 1 bz true 0] (decide_eq_false g3) (oB [.arr 1 kn true 0, .arr 1 bz true 0] (decide_eq_false g4) (oB [.arr 1 kn true 0, .arr 1 bz true 0] (decide_eq_false g5) (oB [.arr 1 kn true 0, .arr 1 bz true 0] (decide_eq_false g6) (oP [.arr 1 kn true 0, .arr 1 bz true 0] g7 (oP [.arr 1 kn true 0, .arr 1 bz true 0] g8 (oP [.arr 1 kn true 0, .arr 1 bz true 0] g9 (oP [.arr 1 kn true 0, .arr 1 bz true 0] g10 (oP [.arr 1 kn true 0, .arr 1 bz true 0] g11 (oP [.arr 1 kn true 0, .arr 1 bz true 0] g12 (oP [.arr 1 kn true 0, .arr 1 bz true 0] g13 (oP [.arr 1 kn true 0, .arr 1 bz true 0] g14 .nil)))))))))))))))⟩
theorem cp_l_7 (n : Int) (lc : List HV) (x : Int) (rds : List HV) (m : Nat) (kn : List HV) (q : Nat) (i : Nat) (bz : List HV) (r : List HV) (j : Nat) (x0 : Int) (x1 : Int) (x2 : Int) (x3 : Int) (el0 : List HV) (el1 : List HV) (g0 : (j : Int) < (r.length : Int)) (g1 : idxV Try.prog 22 (.imm .arg 2 r) (.i (j : Int)) = some (.vptr (.agg [.i x0, .i x1]))) (g2 : idxV Try.prog 22 (.imm .arg 2 r) (.i (j : Int)) = some (.vptr (.agg [.i x2, .i x3]))) (g3 : ¬ (x0 < 0)) (g4 : ¬ (n ≤ x0)) (g5 : ¬ (x3 < 0)) (g6 : ¬ (n ≤ x3)) (g7 : idxV Try.prog 43 (.sl 0 0 m (some m) m 1) (.i x0) = some (.ptr 0 ((x0).toNat) 0 m)) (g8 : loadV Try.prog [.arr 1 kn true 0, .arr 1 bz true 0] 4 (.ptr 0 ((x0).toNat) 0 m) = some (.bool true)) (g9 : idxV Try.prog 43 (.sl 0 0 m (some m) m 1) (.i x3) = some (.ptr 0 ((x3).toNat) 0 m)) (g10 : loadV Try.prog [.arr 1 kn true 0, .arr 1 bz true 0] 4 (.ptr 0 ((x3).toNat) 0 m) = some (.bool false)) (g11 : idxV Try.prog 43 (.sl 1 0 m (some m) m 1) (.i x0) = some (.ptr 1 ((x0).toNat) 0 m)) (g12 : loadV Try.prog [.arr 1 kn true 0, .arr 1 bz true 0] 4 (.ptr 1 ((x0).toNat) 0 m) = some (.bool false)) (g13 : idxV Try.prog 43 (.sl 1 0 m (some m) m 1) (.i x3) = some (.ptr 1 ((x3).toNat) 0 m)) (g14 : loadV Try.prog [.arr 1 kn true 0, .arr 1 bz true 0] 4 (.ptr 1 ((x3).toNat) 0 m) = some (.bool false)) (g15 : ∀ kf, callN Try.prog polY (kf + 1) 53 [.imm .arg 2 lc, .i x0, .i x3] [.arr 1 kn true 0, .arr 1 bz true 0] = some (.bool true, [.arr 1 kn true 0, .arr 1 bz true 0])) (g16 : idxV Try.prog 43 (.sl 1 0 m (some m) m 1) (.i x0) = some (.ptr 1 ((x0).toNat) 0 m)) (g17 : storeV Try.prog [.arr 1 kn true 0, .arr 1 bz true 0] 4 (.ptr 1 ((x0).toNat) 0 m) (.bool true) = some [.arr 1 kn true 0, .arr 1 el0 true 0]) (g18 : idxV Try.prog 43 (.sl 1 0 m (some m) m 1) (.i x3) = some (.ptr 1 ((x3).toNat) 0 m)) (g19 : storeV Try.prog [.arr 1 kn true 0, .arr 1 el0 true 0] 4 (.ptr 1 ((x3).toNat) 0 m) (.bool true) = some [.arr 1 kn true 0, .arr 1 el1 true 0]) : RunsTo Try.prog polY 30 (sub [1, 1, 1, 1, 0, 1, 0, 0, 1, 0, 0, 1, 1, 0, 1, 0, 0] B30) (env30 (.i n) (.imm .arg 2 lc) (.i x) (.imm .arg 1 rds) (.bool false) (.sl 0 0 m (some m) m 1) (.i (q : Int)) (.i (i : Int)) (.sl 1 0 m (some m) m 1) (.imm .arg 2 r) (.i (j : Int)) .undef .undef .undef) [.arr 1 kn true 0, .arr 1 bz true 0] .normal (polY.keys 30) (env30 (.i n) (.imm .arg 2 lc) (.i x) (.imm .arg 1 rds) (.bool false) (.sl 0 0 m (some m) m 1) (.i (q : Int)) (.i (i : Int)) (.sl 1 0 m (some m) m 1) (.imm .arg 2 r) (.i (IntKind.i64.wrap ((j : Int) + 1))) (.i x0) (.i x3) .undef) [.arr 1 kn true 0, .arr 1 el1 true 0] :=
  RunsTo.hin 0 60 [⟨10, 3, .bool true, [.arr 1 kn true 0, .arr 1 bz true 0]⟩, ⟨12, 2, .vptr (.agg [.i x0, .i x1]), [.arr 1 kn true 0, .arr 1 bz true 0]⟩, ⟨12, 7, .vptr (.agg [.i x2, .i x3]), [.arr 1 kn true 0, .arr 1 bz true 0]⟩, ⟨13, 1, .bool false, [.arr 1 kn true 0, .arr 1 bz true 0]⟩, ⟨13, 5, .bool false, [.arr 1 kn true 0, .arr 1 bz true 0]⟩, ⟨13, 9, .bool false, [.arr 1 kn true 0, .arr 1 bz true 0]⟩, ⟨13, 14, .bool false, [.arr 1 kn true 0, .arr 1 bz true 0]⟩, ⟨13, 19, .ptr 0 ((x0).toNat) 0 m, [.arr 1 kn true 0, .arr 1 bz true 0]⟩, ⟨13, 20, .bool true, [.arr 1 kn true 0, .arr 1 bz true 0]⟩, ⟨13, 26, .ptr 0 ((x3).toNat) 0 m, [.arr 1 kn true 0, .arr 1 bz true 0]⟩, ⟨13, 27, .bool false, [.arr 1 kn true 0, .arr 1 bz true 0]⟩, ⟨13, 32, .ptr 1 ((x0).toNat) 0 m, [.arr 1 kn true 0, .arr 1 bz true 0]⟩, ⟨13, 33, .bool false, [.arr 1 kn true 0, .arr 1 bz true 0]⟩, ⟨13, 38, .ptr 1 ((x3).toNat) 0 m, [.arr 1 kn true 0, .arr 1 bz true 0]⟩, ⟨13, 39, .bool false, [.arr 1 kn true 0, .arr 1 bz true 0]⟩, ⟨13, 45, .bool true, [.arr 1 kn true 0, .arr 1 bz true 0]⟩, ⟨15, 2, .ptr 1 ((x0).toNat) 0 m, [.arr 1 kn true 0, .arr 1 bz true 0]⟩, ⟨15, 3, .tuple [], [.arr 1 kn true 0, .arr 1 el0 true 0]⟩, ⟨16, 2, .ptr 1 ((x3).toNat) 0 m, [.arr 1 kn true 0, .arr 1 el0 true 0]⟩, ⟨16, 3, .tuple [], [.arr 1 kn true 0, .arr 1 el1 true 0]⟩] fun kf hk => ⟨_, by kernel_rfl, (oB [.arr 1 kn true 0, .arr 1 bz true 0] (decide_eq_true g0) (oP [.arr 1 kn true 0, .arr 1 bz true 0] g1 (oP [.arr 1 kn true 0, .arr 1 bz true 0] g2 (oB [.arr 1 kn true 0, .arr 1 bz true 0] (decide_eq_false g3) (oB [.arr 1 kn true 0, .arr 1 bz true 0] (decide_eq_false g4) (oB [.arr 1 kn true 0, .arr 1 bz true 0] (decide_eq_false g5) (oB [.arr 1 kn true 0, .arr 1 bz true 0] (decide_eq_false g6) (oP [.arr 1 kn true 0, .arr 1 bz true 0] g7 (oP [.arr 1 kn true 0, .arr 1 bz true 0] g8 (oP [.arr 1 kn true 0, .arr 1 bz true 0] g9 (oP [.arr 1 kn true 0, .arr 1 bz true 0] g10 (oP [.arr 1 kn true 0, .arr 1 bz true 0] g11 (oP [.arr 1 kn true 0, .arr 1 bz true 0] g12 (oP [.arr 1 kn true 0, .arr 1 bz true 0] g13 (oP [.arr 1 kn true 0, .arr 1 bz true 0] g14 (oC (g15 kf) (oP [.arr 1 kn true 0, .arr 1 bz true 0] g16 (oS g17 (oP [.arr 1 kn true 0, .arr 1 el0 true 0] g18 (oS g19 .nil))))))))))))))))))))⟩
theorem cp_l_8 (n : Int) (lc : List HV) (x : Int) (rds : List HV) (m : Nat) (kn : List HV) (q : Nat) (i : Nat) (bz : List HV) (r : List HV) (j : Nat) (x0 : Int) (x1 : Int) (x2 : Int) (x3 : Int) (g0 : (j : Int) < (r.length : Int)) (g1 : idxV Try.prog 22 (.imm .arg 2 r) (.i (j : Int)) = some (.vptr (.agg [.i x0, .i x1]))) (g2 : idxV Try.prog 22 (.imm .arg 2 r) (.i (j : Int)) = some (.vptr (.agg [.i x2, .i x3]))) (g3 : ¬ (x0 < 0)) (g4 : ¬ (n ≤ x0)) (g5 : ¬ (x3 < 0)) (g6 : ¬ (n ≤ x3)) (g7 : idxV Try.prog 43 (.sl 0 0 m (some m) m 1) (.i x0) = some (.ptr 0 ((x0).toNat) 0 m)) (g8 : loadV Try.prog [.arr 1 kn true 0, .arr 1 bz true 0] 4 (.ptr 0 ((x0).toNat) 0 m) = some (.bool true)) (g9 : idxV Try.prog 43 (.sl 0 0 m (some m) m 1) (.i x3) = some (.ptr 0 ((x3).toNat) 0 m)) (g10 : loadV Try.prog [.arr 1 kn true 0, .arr 1 bz true 0] 4 (.ptr 0 ((x3).toNat) 0 m) = some (.bool false)) (g11 : idxV Try.prog 43 (.sl 1 0 m (some m) m 1) (.i x0) = some (.ptr 1 ((x0).toNat) 0 m)) (g12 : loadV Try.prog [.arr 1 kn true 0, .arr 1 bz true 0] 4 (.ptr 1 ((x0).toNat) 0 m) = some (.bool false)) (g13 : idxV Try.prog 43 (.sl 1 0 m (some m) m 1) (.i x3) = some (.ptr 1 ((x3).toNat) 0 m)) (g14 : loadV Try.prog [.arr 1 kn true 0, .arr 1 bz true 0] 4 (.ptr 1 ((x3).toNat) 0 m) = some (.bool false)) (g15 : ∀ kf, callN Try.prog polY (kf + 1) 53 [.imm .arg 2 lc, .i x0, .i x3] [.arr 1 kn true 0, .arr 1 bz true 0] = some (.bool false, [.arr 1 kn true 0, .arr 1 bz true 0])) : RunsTo Try.prog polY 30 (sub [1, 1, 1, 1, 0, 1, 0, 0, 1, 0, 0, 1, 1, 0, 1, 0, 0] B30) (env30 (.i n) (.imm .arg 2 lc) (.i x) (.imm .arg 1 rds) (.bool false) (.sl 0 0 m (some m) m 1) (.i (q : Int)) (.i (i : Int)) (.sl 1 0 m (some m) m 1) (.imm .arg 2 r) (.i (j : Int)) .undef .undef .undef) [.arr 1 kn true 0, .arr 1 bz true 0] .ret (polY.keys 30) (env30 (.i n) (.imm .arg 2 lc) (.i x) (.imm .arg 1 rds) (.bool false) (.sl 0 0 m (some m) m 1) (.i (q : Int)) (.i (i : Int)) (.sl 1 0 m (some m) m 1) (.imm .arg 2 r) (.i (j : Int)) (.i x0) (.i x3) .undef) [.arr 1 kn true 0, .arr 1 bz true 0] :=
  RunsTo.hin 0 60 [⟨10, 3, .bool true, [.arr 1 kn true 0, .arr 1 bz true 0]⟩, ⟨12, 2, .vptr (.agg [.i x0, .i x1]), [.arr 1 kn true 0, .arr 1 bz true 0]⟩, ⟨12, 7, .vptr (.agg [.i x2, .i x3]), [.arr 1 kn true 0, .arr 1 bz true 0]⟩, ⟨13, 1, .bool false, [.arr 1 kn true 0, .arr 1 bz true 0]⟩, ⟨13, 5, .bool false, [.arr 1 kn true 0, .arr 1 bz true 0]⟩, ⟨13, 9, .bool false, [.arr 1 kn true 0, .arr 1 bz true 0]⟩, ⟨13, 14, .bool false, [.arr 1 kn true 0, .arr 1 bz true 0]⟩, ⟨13, 19, .ptr 0 ((x0).toNat) 0 m, [.arr 1 kn true 0, .arr 1 bz true 0]⟩, ⟨13, 20, .bool true, [.arr 1 kn true 0, .arr 1 bz true 0]⟩, ⟨13, 26, .ptr 0 ((x3).toNat) 0 m, [.arr 1 kn true 0, .arr 1 bz true 0]⟩, ⟨13, 27, .bool false, [.arr 1 kn true 0, .arr 1 bz true 0]⟩, ⟨13, 32, .ptr 1 ((x0).toNat) 0 m, [.arr 1 kn true 0, .arr 1 bz true 0]⟩, ⟨13, 33, .bool false, [.arr 1 kn true 0, .arr 1 bz true 0]⟩, ⟨13, 38, .ptr 1 ((x3).toNat) 0 m, [.arr 1 kn true 0, .arr 1 bz true 0]⟩, ⟨13, 39, .bool false, [.arr 1 kn true 0, .arr 1 bz true 0]⟩, ⟨13, 45, .bool false, [.arr 1 kn true 0, .arr 1 bz true 0]⟩] fun kf hk => ⟨_, by kernel_rfl, (oB [.arr 1 kn true 0, .arr 1 bz true 0] (decide_eq_true g0) (oP [.arr 1 kn true 0, .arr 1 bz true 0] g1 (oP [.arr 1 kn true 0, .arr 1 bz true 0] g2 (oB [.arr 1 kn true 0, .arr 1 bz true 0] (decide_eq_false g3) (oB [.arr 1 kn true 0, .arr 1 bz true 0] (decide_eq_false g4) (oB [.arr 1 kn true 0, .arr 1 bz true 0] (decide_eq_false g5) (oB [.arr 1 kn true 0, .arr 1 bz true 0] (decide_eq_false g6) (oP [.arr 1 kn true 0, .arr 1 bz true 0] g7 (oP [.arr 1 kn true 0, .arr 1 bz true 0] g8 (oP [.arr 1 kn true 0, .arr 1 bz true 0] g9 (oP [.arr 1 kn true 0, .arr 1 bz true 0] g10 (oP [.arr 1 kn true 0, .arr 1 bz true 0] g11 (oP [.arr 1 kn true 0, .arr 1 bz true 0] g12 (oP [.arr 1 kn true 0, .arr 1 bz true 0] g13 (oP [.arr 1 kn true 0, .arr 1 bz true 0] g14 (oC (g15 kf) .nil))))))))))))))))⟩
theorem cp_l_9 (n : Int) (lc : List HV) (x : Int) (rds : List HV) (m : Nat) (kn : List HV) (q : Nat) (i : Nat) (bz : List HV) (r : List HV) (j : Nat) (x0 : Int) (x1 : Int) (x2 : Int) (x3 : Int) (g0 : (j : Int) < (r.length : Int)) (g1 : idxV Try.prog 22 (.imm .arg 2 r) (.i (j : Int)) = some (.vptr (.agg [.i x0, .i x1]))) (g2 : idxV Try.prog 22 (.imm .arg 2 r) (.i (j : Int)) = some (.vptr (.agg [.i x2, .i x3]))) (g3 : ¬ (x0 < 0)) (g4 : ¬ (n ≤ x0)) (g5 : ¬ (x3 < 0)) (g6 : ¬ (n ≤ x3)) (g7 : idxV Try.prog 43 (.sl 0 0 m (some m) m 1) (.i x0) = some (.ptr 0 ((x0).toNat) 0 m)) (g8 : loadV Try.prog [.arr 1 kn true 0, .arr 1 bz true 0] 4 (.ptr 0 ((x0).toNat) 0 m) = some (.bool false)) : RunsTo Try.prog polY 30 (sub [1, 1, 1, 1, 0, 1, 0, 0, 1, 0, 0, 1, 1, 0, 1, 0, 0] B30) (env30 (.i n) (.imm .arg 2 lc) (.i x) (.imm .arg 1 rds) (.bool false) (.sl 0 0 m (some m) m 1) (.i (q : Int)) (.i (i : Int)) (.sl 1 0 m (some m) m 1) (.imm .arg 2 r) (.i (j : Int)) .undef .undef .undef) [.arr 1 kn true 0, .arr 1 bz true 0] .ret (polY.keys 30) (env30 (.i n) (.imm .arg 2 lc) (.i x) (.imm .arg 1 rds) (.bool false) (.sl 0 0 m (some m) m 1) (.i (q : Int)) (.i (i : Int)) (.sl 1 0 m (some m) m 1) (.imm .arg 2 r) (.i (j : Int)) (.i x0) (.i x3) .undef) [.arr 1 kn true 0, .arr 1 bz true 0] :=
  RunsTo.hin 0 60 [⟨10, 3, .bool true, [.arr 1 kn true 0, .arr 1 bz true 0]⟩, ⟨12, 2, .vptr (.agg [.i x0, .i x1]), [.arr 1 kn true 0, .arr 1 bz true 0]⟩, ⟨12, 7, .vptr (.agg [.i x2, .i x3]), [.arr 1 kn true 0, .arr 1 bz true 0]⟩, ⟨13, 1, .bool false, [.arr 1 kn true 0, .arr 1 bz true 0]⟩, ⟨13, 5, .bool false, [.arr 1 kn true 0, .arr 1 bz true 0]⟩, ⟨13, 9, .bool false, [.arr 1 kn true 0, .arr 1 bz true 0]⟩, ⟨13, 14, .bool false, [.arr 1 kn true 0, .arr 1 bz true 0]⟩, ⟨13, 19, .ptr 0 ((x0).toNat) 0 m, [.arr 1 kn true 0, .arr 1 bz true 0]⟩, ⟨13, 20, .bool false, [.arr 1 kn true 0, .arr 1 bz true 0]⟩] fun kf hk => ⟨_, by kernel_rfl, (oB [.arr 1 kn true 0, .arr 1 bz true 0] (decide_eq_true g0) (oP [.arr 1 kn true 0, .arr 1 bz true 0] g1 (oP [.arr 1 kn true 0, .arr 1 bz true 0] g2 (oB [.arr 1 kn true 0, .arr 1 bz true 0] (decide_eq_false g3) (oB [.arr 1 kn true 0, .arr 1 bz true 0] (decide_eq_false g4) (oB [.arr 1 kn true 0, .arr 1 bz true 0] (decide_eq_false g5) (oB [.arr 1 kn true 0, .arr 1 bz true 0] (decide_eq_false g6) (oP [.arr 1 kn true 0, .arr 1 bz true 0] g7 (oP [.arr 1 kn true 0, .arr 1 bz true 0] g8 .nil)))))))))⟩
theorem cp_l_10 (n : Int) (lc : List HV) (x : Int) (rds : List HV) (m : Nat) (kn : List HV) (q : Nat) (i : Nat) (bz : List HV) (r : List HV) (j : Nat)(g0 : ¬ ((j : Int) < (r.length : Int))) : RunsTo Try.prog polY 30 (sub [1, 1, 1, 1, 0, 1, 0, 0, 1, 0, 0, 1, 1, 0, 1, 0, 0] B30) (env30 (.i n) (.imm .arg 2 lc) (.i x) (.imm .arg 1 rds) (.bool false) (.sl 0 0 m (some m) m 1) (.i (q : Int)) (.i (i : Int)) (.sl 1 0 m (some m) m 1) (.imm .arg 2 r) (.i (j : Int)) .undef .undef .undef) [.arr 1 kn true 0, .arr 1 bz true 0] (.exit 2) (polY.keys 30) (env30 (.i n) (.imm .arg 2 lc) (.i x) (.imm .arg 1 rds) (.bool false) (.sl 0 0 m (some m) m 1) (.i (q : Int)) (.i (i : Int)) (.sl 1 0 m (some m) m 1) (.imm .arg 2 r) (.i (j : Int)) .undef .undef .undef) [.arr 1 kn true 0, .arr 1 bz true 0] :=
  RunsTo.hin 0 60 [⟨10, 3, .bool false, [.arr 1 kn true 0, .arr 1 bz true 0]⟩] fun kf hk => ⟨_, by kernel_rfl, (oB [.arr 1 kn true 0, .arr 1 bz true 0] (decide_eq_false g0) .nil)⟩
theorem cp_m_0 (n : Int) (lc : List HV) (x : Int) (rds : List HV) (m : Nat) (kn : List HV) (q : Nat) (i : Nat) (bz : List HV) (r : List HV) (j : Nat) : RunsTo Try.prog polY 30 (sub [1, 1, 1, 1, 0, 1, 0, 0, 1, 0, 0, 1, 1, 1, 0] B30) (env30 (.i n) (.imm .arg 2 lc) (.i x) (.imm .arg 1 rds) (.bool false) (.sl 0 0 m (some m) m 1) (.i (q : Int)) (.i (i : Int)) (.sl 1 0 m (some m) m 1) (.imm .arg 2 r) (.i (j : Int)) .undef .undef .undef) [.arr 1 kn true 0, .arr 1 bz true 0] .normal (polY.keys 30) (env30 (.i n) (.imm .arg 2 lc) (.i x) (.imm .arg 1 rds) (.bool false) (.sl 0 0 m (some m) m 1) (.i (q : Int)) (.i (i : Int)) (.sl 1 0 m (some m) m 1) (.imm .arg 2 r) (.i (j : Int)) .undef .undef (.i 0)) [.arr 1 kn true 0, .arr 1 bz true 0] :=
  RunsTo.hin 0 60 [] fun kf hk => ⟨_, by kernel_rfl, .nil⟩
theorem cp_n_0 (n : Int) (lc : List HV) (x : Int) (rds : List HV) (m : Nat) (kn : List HV) (q : Nat) (i : Nat) (bz : List HV) (r : List HV) (j : Nat) (x0 : Int) (x1 : Int) (el0 : List HV) (g0 : (j : Int) < (r.length : Int)) (g1 : idxV Try.prog 22 (.imm .arg 2 r) (.i (j : Int)) = some (.vptr (.agg [.i x0, .i x1]))) (g2 : idxV Try.prog 43 (.sl 0 0 m (some m) m 1) (.i x1) = some (.ptr 0 ((x1).toNat) 0 m)) (g3 : storeV Try.prog [.arr 1 kn true 0, .arr 1 bz true 0] 4 (.ptr 0 ((x1).toNat) 0 m) (.bool true) = some [.arr 1 el0 true 0, .arr 1 bz true 0]) : RunsTo Try.prog polY 30 (sub [1, 1, 1, 1, 0, 1, 0, 0, 1, 0, 0, 1, 1, 1, 1, 0, 0] B30) (env30 (.i n) (.imm .arg 2 lc) (.i x) (.imm .arg 1 rds) (.bool false) (.sl 0 0 m (some m) m 1) (.i (q : Int)) (.i (i : Int)) .undef (.imm .arg 2 r) .undef .undef .undef (.i (j : Int))) [.arr 1 kn true 0, .arr 1 bz true 0] .normal (polY.keys 30) (env30 (.i n) (.imm .arg 2 lc) (.i x) (.imm .arg 1 rds) (.bool false) (.sl 0 0 m (some m) m 1) (.i (IntKind.i64.wrap ((q : Int) + 1))) (.i (i : Int)) .undef (.imm .arg 2 r) .undef .undef .undef (.i (IntKind.i64.wrap ((j : Int) + 1)))) [.arr 1 el0 true 0, .arr 1 bz true 0] :=
  RunsTo.hin 0 60 [⟨18, 3, .bool true, [.arr 1 kn true 0, .arr 1 bz true 0]⟩, ⟨20, 3, .vptr (.agg [.i x0, .i x1]), [.arr 1 kn true 0, .arr 1 bz true 0]⟩, ⟨20, 6, .ptr 0 ((x1).toNat) 0 m, [.arr 1 kn true 0, .arr 1 bz true 0]⟩, ⟨20, 7, .tuple [], [.arr 1 el0 true 0, .arr 1 bz true 0]⟩] fun kf hk => ⟨_, by kernel_rfl, (oB [.arr 1 kn true 0, .arr 1 bz true 0] (decide_eq_true g0) (oP [.arr 1 kn true 0, .arr 1 bz true 0] g1 (oP [.arr 1 kn true 0, .arr 1 bz true 0] g2 (oS g3 .nil))))⟩
theorem cp_n_1 (n : Int) (lc : List HV) (x : Int) (rds : List HV) (m : Nat) (kn : List HV) (q : Nat) (i : Nat) (bz : List HV) (r : List HV) (j : Nat)(g0 : ¬ ((j : Int) < (r.length : Int))) : RunsTo Try.prog polY 30 (sub [1, 1, 1, 1, 0, 1, 0, 0, 1, 0, 0, 1, 1, 1, 1, 0, 0] B30) (env30 (.i n) (.imm .arg 2 lc) (.i x) (.imm .arg 1 rds) (.bool false) (.sl 0 0 m (some m) m 1) (.i (q : Int)) (.i (i : Int)) .undef (.imm .arg 2 r) .undef .undef .undef (.i (j : Int))) [.arr 1 kn true 0, .arr 1 bz true 0] (.exit 4) (polY.keys 30) (env30 (.i n) (.imm .arg 2 lc) (.i x) (.imm .arg 1 rds) (.bool false) (.sl 0 0 m (some m) m 1) (.i (q : Int)) (.i (i : Int)) .undef (.imm .arg 2 r) .undef .undef .undef (.i (j : Int))) [.arr 1 kn true 0, .arr 1 bz true 0] :=
  RunsTo.hin 0 60 [⟨18, 3, .bool false, [.arr 1 kn true 0, .arr 1 bz true 0]⟩] fun kf hk => ⟨_, by kernel_rfl, (oB [.arr 1 kn true 0, .arr 1 bz true 0] (decide_eq_false g0) .nil)⟩
theorem cp_o_0 (n : Int) (lc : List HV) (x : Int) (rds : List HV) (m : Nat) (kn : List HV) (q : Nat) (i : Nat) (bz : List HV) (r : List HV) (j : Nat) : RunsTo Try.prog polY 30 (sub [1, 1, 1, 1, 0, 1, 0, 0, 1, 1] B30) (env30 (.i n) (.imm .arg 2 lc) (.i x) (.imm .arg 1 rds) (.bool false) (.sl 0 0 m (some m) m 1) (.i (q : Int)) (.i (i : Int)) .undef (.imm .arg 2 r) .undef .undef .undef (.i (j : Int))) [.arr 1 kn true 0, .arr 1 bz true 0] .normal (polY.keys 30) (env30 (.i n) (.imm .arg 2 lc) (.i x) (.imm .arg 1 rds) (.bool false) (.sl 0 0 m (some m) m 1) (.i (q : Int)) (.i (IntKind.i64.wrap ((i : Int) + 1))) .undef (.imm .arg 2 r) .undef .undef .undef (.i (j : Int))) [.arr 1 kn true 0, .arr 1 bz true 0] :=
  RunsTo.hin 0 60 [] fun kf hk => ⟨_, by kernel_rfl, .nil⟩
theorem cp_z_0 (n : Int) (lc : List HV) (x : Int) (rds : List HV) (m : Nat) (kn : List HV) (q : Nat) (i : Nat)(g0 : (q : Int) = n) : RunsTo Try.prog polY 30 (sub [1, 1, 1, 1, 1] B30) (env30 (.i n) (.imm .arg 2 lc) (.i x) (.imm .arg 1 rds) (.bool false) (.sl 0 0 m (some m) m 1) (.i (q : Int)) (.i (i : Int)) .undef .undef .undef .undef .undef .undef) [.arr 1 kn true 0] .ret (polY.keys 30) (env30 (.i n) (.imm .arg 2 lc) (.i x) (.imm .arg 1 rds) (.bool true) (.sl 0 0 m (some m) m 1) (.i (q : Int)) (.i (i : Int)) .undef .undef .undef .undef .undef .undef) [.arr 1 kn true 0] :=
  RunsTo.hin 0 60 [⟨22, 2, .bool true, [.arr 1 kn true 0]⟩] fun kf hk => ⟨_, by kernel_rfl, (oB [.arr 1 kn true 0] (decide_eq_true g0) .nil)⟩
theorem cp_z_1 (n : Int) (lc : List HV) (x : Int) (rds : List HV) (m : Nat) (kn : List HV) (q : Nat) (i : Nat)(g0 : ¬ ((q : Int) = n)) : RunsTo Try.prog polY 30 (sub [1, 1, 1, 1, 1] B30) (env30 (.i n) (.imm .arg 2 lc) (.i x) (.imm .arg 1 rds) (.bool false) (.sl 0 0 m (some m) m 1) (.i (q : Int)) (.i (i : Int)) .undef .undef .undef .undef .undef .undef) [.arr 1 kn true 0] .ret (polY.keys 30) (env30 (.i n) (.imm .arg 2 lc) (.i x) (.imm .arg 1 rds) (.bool false) (.sl 0 0 m (some m) m 1) (.i (q : Int)) (.i (i : Int)) .undef .undef .undef .undef .undef .undef) [.arr 1 kn true 0] :=
  RunsTo.hin 0 60 [⟨22, 2, .bool false, [.arr 1 kn true 0]⟩] fun kf hk => ⟨_, by kernel_rfl, (oB [.arr 1 kn true 0] (decide_eq_false g0) .nil)⟩
end Go.Proofs.Ytmhfkhlamnapdaa
end
section
open Go Go.HL
namespace Go.Proofs.Ytmhfkhlamnapdaa
def inR (m : Nat) (v : Int) : Bool := decide (0 ≤ v ∧ v < (m : Int))
def nrR (m : Nat) (l : List (Int × Int)) (a b : Int) : Bool := inR m a && (inR m b && l.any (isNear a b))
structure MB (m : Nat) (K : List Bool) (s : List Int) : Prop where
  len : K.length = m
  eq : ∀ y, y < m → (bitAt K y = true ↔ (y : Int) ∈ s)
theorem ins_mem {x y : Int} {s : List Int} : y ∈ ins x s ↔ y = x ∨ y ∈ s := by
  unfold ins
  split
  · rename_i h
    constructor
    · exact .inr
    · rintro (rfl | h2)
      · exact h
      · exact h2
  · simp [or_comm]
theorem MB.set {m : Nat} {K : List Bool} {s : List Int} (h : MB m K s) {y : Nat} (hy : y < m) : MB m (K.set y true) (ins (y : Int) s) := by
  refine ⟨by simp [h.len], fun z hz => ?_⟩
  rw [bitAt_set _ _ _ _ (by rw [h.len]; exact hy), ins_mem]
  by_cases e : y = z
  · subst e; simp
  · rw [if_neg e, h.eq z hz]
    constructor
    · exact .inr
    · rintro (h1 | h1)
      · omega
      · exact h1
theorem MB.init (m : Nat) : MB m (List.replicate m false) [] := by
  refine ⟨by simp, fun y hy => ?_⟩
  have : bitAt (List.replicate m false) y = false := by
    unfold bitAt
    rw [List.getElem?_replicate]
    split <;> rfl
  rw [this]; simp
theorem z4c : tySize Try.prog 4 = some 1 := by kernel_rfl
theorem a4c : tyAgg Try.prog 4 = false := by kernel_rfl
theorem i4c : (Try.prog.underlying 4).isSome = true := by kernel_rfl
theorem u43c : Try.prog.underlying 43 = some (.slice 4) := by kernel_rfl
theorem load_b {H : Heap} {k : Nat} {K : List Bool} {m : Nat} (hm : K.length = m) (h : H[k]? = some (bF K)) {y : Nat} (hy : y < m) : loadV Try.prog H 4 (.ptr k y 0 m) = some (.bool (bitAt K y)) := by
  subst hm
  exact load_elem (b := k) h (by simp) (by rw [List.getElem?_map, List.getElem?_eq_getElem hy]; simp [bitAt, List.getElem?_eq_getElem hy]) rfl a4c i4c
theorem store_b {H : Heap} {k : Nat} {K : List Bool} {m : Nat} (hm : K.length = m) (h : H[k]? = some (bF K)) {y : Nat} (hy : y < m) (v : Bool) : storeV Try.prog H 4 (.ptr k y 0 m) (.bool v) = some (H.set k (bF (K.set y v))) := by
  subst hm
  have hi : (K.map HV.bool)[y]? = some (.bool K[y]) := by rw [List.getElem?_map, List.getElem?_eq_getElem hy]; rfl
  have := store_elem (P := Try.prog) (t := 4) (b := k) (tot := K.length) (v := .bool v) h (by simp) hi rfl (by intro cs h; cases h) z4c rfl rfl (by simp [bnd])
  rw [this]
  rw [bF, List.map_set]
theorem nb_false {b : Bool} (h : ¬ b = true) : b = false := by cases b <;> simp_all
abbrev cpE (m : Nat) (lc : List HV) (x : Int) (rds : List HV) (q : Nat) (v11 v12 v13 v14 v15 v16 v17 : HV) : Env :=
  env30 (.int .i64 (m : Int)) (.imm .arg 2 lc) (.int .i64 x) (.imm .arg 1 rds) (.bool false) (.sl 0 0 m (some m) m 1) (.int .i64 (q : Int)) v11 v12 v13 v14 v15 v16 v17
theorem y53 (l : List (Int × Int)) (hl : l.length ≤ 1000) (a b : Int) (t : Bool) (ht : l.any (isNear a b) = t) (H : Heap) : ∀ kf, callN Try.prog polY (kf + 1) 53 [.imm .arg 2 (l.map encP), .int .i64 a, .int .i64 b] H = some (.bool t, H) := fun kf => by
  rw [prim_call (pol := polY) (g := 53) (F := near53) (by kernel_rfl) (rs := [.imm .arg 2 (l.map encP), .int .i64 a, .int .i64 b]) (by simp only [mapO, arg_pairs']; rfl) (res := .bool t) (by simp only [near53, mapO_map decP_enc]; rw [if_pos hl, ht])]; rfl
theorem cp_calls (m : Nat) (hm : m ≤ 1000) (l : List (Int × Int)) (hl : l.length ≤ 1000) (x : Int) (rds : List HV) (q i : Nat) (K : List Bool) (kn : List Int) (hK : MB m K kn) (r : List (Int × Int)) (hr : r.length ≤ 1000) : ∀ (d j : Nat) (Z : List Bool) (bz : List Int), j + d = r.length → MB m Z bz →
    ∃ X E H', RunsTo Try.prog polY 30 (sub [1, 1, 1, 1, 0, 1, 0, 0, 1, 0, 0, 1, 1, 0, 1, 0] B30) (cpE m (l.map encP) x rds q (.int .i64 (i : Int)) (.sl 1 0 m (some m) m 1) (.imm .arg 2 (r.map encP)) (.int .i64 (j : Int)) .undef .undef .undef) [bF K, bF Z] X (polY.keys 30) E H' ∧
      ((rdGo (nrR m l) kn (r.drop j) bz = true ∧ X = .exit 2 ∧ ∃ Z', E = cpE m (l.map encP) x rds q (.int .i64 (i : Int)) (.sl 1 0 m (some m) m 1) (.imm .arg 2 (r.map encP)) (.int .i64 (r.length : Int)) .undef .undef .undef ∧ H' = [bF K, bF Z']) ∨
       (rdGo (nrR m l) kn (r.drop j) bz = false ∧ X = .ret ∧ E.get 8 = .bool false)) := by
  intro d
  induction d with
  | zero =>
    intro j Z bz hj hZ
    have hj : j = r.length := by omega
    subst hj
    have s1 := cp_l_10 (m : Int) (l.map encP) x rds m (K.map .bool) q i (Z.map .bool) (r.map encP) r.length (by simp)
    exact ⟨_, _, _, RunsTo.loop_out s1 (by simp) (by kernel_rfl) (by kernel_rfl), .inl ⟨by simp [rdGo], rfl, Z, rfl, rfl⟩⟩
  | succ d ih =>
    intro j Z bz hj hZ
    have hjl : j < r.length := by omega
    rw [List.drop_eq_getElem_cons hjl, rdGo]
    generalize hp : r[j] = p
    obtain ⟨a, b⟩ := p
    have g0 : (j : Int) < ((r.map encP).length : Int) := by simp; omega
    have g1 : idxV Try.prog 22 (.imm .arg 2 (r.map encP)) (.int .i64 (j : Int)) = some (.vptr (.agg [.int .i64 a, .int .i64 b])) := idx_imm u22 z33 (by omega) (by rw [Int.toNat_natCast, List.getElem?_map, List.getElem?_eq_getElem hjl, hp]; rfl)
    have bad : ∀ E, RunsTo Try.prog polY 30 (sub [1, 1, 1, 1, 0, 1, 0, 0, 1, 0, 0, 1, 1, 0, 1, 0, 0] B30) (cpE m (l.map encP) x rds q (.int .i64 (i : Int)) (.sl 1 0 m (some m) m 1) (.imm .arg 2 (r.map encP)) (.int .i64 (j : Int)) .undef .undef .undef) [bF K, bF Z] .ret (polY.keys 30) E [bF K, bF Z] → E.get 8 = .bool false → okC (nrR m l) kn bz (a, b) = false → _ := fun E t hE hf =>
      (⟨_, E, _, RunsTo.loop_out t (by simp) (by kernel_rfl) (by kernel_rfl), .inr ⟨by rw [hf, Bool.false_and], rfl, hE⟩⟩ : ∃ X E H', RunsTo Try.prog polY 30 (sub [1, 1, 1, 1, 0, 1, 0, 0, 1, 0, 0, 1, 1, 0, 1, 0] B30) (cpE m (l.map encP) x rds q (.int .i64 (i : Int)) (.sl 1 0 m (some m) m 1) (.imm .arg 2 (r.map encP)) (.int .i64 (j : Int)) .undef .undef .undef) [bF K, bF Z] X (polY.keys 30) E H' ∧
      ((((okC (nrR m l) kn bz (a, b) && rdGo (nrR m l) kn (r.drop (j + 1)) (ins (a, b).2 (ins (a, b).1 bz))) = true) ∧ X = .exit 2 ∧ ∃ Z', E = cpE m (l.map encP) x rds q (.int .i64 (i : Int)) (.sl 1 0 m (some m) m 1) (.imm .arg 2 (r.map encP)) (.int .i64 (r.length : Int)) .undef .undef .undef ∧ H' = [bF K, bF Z']) ∨
       (((okC (nrR m l) kn bz (a, b) && rdGo (nrR m l) kn (r.drop (j + 1)) (ins (a, b).2 (ins (a, b).1 bz))) = false) ∧ X = .ret ∧ E.get 8 = .bool false)))
    by_cases c1 : a < 0
    · exact bad _ (cp_l_0 (m : Int) (l.map encP) x rds m (K.map .bool) q i (Z.map .bool) (r.map encP) j a b a b g0 g1 g1 c1) rfl (by simp [okC, nrR, inR]; omega)
    · by_cases c2 : (m : Int) ≤ a
      · exact bad _ (cp_l_1 (m : Int) (l.map encP) x rds m (K.map .bool) q i (Z.map .bool) (r.map encP) j a b a b g0 g1 g1 c1 c2) rfl (by simp [okC, nrR, inR]; omega)
      · by_cases c3 : b < 0
        · exact bad _ (cp_l_2 (m : Int) (l.map encP) x rds m (K.map .bool) q i (Z.map .bool) (r.map encP) j a b a b g0 g1 g1 c1 c2 c3) rfl (by simp [okC, nrR, inR]; omega)
        · by_cases c4 : (m : Int) ≤ b
          · exact bad _ (cp_l_3 (m : Int) (l.map encP) x rds m (K.map .bool) q i (Z.map .bool) (r.map encP) j a b a b g0 g1 g1 c1 c2 c3 c4) rfl (by simp [okC, nrR, inR]; omega)
          · obtain ⟨u, rfl⟩ : ∃ u : Nat, a = (u : Int) := ⟨a.toNat, by omega⟩
            obtain ⟨v, rfl⟩ : ∃ v : Nat, b = (v : Int) := ⟨b.toNat, by omega⟩
            have hu : u < m := by omega
            have hv : v < m := by omega
            have ix : ∀ (k w : Nat), w < m → idxV Try.prog 43 (.sl k 0 m (some m) m 1) (.int .i64 ((w : Nat) : Int)) = some (.ptr k (((w : Nat) : Int).toNat) 0 m) := fun k w hw => idx_sl u43c z4c (by omega) (by omega)
            have lk : ∀ w, w < m → loadV Try.prog [bF K, bF Z] 4 (.ptr 0 (((w : Nat) : Int).toNat) 0 m) = some (.bool (bitAt K w)) := fun w hw => by rw [Int.toNat_natCast]; exact load_b hK.len rfl hw
            have lz : ∀ w, w < m → loadV Try.prog [bF K, bF Z] 4 (.ptr 1 (((w : Nat) : Int).toNat) 0 m) = some (.bool (bitAt Z w)) := fun w hw => by rw [Int.toNat_natCast]; exact load_b hZ.len rfl hw
            have k1 := lk u hu
            by_cases d1 : (u : Int) ∈ kn
            · rw [(hK.eq u hu).2 d1] at k1
              have k2 := lk v hv
              by_cases d2 : (v : Int) ∈ kn
              · rw [(hK.eq v hv).2 d2] at k2
                exact bad _ (cp_l_4 (m : Int) (l.map encP) x rds m (K.map .bool) q i (Z.map .bool) (r.map encP) j u v u v g0 g1 g1 c1 c2 c3 c4 (ix 0 u hu) k1 (ix 0 v hv) k2) rfl (by simp [okC, d2])
              · rw [nb_false (fun h => d2 ((hK.eq v hv).1 h))] at k2
                have z1 := lz u hu
                by_cases d3 : (u : Int) ∈ bz
                · rw [(hZ.eq u hu).2 d3] at z1
                  exact bad _ (cp_l_5 (m : Int) (l.map encP) x rds m (K.map .bool) q i (Z.map .bool) (r.map encP) j u v u v g0 g1 g1 c1 c2 c3 c4 (ix 0 u hu) k1 (ix 0 v hv) k2 (ix 1 u hu) z1) rfl (by simp [okC, d3])
                · rw [nb_false (fun h => d3 ((hZ.eq u hu).1 h))] at z1
                  have z2 := lz v hv
                  by_cases d4 : (v : Int) ∈ bz
                  · rw [(hZ.eq v hv).2 d4] at z2
                    exact bad _ (cp_l_6 (m : Int) (l.map encP) x rds m (K.map .bool) q i (Z.map .bool) (r.map encP) j u v u v g0 g1 g1 c1 c2 c3 c4 (ix 0 u hu) k1 (ix 0 v hv) k2 (ix 1 u hu) z1 (ix 1 v hv) z2) rfl (by simp [okC, d4])
                  · rw [nb_false (fun h => d4 ((hZ.eq v hv).1 h))] at z2
                    by_cases d5 : l.any (isNear (u : Int) (v : Int)) = true
                    · have hin : ∀ w, w < m → inR m ((w : Nat) : Int) = true := fun w hw => decide_eq_true ⟨by omega, by omega⟩
                      have hok : okC (nrR m l) kn bz ((u : Int), (v : Int)) = true := by
                        simp only [okC, nrR, hin u hu, hin v hv, d5, decide_eq_true d1, decide_eq_true d2, decide_eq_true d3, decide_eq_true d4, Bool.and_self]
                      rw [hok, Bool.true_and]
                      have st1 := store_b (H := [bF K, bF Z]) (k := 1) hZ.len rfl hu true
                      have hZ1 := hZ.set hu
                      have st2 := store_b (H := [bF K, bF (Z.set u true)]) (k := 1) hZ1.len rfl hv true
                      have hZ2 := hZ1.set hv
                      have s1 := cp_l_7 (m : Int) (l.map encP) x rds m (K.map .bool) q i (Z.map .bool) (r.map encP) j u v u v _ _ g0 g1 g1 c1 c2 c3 c4 (ix 0 u hu) k1 (ix 0 v hv) k2 (ix 1 u hu) z1 (ix 1 v hv) z2 (y53 l hl _ _ true d5 _) (ix 1 u hu) (by rw [Int.toNat_natCast]; exact st1) (ix 1 v hv) (by rw [Int.toNat_natCast]; exact st2)
                      rw [wrap_succ (by omega)] at s1
                      obtain ⟨X, E, H', r2, h2⟩ := ih (j + 1) ((Z.set u true).set v true) (ins (v : Int) (ins (u : Int) bz)) (by omega) hZ2
                      exact ⟨X, E, H', RunsTo.loop s1 (by kernel_rfl) (gc_same (by simp)) r2 rfl (by kernel_rfl) (by kernel_rfl), h2⟩
                    · exact bad _ (cp_l_8 (m : Int) (l.map encP) x rds m (K.map .bool) q i (Z.map .bool) (r.map encP) j u v u v g0 g1 g1 c1 c2 c3 c4 (ix 0 u hu) k1 (ix 0 v hv) k2 (ix 1 u hu) z1 (ix 1 v hv) z2 (y53 l hl _ _ false (nb_false d5) _)) rfl (by simp only [okC, nrR, nb_false d5, Bool.and_false, Bool.false_and])
            · rw [nb_false (fun h => d1 ((hK.eq u hu).1 h))] at k1
              exact bad _ (cp_l_9 (m : Int) (l.map encP) x rds m (K.map .bool) q i (Z.map .bool) (r.map encP) j u v u v g0 g1 g1 c1 c2 c3 c4 (ix 0 u hu) k1) rfl (by simp [okC, d1])
end Go.Proofs.Ytmhfkhlamnapdaa
end
section
open Go Go.HL
namespace Go.Proofs.Ytmhfkhlamnapdaa
theorem rd_fresh (nr : Int → Int → Bool) (kn : List Int) : ∀ (l : List (Int × Int)) (bz : List Int), rdGo nr kn l bz = true → (l.map (·.2)).Nodup ∧ ∀ p ∈ l, p.2 ∉ kn ∧ p.2 ∉ bz ∧ nr p.1 p.2 = true
  | [], _, _ => by simp
  | p :: l, bz, h => by
    rw [rdGo, Bool.and_eq_true] at h
    obtain ⟨h1, h2⟩ := h
    obtain ⟨h3, h4⟩ := rd_fresh nr kn l _ h2
    simp only [okC, Bool.and_eq_true, decide_eq_true_eq] at h1
    refine ⟨?_, fun q hq => ?_⟩
    · rw [List.map_cons, List.nodup_cons]
      refine ⟨fun hm => ?_, h3⟩
      obtain ⟨q, hq, e⟩ := List.mem_map.1 hm
      have := (h4 q hq).2.1
      apply this
      rw [ins_mem]
      exact .inl e
    · rcases List.mem_cons.1 hq with rfl | hq
      · exact ⟨h1.2.2.1, h1.2.2.2.2, h1.1⟩
      · have := h4 q hq
        refine ⟨this.1, fun hm => this.2.1 ?_, this.2.2⟩
        rw [ins_mem, ins_mem]
        exact .inr (.inr hm)
theorem learn_len : ∀ (l : List (Int × Int)) (kn : List Int), (l.map (·.2)).Nodup → (∀ p ∈ l, p.2 ∉ kn) → (learn l kn).length = kn.length + l.length
  | [], kn, _, _ => by simp [learn]
  | p :: l, kn, hn, h => by
    rw [List.map_cons, List.nodup_cons] at hn
    have e : learn (p :: l) kn = learn l (ins p.2 kn) := rfl
    have e2 : ins p.2 kn = kn ++ [p.2] := if_neg (h p (by simp))
    rw [e, e2, learn_len l _ hn.2 (fun q hq hm => by
      rcases List.mem_append.1 hm with hm | hm
      · exact h q (by simp [hq]) hm
      · rw [List.mem_singleton] at hm
        exact hn.1 (List.mem_map.2 ⟨q, hq, hm⟩))]
    simp; omega
structure KI (m : Nat) (kn : List Int) : Prop where
  nodup : kn.Nodup
  lt : ∀ v ∈ kn, 0 ≤ v ∧ v < (m : Int)
theorem KI.len {m : Nat} {kn : List Int} (h : KI m kn) : kn.length ≤ m := by
  have := nodup_lt_len (n := m) (l := kn.map Int.toNat) (by
    have : ∀ (l : List Int), l.Nodup → (∀ v ∈ l, 0 ≤ v) → (l.map Int.toNat).Nodup := by
      intro l
      induction l with
      | nil => simp
      | cons a l ih =>
        intro hn hp
        rw [List.nodup_cons] at hn
        rw [List.map_cons, List.nodup_cons]
        refine ⟨fun hm => ?_, ih hn.2 (fun v hv => hp v (by simp [hv]))⟩
        obtain ⟨b, hb, e⟩ := List.mem_map.1 hm
        have h1 := hp a (by simp)
        have h2 := hp b (by simp [hb])
        have : b = a := by omega
        exact hn.1 (by rw [← this]; exact hb)
    exact this kn h.nodup (fun v hv => (h.lt v hv).1)) (fun y hy => by
      obtain ⟨v, hv, rfl⟩ := List.mem_map.1 hy
      have := h.lt v hv
      omega)
  rw [List.length_map] at this
  exact this
theorem KI.ins {m : Nat} {kn : List Int} (h : KI m kn) {v : Int} (hv : 0 ≤ v ∧ v < (m : Int)) : KI m (ins v kn) := by
  unfold Proofs.Ytmhfkhlamnapdaa.ins
  split
  · exact h
  · rename_i hn
    refine ⟨?_, fun w hw => ?_⟩
    · rw [List.nodup_append]
      refine ⟨h.nodup, by simp, fun a ha b hb => ?_⟩
      rw [List.mem_singleton] at hb
      rw [hb]; exact fun e => hn (by rw [← e]; exact ha)
    · rcases List.mem_append.1 hw with hw | hw
      · exact h.lt w hw
      · rw [List.mem_singleton] at hw; rw [hw]; exact hv
theorem KI.learn {m : Nat} : ∀ (l : List (Int × Int)) (kn : List Int), KI m kn → (∀ p ∈ l, 0 ≤ p.2 ∧ p.2 < (m : Int)) → KI m (learn l kn)
  | [], _, h, _ => h
  | p :: l, kn, h, hl => KI.learn l _ (h.ins (hl p (by simp))) (fun q hq => hl q (by simp [hq]))
theorem nrR_in {m : Nat} {l : List (Int × Int)} {a b : Int} (h : nrR m l a b = true) : 0 ≤ b ∧ b < (m : Int) := by
  simp only [nrR, inR, Bool.and_eq_true, decide_eq_true_eq] at h
  exact h.2.1
theorem cp_learn (m : Nat) (hm : m ≤ 1000) (lc : List HV) (x : Int) (rds : List HV) (i : Nat) (Z : List HV) (r : List (Int × Int)) (hr : r.length ≤ 1000) (hin : ∀ p ∈ r, 0 ≤ p.2 ∧ p.2 < (m : Int)) : ∀ (d j q : Nat) (K : List Bool) (kn : List Int), j + d = r.length → q + d ≤ 1000000 → MB m K kn →
    ∃ K', RunsTo Try.prog polY 30 (sub [1, 1, 1, 1, 0, 1, 0, 0, 1, 0, 0, 1, 1, 1, 1, 0] B30) (cpE m lc x rds q (.int .i64 (i : Int)) .undef (.imm .arg 2 (r.map encP)) .undef .undef .undef (.int .i64 (j : Int))) [bF K, .arr 1 Z true 0]
      (.exit 4) (polY.keys 30) (cpE m lc x rds (q + d) (.int .i64 (i : Int)) .undef (.imm .arg 2 (r.map encP)) .undef .undef .undef (.int .i64 (r.length : Int))) [bF K', .arr 1 Z true 0] ∧ MB m K' (learn (r.drop j) kn) := by
  intro d
  induction d with
  | zero =>
    intro j q K kn hj _ hK
    have hj : j = r.length := by omega
    subst hj
    have s1 := cp_n_1 (m : Int) lc x rds m (K.map .bool) q i Z (r.map encP) r.length (by simp)
    exact ⟨K, RunsTo.loop_out s1 (by simp) (by kernel_rfl) (by kernel_rfl), by simpa [learn] using hK⟩
  | succ d ih =>
    intro j q K kn hj hq hK
    have hjl : j < r.length := by omega
    have hb := hin _ (List.getElem_mem hjl)
    rw [List.drop_eq_getElem_cons hjl]
    generalize hp : r[j] = p at hb
    obtain ⟨a, b⟩ := p
    obtain ⟨v, rfl⟩ : ∃ v : Nat, b = (v : Int) := ⟨b.toNat, by omega⟩
    have hv : v < m := by omega
    have g0 : (j : Int) < ((r.map encP).length : Int) := by simp; omega
    have g1 : idxV Try.prog 22 (.imm .arg 2 (r.map encP)) (.int .i64 (j : Int)) = some (.vptr (.agg [.int .i64 a, .int .i64 (v : Int)])) := idx_imm u22 z33 (by omega) (by rw [Int.toNat_natCast, List.getElem?_map, List.getElem?_eq_getElem hjl, hp]; rfl)
    have st := store_b (H := [bF K, .arr 1 Z true 0]) (k := 0) hK.len rfl hv true
    have s1 := cp_n_0 (m : Int) lc x rds m (K.map .bool) q i Z (r.map encP) j a (v : Int) _ g0 g1 (idx_sl u43c z4c (by omega) (by omega)) (by rw [Int.toNat_natCast]; exact st)
    rw [wrap_succ (by omega), wrap_succ (by omega)] at s1
    obtain ⟨K', r2, h2⟩ := ih (j + 1) (q + 1) (K.set v true) (ins (v : Int) kn) (by omega) (by omega) (hK.set hv)
    have e : q + 1 + d = q + (d + 1) := by omega
    rw [e] at r2
    exact ⟨K', RunsTo.loop s1 (by kernel_rfl) (gc_same (by simp)) r2 rfl (by kernel_rfl) (by kernel_rfl), h2⟩
theorem cp_rounds (m : Nat) (hm : m ≤ 1000) (l : List (Int × Int)) (hl : l.length ≤ 1000) (x : Int) (R : List (List (Int × Int))) (hR : R.length ≤ 1000) (hRr : ∀ r ∈ R, r.length ≤ 1000) : ∀ (d i : Nat) (K : List Bool) (kn : List Int), i + d = R.length → MB m K kn → KI m kn →
    ∃ X E H', RunsTo Try.prog polY 30 (sub [1, 1, 1, 1, 0, 1, 0] B30) (cpE m (l.map encP) x (R.map encRd) kn.length (.int .i64 (i : Int)) .undef .undef .undef .undef .undef .undef) [bF K] X (polY.keys 30) E H' ∧
      ((∃ kn' K', ckGo (nrR m l) (R.drop i) kn = some kn' ∧ KI m kn' ∧ X = .exit 0 ∧ E = cpE m (l.map encP) x (R.map encRd) kn'.length (.int .i64 (R.length : Int)) .undef .undef .undef .undef .undef .undef ∧ H' = [bF K']) ∨
       (ckGo (nrR m l) (R.drop i) kn = none ∧ X = .ret ∧ E.get 8 = .bool false)) := by
  intro d
  induction d with
  | zero =>
    intro i K kn hi hK hI
    have hi : i = R.length := by omega
    subst hi
    have s1 := cp_f_1 (m : Int) (l.map encP) x (R.map encRd) m (K.map .bool) kn.length R.length (by simp)
    exact ⟨_, _, _, RunsTo.loop_out (RunsTo.seq_out s1 (by simp) (c := sub [1, 1, 1, 1, 0, 1, 0, 0] B30) (b := sub [1, 1, 1, 1, 0, 1, 0, 0, 1] B30) (by kernel_rfl)) (by simp) (by kernel_rfl) (by kernel_rfl), .inl ⟨kn, K, by simp [ckGo], hI, rfl, rfl, rfl⟩⟩
  | succ d ih =>
    intro i K kn hi hK hI
    have hil : i < R.length := by omega
    rw [List.drop_eq_getElem_cons hil, ckGo]
    have hrl := hRr _ (List.getElem_mem hil)
    generalize hr : R[i] = r at hrl
    have hkl := hI.len
    have f1 := cp_f_0 (m : Int) (l.map encP) x (R.map encRd) m (K.map .bool) kn.length i (by simp; omega)
    have hmk := makeV_ok (P := Try.prog) (H := [bF K]) (t := 43) (n := (m : Int)) u43f info4f rfl rfl (by omega) (by omega) (by rw [show roomMax = 70368744177664 from rfl]; omega)
    rw [Int.toNat_natCast] at hmk
    have g1 := cp_g_0 (m : Int) (l.map encP) x (R.map encRd) m (K.map .bool) kn.length i hmk
    have h1 := cp_h_0 (m : Int) (l.map encP) x (R.map encRd) m (K.map .bool) kn.length i (List.replicate m (.bool false)) (r.map encP) (idx_imm u44b z22b (by omega) (by rw [Int.toNat_natCast, List.getElem?_map, List.getElem?_eq_getElem hil, hr]; rfl))
    have i1 := cp_i_0 (m : Int) (l.map encP) x (R.map encRd) m (K.map .bool) kn.length i (List.replicate m (.bool false)) (r.map encP)
    have e0 : (Blk.arr 1 (List.replicate m (.bool false)) true 0) = bF (List.replicate m false) := by simp [bF]
    obtain ⟨X, E, H', r1, hh⟩ := cp_calls m hm l hl x (R.map encRd) kn.length i K kn hK r hrl r.length 0 (List.replicate m false) [] (by omega) (MB.init m)
    rw [← e0] at r1
    rw [List.drop_zero] at hh
    rcases hh with ⟨e, rfl, Z', rfl, rfl⟩ | ⟨e, rfl, hE⟩
    · rw [if_pos e]
      obtain ⟨hnd, hfr⟩ := rd_fresh _ _ _ _ e
      have hin : ∀ p ∈ r, 0 ≤ p.2 ∧ p.2 < (m : Int) := fun p hp => nrR_in (hfr p hp).2.2
      have hI2 := KI.learn r kn hI hin
      have hll := learn_len r kn hnd (fun p hp => (hfr p hp).1)
      have m1 := cp_m_0 (m : Int) (l.map encP) x (R.map encRd) m (K.map .bool) kn.length i (Z'.map .bool) (r.map encP) r.length
      obtain ⟨K', r2, hK2⟩ := cp_learn m hm (l.map encP) x (R.map encRd) i (Z'.map .bool) r hrl hin r.length 0 kn.length K kn (by omega) (by omega) hK
      rw [List.drop_zero] at hK2
      have r2' := RunsTo.loop_in (e0 := cpE m (l.map encP) x (R.map encRd) kn.length (.int .i64 (i : Int)) (.sl 1 0 m (some m) m 1) (.imm .arg 2 (r.map encP)) (.int .i64 (r.length : Int)) .undef .undef (.int .i64 0)) r2 (b := sub [1, 1, 1, 1, 0, 1, 0, 0, 1, 0, 0, 1, 1, 1, 1, 0, 0] B30) (by kernel_rfl) (by kernel_rfl) (by kernel_rfl)
      have o1 := cp_o_0 (m : Int) (l.map encP) x (R.map encRd) m (K'.map .bool) (kn.length + r.length) i (Z'.map .bool) (r.map encP) r.length
      rw [wrap_succ (by omega)] at o1
      obtain ⟨X, E, H3, r3, h3⟩ := ih (i + 1) K' (learn r kn) (by omega) hK2 hI2
      rw [hll] at r3
      refine ⟨X, E, H3, ?_, h3⟩
      have t1 := RunsTo.seq i1 (RunsTo.block_exit (c := sub [1, 1, 1, 1, 0, 1, 0, 0, 1, 0, 0, 1, 1, 0, 1] B30) r1 (by kernel_rfl)) (c := sub [1, 1, 1, 1, 0, 1, 0, 0, 1, 0, 0, 1, 1, 0] B30) (by kernel_rfl) (by kernel_rfl)
      have t2 := RunsTo.seq m1 (RunsTo.block_exit (c := sub [1, 1, 1, 1, 0, 1, 0, 0, 1, 0, 0, 1, 1, 1, 1] B30) r2' (by kernel_rfl)) (c := sub [1, 1, 1, 1, 0, 1, 0, 0, 1, 0, 0, 1, 1, 1] B30) (by kernel_rfl) (by kernel_rfl)
      have t3 := RunsTo.seq t1 t2 (c := sub [1, 1, 1, 1, 0, 1, 0, 0, 1, 0, 0, 1, 1] B30) (by kernel_rfl) (by kernel_rfl)
      have t4 := RunsTo.seq h1 t3 (c := sub [1, 1, 1, 1, 0, 1, 0, 0, 1, 0, 0, 1] B30) (by kernel_rfl) (by kernel_rfl)
      have t5 := RunsTo.seq g1 t4 (c := sub [1, 1, 1, 1, 0, 1, 0, 0, 1, 0, 0] B30) (by kernel_rfl) (by kernel_rfl)
      have t6 := RunsTo.block_normal (i := 1) (c := sub [1, 1, 1, 1, 0, 1, 0, 0, 1, 0] B30) t5 (by kernel_rfl)
      have t7 := RunsTo.seq t6 o1 (c := sub [1, 1, 1, 1, 0, 1, 0, 0, 1] B30) (by kernel_rfl) (by kernel_rfl)
      have t8 := RunsTo.seq f1 t7 (c := sub [1, 1, 1, 1, 0, 1, 0, 0] B30) (by kernel_rfl) (by kernel_rfl)
      exact RunsTo.loop t8 (by kernel_rfl) rfl r3 rfl (by kernel_rfl) (by kernel_rfl)
    · rw [if_neg (by rw [e]; simp)]
      refine ⟨_, E, H', ?_, .inr ⟨rfl, rfl, hE⟩⟩
      have t1 := RunsTo.seq i1 (RunsTo.block_ret (i := 2) (c := sub [1, 1, 1, 1, 0, 1, 0, 0, 1, 0, 0, 1, 1, 0, 1] B30) r1 (by kernel_rfl)) (c := sub [1, 1, 1, 1, 0, 1, 0, 0, 1, 0, 0, 1, 1, 0] B30) (by kernel_rfl) (by kernel_rfl)
      have t3 := RunsTo.seq_out t1 (by simp) (c := sub [1, 1, 1, 1, 0, 1, 0, 0, 1, 0, 0, 1, 1] B30) (b := sub [1, 1, 1, 1, 0, 1, 0, 0, 1, 0, 0, 1, 1, 1] B30) (by kernel_rfl)
      have t4 := RunsTo.seq h1 t3 (c := sub [1, 1, 1, 1, 0, 1, 0, 0, 1, 0, 0, 1] B30) (by kernel_rfl) (by kernel_rfl)
      have t5 := RunsTo.seq g1 t4 (c := sub [1, 1, 1, 1, 0, 1, 0, 0, 1, 0, 0] B30) (by kernel_rfl) (by kernel_rfl)
      have t6 := RunsTo.block_ret (i := 1) (c := sub [1, 1, 1, 1, 0, 1, 0, 0, 1, 0] B30) t5 (by kernel_rfl)
      have t7 := RunsTo.seq_out t6 (by simp) (c := sub [1, 1, 1, 1, 0, 1, 0, 0, 1] B30) (b := sub [1, 1, 1, 1, 0, 1, 0, 0, 1, 1] B30) (by kernel_rfl)
      have t8 := RunsTo.seq f1 t7 (c := sub [1, 1, 1, 1, 0, 1, 0, 0] B30) (by kernel_rfl) (by kernel_rfl)
      exact RunsTo.loop_out t8 (by simp) (by kernel_rfl) (by kernel_rfl)
def completeF (n : Nat) (l : List (Int × Int)) (x : Int) (R : List (List (Int × Int))) : Bool := spOk (nrR n l) n x R
def complete30 : List HV → Option HV
  | [.int .i64 n, .imm .arg 2 lc, .int .i64 x, .imm .arg 1 rv] =>
    match mapO decP lc, mapO decRd rv with
    | some l, some R => if (((0 ≤ n ∧ n ≤ 1000) ∧ l.length ≤ 1000) ∧ 0 ≤ x ∧ x < n) ∧ R.length ≤ 1000 ∧ (R.all fun r => decide (r.length ≤ 1000)) = true then some (.bool (completeF n.toNat l x R)) else none
    | _, _ => none
  | _ => none
theorem res30 : Try.f30.results.toList = [.tmp 8] := by kernel_rfl
theorem complete_ok : PrimOk Try.prog 30 complete30 := by
  refine primOk_pure (pol := polY) (fn := Try.f30) (cd := B30) follows_mixed soundY (by kernel_rfl) (by kernel_rfl) (fnok polY.prim _ _ (by kernel_rfl)) (by kernel_rfl) ?_
  intro args res h
  unfold complete30 at h
  split at h
  · rename_i n lc x rv
    split at h
    · rename_i l R hlc hrv
      split at h
      · rename_i hg
        cases h
        obtain ⟨⟨⟨hn, hl⟩, hx⟩, hR, hRa⟩ := hg
        rw [mapO_inv decP_inv hlc, mapO_inv decRd_inv hrv]
        have hRr : ∀ r ∈ R, r.length ≤ 1000 := fun r hr => of_decide_eq_true (List.all_eq_true.1 hRa r hr)
        obtain ⟨m, rfl⟩ : ∃ m : Nat, n = (m : Int) := ⟨n.toNat, by omega⟩
        obtain ⟨w, rfl⟩ : ∃ w : Nat, x = (w : Int) := ⟨x.toNat, by omega⟩
        rw [Int.toNat_natCast]
        have hw : w < m := by omega
        have a1 := cp_a_0 (m : Int) (l.map encP) (w : Int) (R.map encRd)
        have hmk := makeV_ok (P := Try.prog) (H := []) (t := 43) (n := (m : Int)) u43f info4f rfl rfl (by omega) (by omega) (by rw [show roomMax = 70368744177664 from rfl]; omega)
        rw [Int.toNat_natCast] at hmk
        have b1 := cp_b_0 (m : Int) (l.map encP) (w : Int) (R.map encRd) m hmk
        have hK0 := MB.init m
        have e0 : List.replicate m (HV.bool false) = (List.replicate m false).map HV.bool := by simp
        rw [e0] at b1
        have st := store_b (H := [bF (List.replicate m false)]) (k := 0) hK0.len rfl hw true
        have c1 := cp_c_0 (m : Int) (l.map encP) (w : Int) (R.map encRd) m ((List.replicate m false).map .bool) _ (idx_sl u43c z4c (by omega) (by omega)) (by rw [Int.toNat_natCast]; exact st)
        have hK := hK0.set hw
        have d1 := cp_d_0 (m : Int) (l.map encP) (w : Int) (R.map encRd) m (((List.replicate m false).set w true).map .bool)
        have e1 := cp_e_0 (m : Int) (l.map encP) (w : Int) (R.map encRd) m (((List.replicate m false).set w true).map .bool) 1
        have hI : KI m [(w : Int)] := ⟨by simp, fun v hv => by rw [List.mem_singleton] at hv; omega⟩
        obtain ⟨X, E, H', r1, h1⟩ := cp_rounds m (by omega) l hl (w : Int) R hR hRr R.length 0 _ [(w : Int)] (by omega) hK hI
        rw [List.drop_zero] at h1
        have up : ∀ E H, RunsTo Try.prog polY 30 (sub [1, 1, 1, 1] B30) (cpE m (l.map encP) (w : Int) (R.map encRd) 1 .undef .undef .undef .undef .undef .undef .undef) [bF ((List.replicate m false).set w true)] .ret (polY.keys 30) E H → E.get 8 = .bool (completeF m l (w : Int) R) →
            ∃ X E H' v, RunsTo Try.prog polY 30 B30 (args0 [.int .i64 (m : Int), .imm .arg 2 (l.map encP), .int .i64 (w : Int), .imm .arg 1 (R.map encRd)]) [] X (polY.keys 30) E H' ∧ (∀ i, X ≠ .exit i) ∧ resultsV Try.prog Try.f30 E H' = some v ∧ toRes H' (polY.deep 30) v = some (.bool (completeF m l (w : Int) R)) := by
          intro E H t hE
          have t1 := RunsTo.seq d1 t (c := sub [1, 1, 1] B30) (by kernel_rfl) (by kernel_rfl)
          have t2 := RunsTo.seq c1 t1 (c := sub [1, 1] B30) (by kernel_rfl) (by kernel_rfl)
          have t3 := RunsTo.seq b1 t2 (c := sub [1] B30) (by kernel_rfl) (by kernel_rfl)
          exact ⟨_, _, _, .bool (completeF m l (w : Int) R), RunsTo.seq a1 t3 (c := B30) (by kernel_rfl) (by kernel_rfl), by simp, by simp only [resultsV, res30, mapO, resultV, hE], rfl⟩
        rcases h1 with ⟨kn', K', hgo, hI2, rfl, rfl, rfl⟩ | ⟨hgo, rfl, hE⟩
        · have t1 := RunsTo.seq e1 (RunsTo.block_exit (c := sub [1, 1, 1, 1, 0, 1] B30) r1 (by kernel_rfl)) (c := sub [1, 1, 1, 1, 0] B30) (by kernel_rfl) (by kernel_rfl)
          have hle := hI2.len
          by_cases hc : (kn'.length : Int) = (m : Int)
          · have z1 := cp_z_0 (m : Int) (l.map encP) (w : Int) (R.map encRd) m (K'.map .bool) kn'.length R.length hc
            have t2 := RunsTo.seq t1 z1 (c := sub [1, 1, 1, 1] B30) (by kernel_rfl) (by kernel_rfl)
            refine up _ _ t2 ?_
            have : completeF m l (w : Int) R = true := by rw [completeF, spOk, hgo]; exact decide_eq_true (by omega)
            rw [this]; rfl
          · have z1 := cp_z_1 (m : Int) (l.map encP) (w : Int) (R.map encRd) m (K'.map .bool) kn'.length R.length hc
            have t2 := RunsTo.seq t1 z1 (c := sub [1, 1, 1, 1] B30) (by kernel_rfl) (by kernel_rfl)
            refine up _ _ t2 ?_
            have : completeF m l (w : Int) R = false := by rw [completeF, spOk, hgo]; exact decide_eq_false (by omega)
            rw [this]; rfl
        · have t1 := RunsTo.seq e1 (RunsTo.block_ret (i := 0) (c := sub [1, 1, 1, 1, 0, 1] B30) r1 (by kernel_rfl)) (c := sub [1, 1, 1, 1, 0] B30) (by kernel_rfl) (by kernel_rfl)
          have t2 := RunsTo.seq_out t1 (by simp) (c := sub [1, 1, 1, 1] B30) (b := sub [1, 1, 1, 1, 1] B30) (by kernel_rfl)
          refine up _ _ t2 ?_
          have : completeF m l (w : Int) R = false := by rw [completeF, spOk, hgo]
          rw [this]; exact hE
      · cases h
    · cases h
  · cases h
end Go.Proofs.Ytmhfkhlamnapdaa
end
section
open Go Go.HL
namespace Go.Proofs.Ytmhfkhlamnapdaa
theorem bIn_all (c : Int) {n k : Nat} (hc : 0 ≤ c ∧ c + 1 ≤ k) : ∀ (l : List Nat) (s : List Int × List Nat), (∀ y ∈ l, y < n) → BInv n k s → ∀ z ∈ l, z ∈ (bIn c l s).2
  | [], _, _, _, z, hz => by cases hz
  | y :: l, s, hl, h, z, hz => by
    rw [bIn]
    have hy := hl y (by simp)
    have h' := h.step hc hy
    rcases List.mem_cons.1 hz with rfl | hz
    · obtain ⟨t, ht⟩ := bIn_pre c l (if s.1.getD z 0 < 0 then (s.1.set z (c + 1), s.2 ++ [z]) else s)
      rw [ht]
      apply List.mem_append_left
      by_cases hlt : s.1.getD z 0 < 0
      · rw [if_pos hlt]; simp
      · rw [if_neg hlt]; exact (h.got z hy).1 (by omega)
    · exact bIn_all c hc l _ (fun w hw => hl w (by simp [hw])) h' z hz
theorem bGo_closed (nb : Nat → List Nat) (n : Nat) (hnb : ∀ x, x < n → ∀ z ∈ nb x, z < n) : ∀ (d i : Nat) (s : List Int × List Nat), i + d = n → BInv n i s → i ≤ s.2.length → (∀ k x, k < i → s.2[k]? = some x → ∀ z ∈ nb x, z ∈ s.2) →
    BInv n n (bGo nb d i s) ∧ (∀ y ∈ s.2, y ∈ (bGo nb d i s).2) ∧ ∀ x ∈ (bGo nb d i s).2, ∀ z ∈ nb x, z ∈ (bGo nb d i s).2 := by
  intro d
  induction d with
  | zero =>
    intro i s hi hinv hle hcl
    rw [bGo]
    refine ⟨hinv.mono (by omega), fun y hy => hy, fun x hx z hz => ?_⟩
    obtain ⟨k, hk, rfl⟩ := List.getElem_of_mem hx
    have := hinv.qlen
    exact hcl k _ (by omega) (List.getElem?_eq_getElem hk) z hz
  | succ d ih =>
    intro i s hi hinv hle hcl
    rw [bGo]
    cases hw : s.2[i]? with
    | none =>
      have hge := List.getElem?_eq_none_iff.1 hw
      dsimp only
      refine ⟨hinv.mono (by omega), fun y hy => hy, fun x hx z hz => ?_⟩
      obtain ⟨k, hk, rfl⟩ := List.getElem_of_mem hx
      exact hcl k _ (by omega) (List.getElem?_eq_getElem hk) z hz
    | some w =>
      dsimp only
      have hil := lt_of_get hw
      have hwn : w < n := hinv.lt _ (List.mem_of_getElem? hw)
      have hc0 := (hinv.got w hwn).2 (List.mem_of_getElem? hw)
      have hci := hinv.le w hwn
      have hc : 0 ≤ s.1.getD w 0 ∧ s.1.getD w 0 + 1 ≤ ((i + 1 : Nat) : Int) := ⟨hc0, by omega⟩
      have hinv' := BInv.inn hc (nb w) s (hnb w hwn) (hinv.mono (by omega))
      obtain ⟨t, ht⟩ := bIn_pre (s.1.getD w 0) (nb w) s
      have hall := bIn_all (s.1.getD w 0) hc (nb w) s (hnb w hwn) (hinv.mono (by omega))
      obtain ⟨h1, h2, h3⟩ := ih (i + 1) _ (by omega) hinv' (by rw [ht, List.length_append]; omega) (fun k x hk hx z hz => by
        rcases Nat.lt_or_ge k i with h | h
        · rw [ht, List.getElem?_append_left (by omega)] at hx
          have := hcl k x h hx z hz
          rw [ht]; exact List.mem_append_left _ this
        · have : k = i := by omega
          subst this
          rw [ht, List.getElem?_append_left hil, hw] at hx
          cases hx
          exact hall z hz)
      exact ⟨h1, fun y hy => h2 y (by rw [ht]; exact List.mem_append_left _ hy), h3⟩
theorem valid_in {n : Nat} {l : List (Int × Int)} (hv : ∀ p ∈ l, validB (n : Int) p = true) : ∀ p ∈ l, inB n p := fun p hp => by
  have := hv p hp
  rw [validB, decide_eq_true_eq] at this
  unfold inB; omega
end Go.Proofs.Ytmhfkhlamnapdaa
end
section
open Go Go.HL
namespace Go.Proofs.Ytmhfkhlamnapdaa
def isE (x y : Int) (p : Int × Int) : Prop := (p.1 = x ∧ p.2 = y) ∨ (p.2 = x ∧ p.1 = y)
def oth (x : Int) (p : Int × Int) : Option Int := if p.1 = x then some p.2 else if p.2 = x then some p.1 else none
def rowE (l : List (Int × Int)) (x : Int) : List Int := l.filterMap (oth x)
theorem oth_isE {x y : Int} {p : Int × Int} : oth x p = some y ↔ (p.1 = x ∧ p.2 = y) ∨ (p.1 ≠ x ∧ p.2 = x ∧ p.1 = y) := by
  unfold oth
  by_cases h1 : p.1 = x
  · simp [h1]
  · by_cases h2 : p.2 = x
    · simp [h1, h2]
    · simp [h1, h2]
theorem rowE_mem {l : List (Int × Int)} {x y : Int} : y ∈ rowE l x ↔ ∃ p ∈ l, isE x y p := by
  unfold rowE
  rw [List.mem_filterMap]
  refine ⟨fun ⟨p, hp, h⟩ => ⟨p, hp, ?_⟩, fun ⟨p, hp, h⟩ => ⟨p, hp, ?_⟩⟩
  · rw [oth_isE] at h
    rcases h with h | h
    · exact .inl h
    · exact .inr h.2
  · rw [oth_isE]
    rcases h with h | h
    · exact .inl h
    · by_cases c : p.1 = x
      · left; obtain ⟨h1, h2⟩ := h; constructor; exact c; omega
      · exact .inr ⟨c, h⟩
theorem isE_sym {x y : Int} {p : Int × Int} (h : isE x y p) : isE y x p := by
  rcases h with h | h
  · exact .inr ⟨h.2, h.1⟩
  · exact .inl ⟨h.2, h.1⟩
theorem rowE_sym {l : List (Int × Int)} {x y : Int} (h : y ∈ rowE l x) : x ∈ rowE l y := by
  obtain ⟨p, hp, h⟩ := rowE_mem.1 h
  exact rowE_mem.2 ⟨p, hp, isE_sym h⟩
def chd (ρ : Int → Nat) (p : Int × Int) : Int := if ρ p.1 < ρ p.2 then p.2 else p.1
structure Ori (l : List (Int × Int)) (ρ : Int → Nat) (M : Nat) : Prop where
  ne : ∀ p ∈ l, ρ p.1 ≠ ρ p.2
  nd : (l.map (chd ρ)).Nodup
  bd : ∀ p ∈ l, ρ p.1 ≤ M ∧ ρ p.2 ≤ M
section
variable {l : List (Int × Int)} {ρ : Int → Nat} {M : Nat}
theorem chd_of {x y : Int} {p : Int × Int} (h : isE x y p) (hr : ρ y < ρ x) : chd ρ p = x := by
  unfold chd
  rcases h with ⟨h1, h2⟩ | ⟨h1, h2⟩
  · rw [h1, h2, if_neg (by omega)]
  · rw [h1, h2, if_pos hr]
end
section
variable {l : List (Int × Int)} {ρ : Int → Nat} {M : Nat}
theorem inj_of_nodup {α β : Type} {f : α → β} : ∀ {l : List α}, (l.map f).Nodup → ∀ a ∈ l, ∀ b ∈ l, f a = f b → a = b
  | [], _, a, ha, _, _, _ => by cases ha
  | c :: l, h, a, ha, b, hb, he => by
    rw [List.map_cons, List.nodup_cons] at h
    rcases List.mem_cons.1 ha with rfl | ha2 <;> rcases List.mem_cons.1 hb with rfl | hb2
    · rfl
    · exact (h.1 (by rw [he]; exact List.mem_map_of_mem hb2)).elim
    · exact (h.1 (by rw [← he]; exact List.mem_map_of_mem ha2)).elim
    · exact inj_of_nodup h.2 a ha2 b hb2 he
end
section
variable {l : List (Int × Int)} {ρ : Int → Nat} {M : Nat}
theorem Ori.low (h : Ori l ρ M) {x u u' : Int} (hu : u ∈ rowE l x) (hu' : u' ∈ rowE l x) (h1 : ρ u < ρ x) (h2 : ρ u' < ρ x) : u = u' := by
  obtain ⟨p, hp, e⟩ := rowE_mem.1 hu
  obtain ⟨q, hq, e'⟩ := rowE_mem.1 hu'
  have : p = q := inj_of_nodup h.nd p hp q hq (by rw [chd_of e h1, chd_of e' h2])
  subst this
  rcases e with ⟨a1, a2⟩ | ⟨a1, a2⟩ <;> rcases e' with ⟨b1, b2⟩ | ⟨b1, b2⟩
  · rw [← a2, b2]
  · have e1 : u' = x := by rw [← b2, a1]
    rw [e1] at h2; omega
  · have e1 : u' = x := by rw [← b2, a1]
    rw [e1] at h2; omega
  · rw [← a2, b2]
end
section
variable {l : List (Int × Int)} {ρ : Int → Nat} {M : Nat}
theorem Ori.nodup (h : Ori l ρ M) (x : Int) : (rowE l x).Nodup := by
  unfold rowE List.Nodup
  have hp : l.Pairwise fun p q => chd ρ p ≠ chd ρ q := by
    have := h.nd
    unfold List.Nodup at this
    rwa [List.pairwise_map] at this
  have hp2 : l.Pairwise fun p q => p ∈ l ∧ q ∈ l ∧ chd ρ p ≠ chd ρ q := by
    refine List.Pairwise.imp_of_mem (fun {a b} ha hb hab => ⟨ha, hb, hab⟩) hp
  refine List.Pairwise.filterMap (oth x) (fun p q hpq y hy z hz hyz => ?_) hp2
  subst hyz
  obtain ⟨h1, h2, h3⟩ := hpq
  have ep : isE x y p := by
    rcases oth_isE.1 hy with h | h
    · exact .inl h
    · exact .inr h.2
  have eq : isE x y q := by
    rcases oth_isE.1 hz with h | h
    · exact .inl h
    · exact .inr h.2
  have hne := h.ne p h1
  have hxy : ρ x ≠ ρ y := by
    rcases ep with ⟨a, b⟩ | ⟨a, b⟩
    · rwa [a, b] at hne
    · rw [a, b] at hne; exact fun h => hne h.symm
  rcases Nat.lt_or_gt_of_ne hxy with h | h
  · exact h3 (by rw [chd_of (isE_sym ep) h, chd_of (isE_sym eq) h])
  · exact h3 (by rw [chd_of ep h, chd_of eq h])
end
section
variable {l : List (Int × Int)} {ρ : Int → Nat} {M : Nat}
theorem Ori.neq (h : Ori l ρ M) {x y : Int} (hy : y ∈ rowE l x) : ρ y ≠ ρ x := by
  obtain ⟨p, hp, e⟩ := rowE_mem.1 hy
  have := h.ne p hp
  rcases e with ⟨a, b⟩ | ⟨a, b⟩
  · rw [a, b] at this; exact fun h => this h.symm
  · rw [a, b] at this; exact this
end
section
variable {l : List (Int × Int)} {ρ : Int → Nat} {M : Nat}
theorem Ori.le (h : Ori l ρ M) {x y : Int} (hy : y ∈ rowE l x) : ρ y ≤ M ∧ ρ x ≤ M := by
  obtain ⟨p, hp, e⟩ := rowE_mem.1 hy
  have := h.bd p hp
  rcases e with ⟨a, b⟩ | ⟨a, b⟩
  · rw [a, b] at this; exact ⟨this.2, this.1⟩
  · rw [a, b] at this; exact ⟨this.1, this.2⟩
end
section
variable {l : List (Int × Int)} {ρ : Int → Nat} {M : Nat}
open Classical in
noncomputable def mu (l : List (Int × Int)) (ρ : Int → Nat) (M : Nat) (v w : Int) : Nat := if w ∈ rowE l v ∧ ρ w < ρ v then M - ρ v else M + 1 + ρ v
end
section
variable {l : List (Int × Int)} {ρ : Int → Nat} {M : Nat}
def Gd (l : List (Int × Int)) (n : Nat) (v w : Int) : Prop := (0 ≤ v ∧ v < (n : Int)) ∧ (w = -1 ∨ w ∈ rowE l v)
end
section
variable {l : List (Int × Int)} {ρ : Int → Nat} {M : Nat}
theorem valid_row {n : Nat} (hv : ∀ p ∈ l, validB (n : Int) p = true) {x y : Int} (hy : y ∈ rowE l x) : 0 ≤ y ∧ y < (n : Int) := by
  obtain ⟨p, hp, e⟩ := rowE_mem.1 hy
  have h1 := hv p hp
  rw [validB, decide_eq_true_eq] at h1
  rcases e with e | e <;> omega
end
section
variable {l : List (Int × Int)} {ρ : Int → Nat} {M : Nat}
theorem keep_mem {w u : Int} {r : List Int} : u ∈ keep w r ↔ u ∈ r ∧ u ≠ w := by
  rw [keep, List.mem_filter]
  simp
end
section
variable {l : List (Int × Int)} {ρ : Int → Nat} {M : Nat}
theorem Ori.msr {n : Nat} (h : Ori l ρ M) (hv : ∀ p ∈ l, validB (n : Int) p = true) : Msr (rowE l) (Gd l n) (mu l ρ M) where
  step v w hG u hu := by
    obtain ⟨hu1, hu2⟩ := keep_mem.1 hu
    refine ⟨⟨valid_row hv hu1, .inr (rowE_sym hu1)⟩, ?_⟩
    have hne := h.neq hu1
    obtain ⟨hM1, hM2⟩ := h.le hu1
    unfold mu
    by_cases c : ρ v < ρ u
    · rw [if_pos ⟨rowE_sym hu1, c⟩]
      split <;> omega
    · rw [if_neg (fun h => c h.2), if_neg (fun hw => hu2 (h.low hu1 hw.1 (by omega) hw.2))]
      omega
end
section
variable {l : List (Int × Int)} {ρ : Int → Nat} {M : Nat}
theorem mu_le (l : List (Int × Int)) (ρ : Int → Nat) (M : Nat) (v w : Int) (h : ρ v ≤ M) : mu l ρ M v w ≤ 2 * M + 1 := by
  unfold mu
  split <;> omega
end
theorem adjAdd_get {adj : List (List Nat)} {a b x : Nat} (ha : a < adj.length) : (adjAdd adj a b).getD x [] = adj.getD x [] ++ (if a = x then [b] else []) := by
  unfold adjAdd
  simp only [List.getD, List.getElem?_set]
  by_cases e : a = x
  · subst e
    simp [ha]
  · simp [e]
theorem adjGo_row {n : Nat} : ∀ (l : List (Int × Int)) (adj : List (List Nat)), adj.length = n → (∀ p ∈ l, validB (n : Int) p = true) → ∀ x : Nat, rowI ((adjGo l adj).getD x []) = rowI (adj.getD x []) ++ rowE l (x : Int)
  | [], adj, _, _, x => by simp [adjGo, rowE]
  | p :: l, adj, ha, hv, x => by
    have h1 := hv p (by simp)
    rw [validB, decide_eq_true_eq] at h1
    have e : adjGo (p :: l) adj = adjGo l (adjStep adj p) := rfl
    rw [e, adjGo_row l (adjStep adj p) (by simp [adjStep, adjAdd, ha]) (fun q hq => hv q (by simp [hq])), adjStep, adjAdd_get (by simp [adjAdd, ha]; omega), adjAdd_get (by omega)]
    have e2 : rowE (p :: l) (x : Int) = (match oth (x : Int) p with | some y => [y] | none => []) ++ rowE l (x : Int) := by
      unfold rowE
      rw [List.filterMap_cons]
      cases oth (x : Int) p <;> rfl
    rw [e2]
    unfold oth
    by_cases c1 : p.1 = (x : Int)
    · have c2 : ¬ p.2 = (x : Int) := by omega
      rw [if_pos c1, if_pos (by omega), if_neg (by omega)]
      simp [rowI]
      omega
    · by_cases c2 : p.2 = (x : Int)
      · rw [if_neg c1, if_pos c2, if_neg (by omega), if_pos (by omega)]
        simp [rowI]
        omega
      · rw [if_neg c1, if_neg c2, if_neg (by omega), if_neg (by omega)]
        simp [rowI]
theorem adjOf_row {n : Nat} {l : List (Int × Int)} (hv : ∀ p ∈ l, validB (n : Int) p = true) {x : Nat} (hx : x < n) : ∃ r, (adjOf n l)[x]? = some r ∧ rowI r = rowE l (x : Int) := by
  have hl : (adjOf n l).length = n := (adjOf_inv hv).len
  have h := adjGo_row l (List.replicate n []) (by simp) hv x
  refine ⟨(adjOf n l)[x]'(by omega), List.getElem?_eq_getElem (by omega), ?_⟩
  have e : (adjOf n l).getD x [] = (adjOf n l)[x]'(by omega) := by simp [List.getD, List.getElem?_eq_getElem (show x < (adjOf n l).length by omega)]
  have e0 : (List.replicate n ([] : List Nat)).getD x [] = [] := by
    simp only [List.getD, List.getElem?_replicate]
    split <;> rfl
  rw [← e, adjOf, h, e0]
  rfl
theorem trues_sorted (r : List Bool) : ∀ (d j : Nat) (acc : List Int), acc.Pairwise (fun a b => a < b) → (∀ z ∈ acc, z < (j : Int)) → (truesFrom r j d acc).Pairwise fun a b => a < b
  | 0, j, acc, h, _ => h
  | d + 1, j, acc, h, hz => by
    rw [truesFrom]
    split
    · refine trues_sorted r d (j + 1) _ ?_ (fun z hz' => ?_)
      · rw [List.pairwise_append]
        refine ⟨h, by simp, fun a ha b hb => ?_⟩
        rw [List.mem_singleton.1 hb]; exact hz a ha
      · rcases List.mem_append.1 hz' with h' | h'
        · have := hz z h'; omega
        · rw [List.mem_singleton.1 h']; omega
    · exact trues_sorted r d (j + 1) _ h (fun z hz' => by have := hz z hz'; omega)
theorem nbrs_nodup (m : Nat) (l : List (Int × Int)) (x : Int) : (nbrs m l x).Nodup := by
  have := trues_sorted (nbMark x l (List.replicate m false)) m 0 [] List.Pairwise.nil (by simp)
  exact this.imp fun {a b} h => by omega
theorem nbrs_len (m : Nat) (l : List (Int × Int)) (x : Int) : (nbrs m l x).length ≤ m := by
  have := trues_len (nbMark x l (List.replicate m false)) m 0 []
  simpa [nbrs] using this
theorem nbrs_row {n : Nat} {l : List (Int × Int)} (hv : ∀ p ∈ l, validB (n : Int) p = true) {x : Int} (hx : 0 ≤ x) (y : Int) : y ∈ nbrs n l x ↔ y ∈ rowE l x := by
  obtain ⟨a, rfl⟩ : ∃ a : Nat, x = (a : Int) := ⟨x.toNat, by omega⟩
  rw [rowE_mem]
  have hpos : y ∈ nbrs n l (a : Int) → 0 ≤ y := fun h => by
    rw [nbrs, trues_mem] at h
    rcases h with h | ⟨k, rfl, _⟩
    · cases h
    · omega
  have hm := @nbN_mem n l (valid_in hv) a y.toNat
  constructor
  · intro h
    have h0 := hpos h
    obtain ⟨_, p, hp, h2⟩ := hm.1 (List.mem_map_of_mem h)
    have h1 := hv p hp
    rw [validB, decide_eq_true_eq] at h1
    exact ⟨p, hp, by unfold isE; omega⟩
  · rintro ⟨p, hp, h⟩
    have h1 := hv p hp
    rw [validB, decide_eq_true_eq] at h1
    have : y.toNat ∈ nbN n l a := hm.2 ⟨by rcases h with h | h <;> omega, p, hp, by rcases h with h | h <;> omega⟩
    obtain ⟨z, hz, hzy⟩ := List.mem_map.1 this
    have := hpos
    have hz0 : 0 ≤ z := by
      rw [nbrs, trues_mem] at hz
      rcases hz with h | ⟨k, rfl, _⟩
      · cases h
      · omega
    have : z = y := by rcases h with h | h <;> omega
    rw [← this]; exact hz
theorem nbrs_perm {n : Nat} {l : List (Int × Int)} {ρ : Int → Nat} {M : Nat} (hv : ∀ p ∈ l, validB (n : Int) p = true) (h : Ori l ρ M) {x : Int} (hx : 0 ≤ x) : (nbrs n l x).Perm (rowE l x) :=
  (List.perm_ext_iff_of_nodup (nbrs_nodup n l x) (h.nodup x)).2 fun y => nbrs_row hv hx y
end Go.Proofs.Ytmhfkhlamnapdaa
end
section
open Go Go.HL
namespace Go.Proofs.Ytmhfkhlamnapdaa
def Pnt (nb : Nat → List Nat) (n r : Nat) (o : List Int) : Prop := ∀ y, y < n → 0 ≤ o.getD y 0 → y = r ∨ ∃ x, x < n ∧ y ∈ nb x ∧ 0 ≤ o.getD x 0 ∧ o.getD y 0 = o.getD x 0 + 1
theorem bIn_pnt (nb : Nat → List Nat) {n k r x : Nat} {c : Int} (hc : 0 ≤ c ∧ c + 1 ≤ k) (hx : x < n) : ∀ (l : List Nat) (s : List Int × List Nat), (∀ y ∈ l, y < n ∧ y ∈ nb x) → BInv n k s → s.1.getD x 0 = c → Pnt nb n r s.1 → Pnt nb n r (bIn c l s).1 ∧ (bIn c l s).1.getD x 0 = c
  | [], _, _, _, h2, h3 => ⟨h3, h2⟩
  | y :: l, s, hl, h, h2, h3 => by
    rw [bIn]
    obtain ⟨hy, hyx⟩ := hl y (by simp)
    have h' := h.step hc hy
    have hyl : y < s.1.length := by rw [h.len]; exact hy
    refine bIn_pnt nb hc hx l _ (fun z hz => hl z (by simp [hz])) h' ?_ ?_
    · split
      · rename_i hlt
        show (s.1.set y (c + 1)).getD x 0 = c
        rw [getD_set _ _ _ _ hyl, if_neg (fun e => by subst e; omega), h2]
      · exact h2
    · split
      · rename_i hlt
        intro z hz h0
        have hz0 : (s.1.set y (c + 1)).getD z 0 = if y = z then c + 1 else s.1.getD z 0 := getD_set _ _ _ _ hyl
        show z = r ∨ ∃ x, x < n ∧ z ∈ nb x ∧ 0 ≤ (s.1.set y (c + 1)).getD x 0 ∧ (s.1.set y (c + 1)).getD z 0 = (s.1.set y (c + 1)).getD x 0 + 1
        by_cases e : y = z
        · subst e
          right
          refine ⟨x, hx, hyx, ?_, ?_⟩
          · rw [getD_set _ _ _ _ hyl, if_neg (fun e => by subst e; omega), h2]; omega
          · rw [getD_set _ _ _ _ hyl, getD_set _ _ _ _ hyl, if_pos rfl, if_neg (fun e => by subst e; omega), h2]
        · rw [if_neg e] at hz0
          have h0' : 0 ≤ s.1.getD z 0 := by rw [← hz0]; exact h0
          rcases h3 z hz h0' with h4 | ⟨w, hw, h5, h6, h7⟩
          · exact .inl h4
          · right
            refine ⟨w, hw, h5, ?_, ?_⟩
            · rw [getD_set _ _ _ _ hyl, if_neg (fun e => by subst e; omega)]; exact h6
            · rw [hz0, getD_set _ _ _ _ hyl, if_neg (fun e => by subst e; omega)]; exact h7
      · exact h3
theorem bGo_pnt (nb : Nat → List Nat) {n r : Nat} (hnb : ∀ x, x < n → ∀ z ∈ nb x, z < n) : ∀ (d i : Nat) (s : List Int × List Nat), i + d = n → BInv n i s → Pnt nb n r s.1 → 0 ≤ s.1.getD r 0 → r < n → Pnt nb n r (bGo nb d i s).1 ∧ (bGo nb d i s).1.getD r 0 = s.1.getD r 0
  | 0, _, _, _, _, h, _, _ => ⟨h, rfl⟩
  | d + 1, i, s, hi, hinv, h, hr, hrn => by
    rw [bGo]
    cases hw : s.2[i]? with
    | none => exact ⟨h, rfl⟩
    | some w =>
      dsimp only
      have hwn : w < n := hinv.lt _ (List.mem_of_getElem? hw)
      have hc0 := (hinv.got w hwn).2 (List.mem_of_getElem? hw)
      have hci := hinv.le w hwn
      have hc : 0 ≤ s.1.getD w 0 ∧ s.1.getD w 0 + 1 ≤ ((i + 1 : Nat) : Int) := ⟨hc0, by omega⟩
      have hinv' := BInv.inn hc (nb w) s (hnb w hwn) (hinv.mono (by omega))
      obtain ⟨h1, h2⟩ := bIn_pnt nb (r := r) hc hwn (nb w) s (fun y hy => ⟨hnb w hwn y hy, hy⟩) (hinv.mono (by omega)) rfl h
      have hk : ∀ (l : List Nat) (t : List Int × List Nat), (∀ y ∈ l, y < n) → BInv n (i + 1) t → 0 ≤ t.1.getD r 0 → (bIn (s.1.getD w 0) l t).1.getD r 0 = t.1.getD r 0 := by
        intro l
        induction l with
        | nil => intro t _ _ _; rfl
        | cons y l ihl =>
          intro t hl ht h0
          rw [bIn]
          have hy := hl y (by simp)
          have hyl : y < t.1.length := by rw [ht.len]; exact hy
          have e : (if t.1.getD y 0 < 0 then (t.1.set y (s.1.getD w 0 + 1), t.2 ++ [y]) else t).1.getD r 0 = t.1.getD r 0 := by
            split
            · show (t.1.set y (s.1.getD w 0 + 1)).getD r 0 = _
              rw [getD_set _ _ _ _ hyl, if_neg (fun e => by subst e; omega)]
            · rfl
          rw [ihl _ (fun z hz => hl z (by simp [hz])) (ht.step hc hy) (by rw [e]; exact h0), e]
      have hr' := hk (nb w) s (hnb w hwn) (hinv.mono (by omega)) hr
      obtain ⟨h3, h4⟩ := bGo_pnt nb hnb d (i + 1) _ (by omega) hinv' h1 (by rw [hr']; exact hr) hrn
      exact ⟨h3, by rw [h4, hr']⟩
theorem bInit_get {n r y : Nat} (hr : r < n) (hy : y < n) : (bInit n r).1.getD y 0 = if r = y then 0 else -1 := by
  unfold bInit
  rw [getD_set _ _ _ _ (by simpa using hr)]
  split
  · rfl
  · simp [List.getD, List.getElem?_replicate, hy]
theorem bfs_pnt (nb : Nat → List Nat) {n r : Nat} (hr : r < n) (hnb : ∀ x, x < n → ∀ z ∈ nb x, z < n) : Pnt nb n r (bfs nb n r) ∧ (bfs nb n r).getD r 0 = 0 ∧ ∀ y, y < n → (bfs nb n r).getD y 0 ≤ (n : Int) := by
  have hi := bInit_inv hr
  obtain ⟨h1, h2⟩ := bGo_pnt nb (r := r) hnb n 0 (bInit n r) (by omega) hi (fun y hy h0 => by
    rw [bInit_get hr hy] at h0
    split at h0
    · rename_i e; exact .inl e.symm
    · omega) (by rw [bInit_get hr hr, if_pos rfl]; omega) hr
  rw [bInit_get hr hr, if_pos rfl] at h2
  obtain ⟨a1, a2, a3⟩ := bGo_closed nb n hnb n 0 (bInit n r) (by omega) hi (Nat.zero_le _) (fun k x hk => by omega)
  exact ⟨h1, h2, a1.le⟩
theorem perm_of_sub {α : Type} [DecidableEq α] : ∀ (P S : List α), P.Nodup → (∀ v ∈ P, v ∈ S) → S.length ≤ P.length → S.Perm P
  | [], S, _, _, h => by
    have : S = [] := List.length_eq_zero_iff.1 (by simpa using h)
    rw [this]
  | x :: P, S, hP, h, hl => by
    rw [List.nodup_cons] at hP
    have hx := h x (by simp)
    have := perm_of_sub P (S.erase x) hP.2 (fun v hv => by
      rw [List.mem_erase_of_ne (fun e => hP.1 (by rw [← e]; exact hv))]
      exact h v (by simp [hv])) (by rw [List.length_erase_of_mem hx]; simp at hl; omega)
    exact (List.perm_cons_erase hx).trans (this.cons x)
structure Rtd (l : List (Int × Int)) (n r : Nat) (ρ : Int → Nat) : Prop where
  root : ρ (r : Int) = 0
  up : ∀ y : Nat, y < n → y ≠ r → ∃ u, u ∈ rowE l (y : Int) ∧ ρ (y : Int) = ρ u + 1
  le : ∀ y : Nat, y < n → ρ (y : Int) ≤ n
theorem Rtd.ori {l : List (Int × Int)} {n r : Nat} {ρ : Int → Nat} (h : Rtd l n r ρ) (hr : r < n) (hv : ∀ p ∈ l, validB (n : Int) p = true) (hl : l.length + 1 = n) : Ori l ρ n ∧ ∀ p ∈ l, ρ p.1 = ρ p.2 + 1 ∨ ρ p.2 = ρ p.1 + 1 := by
  have hup : ∀ y : Nat, y < n → y ≠ r → ∃ p ∈ l, chd ρ p = (y : Int) ∧ (ρ p.1 = ρ p.2 + 1 ∨ ρ p.2 = ρ p.1 + 1) := by
    intro y hy hyr
    obtain ⟨u, hu, e⟩ := h.up y hy hyr
    obtain ⟨p, hp, hE⟩ := rowE_mem.1 hu
    refine ⟨p, hp, chd_of hE (by omega), ?_⟩
    rcases hE with ⟨a, b⟩ | ⟨a, b⟩
    · rw [a, b]; exact .inl e
    · rw [a, b]; exact .inr e
  have hPnd : (((List.range n).filter fun y => decide (y ≠ r)).map fun y : Nat => (y : Int)).Nodup := by
    have h1 : ((List.range n).filter fun y => decide (y ≠ r)).Nodup := List.Pairwise.filter _ List.nodup_range
    exact List.Pairwise.map _ (fun a b hab => by omega) h1
  have hPl : n ≤ (((List.range n).filter fun y => decide (y ≠ r)).map fun y : Nat => (y : Int)).length + 1 := by
    rw [List.length_map]
    have h1 : (List.range n).Perm (r :: (List.range n).filter fun y => decide (y ≠ r)) := by
      refine (perm_of_sub _ _ ?_ ?_ ?_).symm
      · exact List.nodup_range
      · intro v hv'
        by_cases e : v = r
        · rw [e]; simp
        · have : v ∈ (List.range n).filter fun y => decide (y ≠ r) := List.mem_filter.2 ⟨hv', by simpa using e⟩
          simp only [List.mem_cons]; exact .inr this
      · rw [List.length_cons]
        have hnd : ((List.range n).filter fun y => decide (y ≠ r)).Nodup := List.Pairwise.filter _ List.nodup_range
        have := nodup_lt_len (n := n) (l := r :: (List.range n).filter fun y => decide (y ≠ r)) (by
          rw [List.nodup_cons]
          exact ⟨by simp, hnd⟩) (fun y hy => by
          rcases List.mem_cons.1 hy with rfl | hy
          · exact hr
          · exact List.mem_range.1 (List.mem_filter.1 hy).1)
        simpa using this
    have := h1.length_eq
    simp at this ⊢
    omega
  have hperm := perm_of_sub (((List.range n).filter fun y => decide (y ≠ r)).map fun y : Nat => (y : Int)) (l.map (chd ρ)) hPnd (fun v hv' => by
    obtain ⟨y, hy, rfl⟩ := List.mem_map.1 hv'
    obtain ⟨h1, h2⟩ := List.mem_filter.1 hy
    obtain ⟨p, hp, e, _⟩ := hup y (List.mem_range.1 h1) (by simpa using h2)
    rw [← e]; exact List.mem_map_of_mem hp) (by rw [List.length_map]; omega)
  have hnd : (l.map (chd ρ)).Nodup := hperm.nodup_iff.2 hPnd
  have hone : ∀ p ∈ l, ρ p.1 = ρ p.2 + 1 ∨ ρ p.2 = ρ p.1 + 1 := by
    intro p hp
    have hm : chd ρ p ∈ l.map (chd ρ) := List.mem_map_of_mem hp
    rw [hperm.mem_iff] at hm
    obtain ⟨y, hy, e⟩ := List.mem_map.1 hm
    obtain ⟨h1, h2⟩ := List.mem_filter.1 hy
    obtain ⟨q, hq, e2, h3⟩ := hup y (List.mem_range.1 h1) (by simpa using h2)
    have : p = q := inj_of_nodup hnd p hp q hq (by rw [e2, ← e])
    rw [this]; exact h3
  refine ⟨⟨fun p hp => by have := hone p hp; omega, hnd, fun p hp => ?_⟩, hone⟩
  have h1 := hv p hp
  rw [validB, decide_eq_true_eq] at h1
  have e1 : p.1 = ((p.1.toNat : Nat) : Int) := by omega
  have e2 : p.2 = ((p.2.toNat : Nat) : Int) := by omega
  rw [e1, e2]
  exact ⟨h.le _ (by omega), h.le _ (by omega)⟩
theorem rtd_of_bfs {l : List (Int × Int)} {n r : Nat} (hr : r < n) {nb : Nat → List Nat} (hnb : ∀ x, x < n → ∀ z ∈ nb x, z < n) (hE : ∀ x y : Nat, x < n → y ∈ nb x → (y : Int) ∈ rowE l (x : Int)) (hall : ∀ y, y < n → 0 ≤ (bfs nb n r).getD y 0) : Rtd l n r fun v => ((bfs nb n r).getD v.toNat 0).toNat := by
  obtain ⟨h1, h2, h3⟩ := bfs_pnt nb hr hnb
  refine ⟨by simp only [Int.toNat_natCast, h2]; rfl, fun y hy hyr => ?_, fun y hy => ?_⟩
  · rcases h1 y hy (hall y hy) with e | ⟨x, hx, h4, h5, h6⟩
    · exact absurd e hyr
    · refine ⟨(x : Int), rowE_sym (hE x y hx h4), ?_⟩
      simp only [Int.toNat_natCast]
      omega
  · have := h3 y hy
    simp only [Int.toNat_natCast]
    omega
theorem getD_at {o : List Int} {y : Nat} (h : y < o.length) : o.getD y 0 = o[y] := by simp [List.getD, List.getElem?_eq_getElem h]
theorem tree_rtd {n : Nat} {l : List (Int × Int)} (h : treeOk (n : Int) l = true) : ((1 ≤ n ∧ n ≤ 30) ∧ l.length + 1 = n) ∧ (∀ p ∈ l, validB (n : Int) p = true) ∧ ∀ r, r < n → Rtd l n r fun v => ((bfs (fun y => (adjOf n l).getD y []) n r).getD v.toNat 0).toNat := by
  rw [treeOk, Bool.and_eq_true, decide_eq_true_eq] at h
  obtain ⟨⟨⟨⟨a, b⟩, c⟩, d⟩, e⟩ := h
  have hv := List.all_eq_true.1 d
  refine ⟨⟨⟨by omega, by omega⟩, by omega⟩, hv, fun r hr => ?_⟩
  have hA := adjOf_inv hv
  have hnb : ∀ x, x < n → ∀ z ∈ (adjOf n l).getD x [], z < n := by
    intro x hx z hz
    have e : (adjOf n l).getD x [] = (adjOf n l)[x]'(by rw [hA.len]; exact hx) := by simp [List.getD, List.getElem?_eq_getElem (show x < (adjOf n l).length by rw [hA.len]; exact hx)]
    rw [e] at hz
    exact (hA.row _ (List.getElem_mem _)).2 z hz
  have hE : ∀ x y : Nat, x < n → (y ∈ (adjOf n l).getD x [] ↔ (y : Int) ∈ rowE l (x : Int)) := by
    intro x y hx
    obtain ⟨r, h1, h2⟩ := adjOf_row hv hx
    have e : (adjOf n l).getD x [] = r := by simp [List.getD, h1]
    rw [e, ← h2, rowI, List.mem_map]
    constructor
    · exact fun h => ⟨y, h, rfl⟩
    · rintro ⟨z, hz, e⟩
      have : z = y := by omega
      rw [← this]; exact hz
  refine rtd_of_bfs hr hnb (fun x y hx hy => (hE x y hx).1 hy) ?_
  rw [farOk, decide_eq_true_eq, Int.toNat_natCast, farF, hA.len] at e
  -- all are reached from 0
  have hlen0 : (bfs (fun y => (adjOf n l).getD y []) n 0).length = n := bfs_len _ n 0
  have h0 : ∀ y, y < n → 0 ≤ (bfs (fun y => (adjOf n l).getD y []) n 0).getD y 0 := by
    intro y hy
    obtain ⟨a1, a2, a3⟩ := bGo_closed (fun y => (adjOf n l).getD y []) n hnb n 0 (bInit n 0) (by omega) (bInit_inv (by omega)) (Nat.zero_le _) (fun k x hk => by omega)
    have hge := a1.ge y hy
    have hne : (bfs (fun y => (adjOf n l).getD y []) n 0).getD y 0 ≠ -1 := by
      intro h1
      apply e
      have hy2 : y < (bfs (fun y => (adjOf n l).getD y []) n 0).length := by omega
      have := getD_at hy2
      rw [← h1, this]; exact List.getElem_mem hy2
    unfold bfs at hne ⊢
    omega
  -- so from r
  obtain ⟨b1, b2, b3⟩ := bGo_closed (fun y => (adjOf n l).getD y []) n hnb n 0 (bInit n r) (by omega) (bInit_inv hr) (Nat.zero_le _) (fun k x hk => by omega)
  have hsym : ∀ x y, x < n → y < n → y ∈ (adjOf n l).getD x [] → x ∈ (adjOf n l).getD y [] := fun x y hx hy h => (hE y x hy).2 (rowE_sym ((hE x y hx).1 h))
  obtain ⟨p1, p2, p3⟩ := bfs_pnt (fun y => (adjOf n l).getD y []) (r := 0) (by omega) hnb
  -- going up from r to 0
  have hr2 : r ∈ (bGo (fun y => (adjOf n l).getD y []) n 0 (bInit n r)).2 := b2 r (by simp [bInit])
  have up : ∀ (k y : Nat), y < n → ((bfs (fun y => (adjOf n l).getD y []) n 0).getD y 0).toNat ≤ k → y ∈ (bGo (fun y => (adjOf n l).getD y []) n 0 (bInit n r)).2 → 0 ∈ (bGo (fun y => (adjOf n l).getD y []) n 0 (bInit n r)).2 := by
    intro k
    induction k with
    | zero =>
      intro y hy hk hm
      rcases p1 y hy (h0 y hy) with e | ⟨x, hx, h4, h5, h6⟩
      · subst e; exact hm
      · omega
    | succ k ih =>
      intro y hy hk hm
      rcases p1 y hy (h0 y hy) with e | ⟨x, hx, h4, h5, h6⟩
      · subst e; exact hm
      · exact ih x hx (by omega) (b3 y hm x (hsym x y hx hy h4))
  have h00 := up _ r hr (Nat.le_refl _) hr2
  have down : ∀ (k y : Nat), y < n → ((bfs (fun y => (adjOf n l).getD y []) n 0).getD y 0).toNat ≤ k → y ∈ (bGo (fun y => (adjOf n l).getD y []) n 0 (bInit n r)).2 := by
    intro k
    induction k with
    | zero =>
      intro y hy hk
      rcases p1 y hy (h0 y hy) with e | ⟨x, hx, h4, h5, h6⟩
      · rw [e]; exact h00
      · omega
    | succ k ih =>
      intro y hy hk
      rcases p1 y hy (h0 y hy) with e | ⟨x, hx, h4, h5, h6⟩
      · rw [e]; exact h00
      · exact b3 x (ih x hx (by omega)) y h4
  intro y hy
  exact (b1.got y hy).2 (down _ y hy (Nat.le_refl _))
end Go.Proofs.Ytmhfkhlamnapdaa
end
section
open Go Go.HL
namespace Go.Proofs.Ytmhfkhlamnapdaa
theorem tmF_permD {row row' : Int → List Int} {D : Int → Prop} (h : ∀ v, D v → (row v).Perm (row' v) ∧ ∀ u ∈ row v, D u) : ∀ (k : Nat) (v w : Int), D v → tmF row k v w = tmF row' k v w
  | 0, _, _, _ => rfl
  | k + 1, v, w, hD => by
    rw [tmF, tmF]
    congr 1
    refine dsort_eq ?_
    have e : ((keep w (row v)).map fun u => tmF row k u v) = (keep w (row v)).map fun u => tmF row' k u v := List.map_congr_left fun u hu => tmF_permD h k u v ((h v hD).2 u (keep_mem.1 hu).1)
    rw [e]
    exact ((h v hD).1.filter _).map _
theorem valid_all {n : Nat} {l : List (Int × Int)} (hv : ∀ p ∈ l, validB (n : Int) p = true) : (l.all fun p => decide ((0 ≤ p.1 ∧ p.1 < (n : Int)) ∧ (0 ≤ p.2 ∧ p.2 < (n : Int)))) = true := List.all_eq_true.2 fun p hp => by
  have := hv p hp
  rw [validB, decide_eq_true_eq] at this
  exact decide_eq_true ⟨this.1, this.2.1⟩
theorem rowE_len (l : List (Int × Int)) (x : Int) : (rowE l x).length ≤ l.length := List.length_filterMap_le _ _
theorem ori_time {n : Nat} {l : List (Int × Int)} {ρ : Int → Nat} {M : Nat} (hn : n ≤ 30) (hl : l.length ≤ 39) (hv : ∀ p ∈ l, validB (n : Int) p = true) (hO : Ori l ρ M) (hM : M ≤ 70) {x w : Int} (hG : Gd l n x w) (hx : ρ x ≤ M) :
    TimeOk (adjOf n l) (tm (rowE l)) n x w ∧ RT n l (tm (nbrs n l)) x w ∧ tm (nbrs n l) x w = tm (rowE l) x w := by
  have hmu := mu_le l ρ M x w hx
  have hA := adjOf_inv hv
  refine ⟨?_, ?_, ?_⟩
  · have := timeOk_all (adj := adjOf n l) (hO.msr hv) (fun v => by have := rowE_len l v; omega) (fun v w hG => by
      obtain ⟨⟨h1, h2⟩, _⟩ := hG
      obtain ⟨r, h3, h4⟩ := adjOf_row hv (x := v.toNat) (by omega)
      have e : ((v.toNat : Nat) : Int) = v := by omega
      rw [e] at h4
      exact ⟨v.toNat, r, e.symm, h3, h4⟩) 150 x w hG (by omega) (by omega)
    rw [hA.len] at this
    exact this
  · have hM2 : Msr (nbrs ((n : Int)).toNat l) (Gd l n) (mu l ρ M) := ⟨fun v w hG u hu => (hO.msr hv).step v w hG u (by
      rw [Int.toNat_natCast] at hu
      obtain ⟨h1, h2⟩ := keep_mem.1 hu
      exact keep_mem.2 ⟨(nbrs_row hv hG.1.1 u).1 h1, h2⟩)⟩
    have := rt_all (n := (n : Int)) (l := l) ⟨by omega, by omega⟩ (valid_all hv) hM2 (fun v => by have := nbrs_len n l v; rw [Int.toNat_natCast]; omega) 150 x w hG (by omega) (by omega)
    rw [Int.toNat_natCast] at this
    exact this
  · exact tmF_permD (D := fun v => 0 ≤ v) (fun v hv0 => ⟨nbrs_perm hv hO hv0, fun u hu => (valid_row hv ((nbrs_row hv hv0 u).1 hu)).1⟩) 200 x w hG.1.1
theorem tree_time {n : Nat} {l : List (Int × Int)} (h : treeOk (n : Int) l = true) {x : Int} (hx : 0 ≤ x ∧ x < (n : Int)) :
    TimeOk (adjOf n l) (tm (rowE l)) n x (-1) ∧ RT n l (tm (nbrs n l)) x (-1) ∧ tm (nbrs n l) x (-1) = tm (rowE l) x (-1) := by
  obtain ⟨⟨hn, hl⟩, hv, hr⟩ := tree_rtd h
  have hR := hr 0 (by omega)
  obtain ⟨hO, _⟩ := hR.ori (by omega) hv hl
  refine ori_time (by omega) (by omega) hv hO (by omega) ⟨hx, .inl rfl⟩ ?_
  obtain ⟨a, rfl⟩ : ∃ a : Nat, x = (a : Int) := ⟨x.toNat, by omega⟩
  exact hR.le a (by omega)
end Go.Proofs.Ytmhfkhlamnapdaa
end
section
open Go Go.HL
namespace Go.Proofs.Ytmhfkhlamnapdaa
set_option maxRecDepth 100000
noncomputable def B40 : Code := Try.f40.body.getD .skip
abbrev env40 (v0 v1 v2 v6 : HV) : Env := [(0, v0), (1, v1), (2, v2), (6, v6)]
theorem rq_a_0 (N : Nat) (n : Int) (lc : List HV) (x : Int) (H : Heap) (t : Int) (H0 : Heap) (g0 : ∀ kf, N ≤ kf → callN Try.prog polN (kf + 1) 57 [.i n, .imm .arg 2 lc, .i x, .i (-1)] H = some (.i t, H0)) : RunsTo Try.prog polN 40 (sub [] B40) [(0, .i n), (1, .imm .arg 2 lc), (2, .i x)] H .ret (polN.keys 40) (env40 (.i n) (.imm .arg 2 lc) (.i x) (.i t)) H0 :=
  RunsTo.hin N 60 [⟨1, 3, .i t, H0⟩] fun kf hk => ⟨_, by kernel_rfl, (oC (g0 kf (by omega)) .nil)⟩
end Go.Proofs.Ytmhfkhlamnapdaa
end
section
open Go Go.HL
namespace Go.Proofs.Ytmhfkhlamnapdaa
theorem res40 : Try.f40.results.toList = [.tmp 6] := by kernel_rfl
def time40 : List HV → Option HV
  | [.int .i64 n, .imm .arg 2 lc, .int .i64 x] => match mapO decP lc with | some l => if treeOk n l = true ∧ (0 ≤ x ∧ x < n) then some (.int .i64 (tm (rowE l) x (-1))) else none | none => none
  | _ => none
theorem time40_ok : PrimOk Try.prog 40 time40 := by
  refine primOk_pure (pol := polN) (fn := Try.f40) (cd := B40) follows_mixed soundN (by kernel_rfl) (by kernel_rfl) (fnok polN.prim _ _ (by kernel_rfl)) (by kernel_rfl) ?_
  intro args res h
  unfold time40 at h
  split at h
  · rename_i n lc x
    split at h
    · rename_i l hl
      split at h
      · rename_i hg
        cases h
        rw [mapO_inv decP_inv hl]
        obtain ⟨h1, h2⟩ := hg
        obtain ⟨m, rfl⟩ : ∃ m : Nat, n = (m : Int) := ⟨n.toNat, by omega⟩
        obtain ⟨_, hR, he⟩ := tree_time h1 h2
        obtain ⟨N, hN⟩ := hR []
        rw [he] at hN
        have t := rq_a_0 N (m : Int) (l.map encP) x [] _ [] (fun kf hk => hN (kf + 1) (by omega))
        exact ⟨_, _, _, .int .i64 (tm (rowE l) x (-1)), t, by simp, by simp only [resultsV, res40, mapO, resultV]; rfl, rfl⟩
      · cases h
    · cases h
  · cases h
def primQ (g : FuncId) : Option (List HV → Option HV) := if g == 40 then some time40 else none
def polQ : Pol := { pol with prim := primQ }
theorem primQ_ok (g : FuncId) (f : List HV → Option HV) (h : primQ g = some f) : PrimOk Try.prog g f := by
  unfold primQ at h
  split at h
  · rename_i hg; cases h; rw [eq_of_beq hg]; exact time40_ok
  · cases h
theorem soundQ (n : Nat) : CallSound Try.prog (callN Try.prog polQ n) := sound_prim primQ primQ_ok n
end Go.Proofs.Ytmhfkhlamnapdaa
end
section
open Go Go.HL
namespace Go.Proofs.Ytmhfkhlamnapdaa
set_option maxRecDepth 100000
noncomputable def B20 : Code := Try.f20.body.getD .skip
abbrev env20 (v0 v1 v4 v5 v6 v7 v8 v9 : HV) : Env := [(0, v0), (1, v1), (4, v4), (5, v5), (6, v6), (7, v7), (8, v8), (9, v9)]
theorem rce_a_0 (n : Int) (lc : List HV) (H : Heap) : RunsTo Try.prog polQ 20 (sub [0] B20) [(0, .i n), (1, .imm .arg 2 lc)] H .normal (polQ.keys 20) (env20 (.i n) (.imm .arg 2 lc) (.imm .lit 1 []) (.i 0) .undef .undef .undef .undef) H :=
  RunsTo.hin 0 60 [] fun kf hk => ⟨_, by kernel_rfl, .nil⟩
theorem rce_b_0 (n : Int) (lc : List HV) (H : Heap) (tb : Nat) (H0 : Heap) (g0 : some (HV.sl H.length 0 0 none 0 1, H ++ [Blk.arr 1 [] true 0]) = some (.sl tb 0 0 none 0 1, H0)) : RunsTo Try.prog polQ 20 (sub [1, 0] B20) (env20 (.i n) (.imm .arg 2 lc) (.imm .lit 1 []) (.i 0) .undef .undef .undef .undef) H .normal (polQ.keys 20) (env20 (.i n) (.imm .arg 2 lc) (.imm .lit 1 []) (.i 0) (.sl tb 0 0 none 0 1) .undef .undef .undef) H0 :=
  RunsTo.hin 0 60 [⟨1, 0, .sl tb 0 0 none 0 1, H0⟩] fun kf hk => ⟨_, by kernel_rfl, (oC (g0) .nil)⟩
theorem rce_c_0 (n : Int) (lc : List HV) (H : Heap) (tb : Nat) : RunsTo Try.prog polQ 20 (sub [1, 1, 0] B20) (env20 (.i n) (.imm .arg 2 lc) (.imm .lit 1 []) (.i 0) (.sl tb 0 0 none 0 1) .undef .undef .undef) H .normal (polQ.keys 20) (env20 (.i n) (.imm .arg 2 lc) (.imm .lit 1 []) (.i 0) (.sl tb 0 0 none 0 1) (.i n) .undef .undef) H :=
  RunsTo.hin 0 60 [] fun kf hk => ⟨_, by kernel_rfl, .nil⟩
theorem rce_d_0 (n : Int) (lc : List HV) (H : Heap) (tb : Nat) : RunsTo Try.prog polQ 20 (sub [1, 1, 1, 0, 0] B20) (env20 (.i n) (.imm .arg 2 lc) (.imm .lit 1 []) (.i 0) (.sl tb 0 0 none 0 1) (.i n) .undef .undef) H .normal (polQ.keys 20) (env20 (.i n) (.imm .arg 2 lc) (.imm .lit 1 []) (.i 0) (.sl tb 0 0 none 0 1) (.i n) (.i 0) .undef) H :=
  RunsTo.hin 0 60 [] fun kf hk => ⟨_, by kernel_rfl, .nil⟩
theorem rce_e_0 (n : Int) (lc : List HV) (H : Heap) (tb k : Nat) (be : Int) (i : Nat)(g0 : (i : Int) < n) : RunsTo Try.prog polQ 20 (sub [1, 1, 1, 0, 1, 0, 0, 0] B20) (env20 (.i n) (.imm .arg 2 lc) (.imm .lit 1 []) (.i 0) (.sl tb 0 k none k 1) (.i be) (.i (i : Int)) .undef) H .normal (polQ.keys 20) (env20 (.i n) (.imm .arg 2 lc) (.imm .lit 1 []) (.i 0) (.sl tb 0 k none k 1) (.i be) (.i (i : Int)) .undef) H :=
  RunsTo.hin 0 60 [⟨4, 2, .bool true, H⟩] fun kf hk => ⟨_, by kernel_rfl, (oB H (decide_eq_true g0) .nil)⟩
theorem rce_e_1 (n : Int) (lc : List HV) (H : Heap) (tb k : Nat) (be : Int) (i : Nat)(g0 : ¬ ((i : Int) < n)) : RunsTo Try.prog polQ 20 (sub [1, 1, 1, 0, 1, 0, 0, 0] B20) (env20 (.i n) (.imm .arg 2 lc) (.imm .lit 1 []) (.i 0) (.sl tb 0 k none k 1) (.i be) (.i (i : Int)) .undef) H (.exit 0) (polQ.keys 20) (env20 (.i n) (.imm .arg 2 lc) (.imm .lit 1 []) (.i 0) (.sl tb 0 k none k 1) (.i be) (.i (i : Int)) .undef) H :=
  RunsTo.hin 0 60 [⟨4, 2, .bool false, H⟩] fun kf hk => ⟨_, by kernel_rfl, (oB H (decide_eq_false g0) .nil)⟩
theorem rce_f_0 (n : Int) (lc : List HV) (H : Heap) (tb k : Nat) (be : Int) (i : Nat) (t : Int) (H0 : Heap) (g0 : ∀ kf, callN Try.prog polQ (kf + 1) 40 [.i n, .imm .arg 2 lc, .i (i : Int)] H = some (.i t, H0)) : RunsTo Try.prog polQ 20 (sub [1, 1, 1, 0, 1, 0, 0, 1, 0, 0, 0] B20) (env20 (.i n) (.imm .arg 2 lc) (.imm .lit 1 []) (.i 0) (.sl tb 0 k none k 1) (.i be) (.i (i : Int)) .undef) H .normal (polQ.keys 20) (env20 (.i n) (.imm .arg 2 lc) (.imm .lit 1 []) (.i 0) (.sl tb 0 k none k 1) (.i be) (.i (i : Int)) (.i t)) H0 :=
  RunsTo.hin 0 60 [⟨6, 3, .i t, H0⟩] fun kf hk => ⟨_, by kernel_rfl, (oC (g0 kf) .nil)⟩
theorem rce_g_0 (n : Int) (lc : List HV) (H : Heap) (tb k : Nat) (be : Int) (i : Nat) (q : Int) (tb2 : Nat) (H0 : Heap) (g0 : q < be) (g1 : some (HV.sl H.length 0 0 none 0 1, H ++ [Blk.arr 1 [] true 0]) = some (.sl tb2 0 0 none 0 1, H0)) : RunsTo Try.prog polQ 20 (sub [1, 1, 1, 0, 1, 0, 0, 1, 0, 0, 1, 0] B20) (env20 (.i n) (.imm .arg 2 lc) (.imm .lit 1 []) (.i 0) (.sl tb 0 k none k 1) (.i be) (.i (i : Int)) (.i q)) H .normal (polQ.keys 20) (env20 (.i n) (.imm .arg 2 lc) (.imm .lit 1 []) (.i 0) (.sl tb2 0 0 none 0 1) (.i q) (.i (i : Int)) (.i q)) H0 :=
  RunsTo.hin 0 60 [⟨7, 2, .bool true, H⟩, ⟨9, 0, .sl tb2 0 0 none 0 1, H0⟩] fun kf hk => ⟨_, by kernel_rfl, (oB H (decide_eq_true g0) (oC (g1) .nil))⟩
theorem rce_g_1 (n : Int) (lc : List HV) (H : Heap) (tb k : Nat) (be : Int) (i : Nat) (q : Int) (tb2 : Nat)(g0 : ¬ (q < be)) : RunsTo Try.prog polQ 20 (sub [1, 1, 1, 0, 1, 0, 0, 1, 0, 0, 1, 0] B20) (env20 (.i n) (.imm .arg 2 lc) (.imm .lit 1 []) (.i 0) (.sl tb 0 k none k 1) (.i be) (.i (i : Int)) (.i q)) H .normal (polQ.keys 20) (env20 (.i n) (.imm .arg 2 lc) (.imm .lit 1 []) (.i 0) (.sl tb 0 k none k 1) (.i be) (.i (i : Int)) (.i q)) H :=
  RunsTo.hin 0 60 [⟨7, 2, .bool false, H⟩] fun kf hk => ⟨_, by kernel_rfl, (oB H (decide_eq_false g0) .nil)⟩
theorem rce_h_0 (n : Int) (lc : List HV) (H : Heap) (tb k : Nat) (be : Int) (i : Nat) (q : Int) (H0 : Heap) (g0 : q = be) (g1 : appV H 1 8 (.sl tb 0 k none k 1) [.i (i : Int)] = some (.sl tb 0 (k + 1) none (k + 1) 1, H0)) : RunsTo Try.prog polQ 20 (sub [1, 1, 1, 0, 1, 0, 0, 1, 0, 0, 1, 1] B20) (env20 (.i n) (.imm .arg 2 lc) (.imm .lit 1 []) (.i 0) (.sl tb 0 k none k 1) (.i be) (.i (i : Int)) (.i q)) H .normal (polQ.keys 20) (env20 (.i n) (.imm .arg 2 lc) (.imm .lit 1 []) (.i 0) (.sl tb 0 (k + 1) none (k + 1) 1) (.i be) (.i (i : Int)) (.i q)) H0 :=
  RunsTo.hin 0 60 [⟨10, 2, .bool true, H⟩, ⟨11, 3, .sl tb 0 (k + 1) none (k + 1) 1, H0⟩] fun kf hk => ⟨_, by kernel_rfl, (oB H (decide_eq_true g0) (oC (g1) .nil))⟩
theorem rce_h_1 (n : Int) (lc : List HV) (H : Heap) (tb k : Nat) (be : Int) (i : Nat) (q : Int)(g0 : ¬ (q = be)) : RunsTo Try.prog polQ 20 (sub [1, 1, 1, 0, 1, 0, 0, 1, 0, 0, 1, 1] B20) (env20 (.i n) (.imm .arg 2 lc) (.imm .lit 1 []) (.i 0) (.sl tb 0 k none k 1) (.i be) (.i (i : Int)) (.i q)) H .normal (polQ.keys 20) (env20 (.i n) (.imm .arg 2 lc) (.imm .lit 1 []) (.i 0) (.sl tb 0 k none k 1) (.i be) (.i (i : Int)) (.i q)) H :=
  RunsTo.hin 0 60 [⟨10, 2, .bool false, H⟩] fun kf hk => ⟨_, by kernel_rfl, (oB H (decide_eq_false g0) .nil)⟩
theorem rce_i_0 (n : Int) (lc : List HV) (H : Heap) (tb k : Nat) (be : Int) (i : Nat) (x9 : HV) : RunsTo Try.prog polQ 20 (sub [1, 1, 1, 0, 1, 0, 0, 1, 1] B20) (env20 (.i n) (.imm .arg 2 lc) (.imm .lit 1 []) (.i 0) (.sl tb 0 k none k 1) (.i be) (.i (i : Int)) x9) H .normal (polQ.keys 20) (env20 (.i n) (.imm .arg 2 lc) (.imm .lit 1 []) (.i 0) (.sl tb 0 k none k 1) (.i be) (.i (IntKind.i64.wrap ((i : Int) + 1))) x9) H :=
  RunsTo.hin 0 60 [] fun kf hk => ⟨_, by kernel_rfl, .nil⟩
theorem rce_z_0 (n : Int) (lc : List HV) (H : Heap) (tb k : Nat) (be : Int) (i : Nat) : RunsTo Try.prog polQ 20 (sub [1, 1, 1, 1] B20) (env20 (.i n) (.imm .arg 2 lc) (.imm .lit 1 []) (.i 0) (.sl tb 0 k none k 1) (.i be) (.i (i : Int)) .undef) H .ret (polQ.keys 20) (env20 (.i n) (.imm .arg 2 lc) (.sl tb 0 k none k 1) (.i be) (.sl tb 0 k none k 1) (.i be) (.i (i : Int)) .undef) H :=
  RunsTo.hin 0 60 [] fun kf hk => ⟨_, by kernel_rfl, .nil⟩
end Go.Proofs.Ytmhfkhlamnapdaa
end
section
open Go Go.HL
namespace Go.Proofs.Ytmhfkhlamnapdaa
theorem res48 : Try.f48.results.toList = [.tmp 2] := by kernel_rfl
theorem res20 : Try.f20.results.toList = [.tmp 4, .tmp 5] := by kernel_rfl
theorem res17 : Try.f17.results.toList = [.tmp 4, .tmp 5, .tmp 6] := by kernel_rfl
def sel (le : Int) : Nat → List Int → List Int
  | _, [] => []
  | i, t :: l => if t = le then (i : Int) :: sel le (i + 1) l else sel le (i + 1) l
def cenGo : Nat → Int → List Int → List Int → Int × List Int
  | _, be, o, [] => (be, o)
  | i, be, o, t :: l => if t < be then cenGo (i + 1) t [(i : Int)] l else if t = be then cenGo (i + 1) be (o ++ [(i : Int)]) l else cenGo (i + 1) be o l
theorem foldl_min_le : ∀ (l : List Int) (m : Int), l.foldl min m ≤ m
  | [], m => Int.le_refl _
  | t :: l, m => by have := foldl_min_le l (min m t); simp only [List.foldl_cons]; omega
theorem cenGo_eq : ∀ (l : List Int) (i : Nat) (be : Int) (o : List Int), cenGo i be o l = (l.foldl min be, (if l.foldl min be = be then o else []) ++ sel (l.foldl min be) i l)
  | [], i, be, o => by simp [cenGo, sel]
  | t :: l, i, be, o => by
    rw [cenGo, sel]
    simp only [List.foldl_cons]
    by_cases h1 : t < be
    · have hm : min be t = t := by omega
      rw [if_pos h1, cenGo_eq l]
      simp only [hm]
      have := foldl_min_le l t
      rw [if_neg (show ¬ l.foldl min t = be by omega)]
      by_cases h2 : l.foldl min t = t
      · rw [if_pos h2, if_pos h2.symm]; simp
      · rw [if_neg h2, if_neg (fun h => h2 h.symm)]
    · have hm : min be t = be := by omega
      rw [if_neg h1]
      simp only [hm]
      have := foldl_min_le l be
      by_cases h2 : t = be
      · rw [if_pos h2, cenGo_eq l]
        by_cases h3 : l.foldl min be = be
        · rw [if_pos h3, if_pos (by omega)]; simp [h3, h2]
        · rw [if_neg h3, if_neg h3, if_neg (by omega)]
      · rw [if_neg h2, cenGo_eq l, if_neg (show ¬ t = l.foldl min be by omega)]
theorem sel_len (le : Int) : ∀ (l : List Int) (i : Nat), (sel le i l).length ≤ l.length
  | [], _ => Nat.le_refl _
  | t :: l, i => by
    rw [sel]
    have := sel_len le l (i + 1)
    split <;> simp <;> omega
def minL : List Int → Int
  | [] => 0
  | t :: l => l.foldl min t
theorem min_loop (l : List Int) (hl : l.length ≤ 1000) : ∀ d i m, i + d = l.length →
    RunsTo Try.prog polS 48 (sub [1, 1, 1, 0, 1, 0] B48) (env48 (.imm .arg 1 (l.map encI)) (.int .i64 0) (.int .i64 m) (.int .i64 (i : Int))) [] (.exit 0) (polS.keys 48) (env48 (.imm .arg 1 (l.map encI)) (.int .i64 0) (.int .i64 ((l.drop i).foldl min m)) (.int .i64 (l.length : Int))) [] := by
  intro d
  induction d with
  | zero =>
    intro i m hi
    have hi : i = l.length := by omega
    subst hi
    rw [List.drop_length]
    exact RunsTo.loop_out (mi_l_1 (l.map encI) m l.length (by simp)) (by simp) (by kernel_rfl) (by kernel_rfl)
  | succ d ih =>
    intro i m hi
    have hil : i < l.length := by omega
    have s := mi_l_0 (l.map encI) m i l[i] (by rw [List.length_map]; omega) (idx_imm u24b z3b (by omega) (by rw [Int.toNat_natCast, List.getElem?_map, List.getElem?_eq_getElem hil]; rfl))
    rw [wrap_succ (by omega)] at s
    rw [List.drop_eq_getElem_cons hil, List.foldl_cons]
    exact RunsTo.loop s (by kernel_rfl) (gc_eq _ rfl) (ih (i + 1) (min m l[i]) (by omega)) rfl (by kernel_rfl) (by kernel_rfl)
theorem min_call {H : Heap} {b k : Nat} {l : List Int} (hb : H[b]? = some (bI l)) (hl : l.length = k) (h0 : 0 < k) (hk : k ≤ 1000) : Cl 48 [.sl b 0 k none k 1] H (.i (minL l)) H := by
  cases l with
  | nil => simp at hl; omega
  | cons t l =>
    have a := mi_a_0 ((t :: l).map encI)
    have b1 := mi_b_1 ((t :: l).map encI) (by simp; omega)
    have c := mi_c_0 ((t :: l).map encI) t (idx_imm u24b z3b (by omega) rfl)
    have d := mi_d_0 ((t :: l).map encI) t
    have r := min_loop (t :: l) (by omega) l.length 1 t (by simp; omega)
    have z := mi_z_0 ((t :: l).map encI) (((t :: l).drop 1).foldl min t) (t :: l).length
    have sk : RunsTo Try.prog polS 48 (sub [1, 0, 1, 1] B48) (env48 (.imm .arg 1 ((t :: l).map encI)) (.i 0) .undef .undef) [] .normal (polS.keys 48) (env48 (.imm .arg 1 ((t :: l).map encI)) (.i 0) .undef .undef) [] := RunsTo.hint 1 60 [] fun kf hk => by
      obtain ⟨kf, rfl⟩ : ∃ n, kf = n + 1 := ⟨kf - 1, by omega⟩
      exact ⟨[], by kernel_rfl, Obls.nil⟩
    have t1 := RunsTo.seq b1 (RunsTo.cond (y := .tmp 7) (t := false) (c := sub [1, 0, 1] B48) (a := sub [1, 0, 1, 0] B48) (b := sub [1, 0, 1, 1] B48) (by kernel_rfl) rfl sk) (c := sub [1, 0] B48) (by kernel_rfl) (by kernel_rfl)
    have t2 := RunsTo.seq d (RunsTo.block_exit (c := sub [1, 1, 1, 0, 1] B48) r (by kernel_rfl)) (c := sub [1, 1, 1, 0] B48) (by kernel_rfl) (by kernel_rfl)
    have t3 := RunsTo.seq c (RunsTo.seq t2 z (c := sub [1, 1, 1] B48) (by kernel_rfl) (by kernel_rfl)) (c := sub [1, 1] B48) (by kernel_rfl) (by kernel_rfl)
    have t4 := RunsTo.seq a (RunsTo.seq t1 t3 (c := sub [1] B48) (by kernel_rfl) (by kernel_rfl)) (c := B48) (by kernel_rfl) (by kernel_rfl)
    refine CallsTo.pure (P := Try.prog) (pol := polS) (g := 48) (fn := Try.f48) (cd := B48) (rs := [.imm .arg 1 ((t :: l).map encI)]) (v := .i (minL (t :: l))) (r := .i (minL (t :: l))) (by kernel_rfl) (by kernel_rfl) (by kernel_rfl) (by kernel_rfl) (by kernel_rfl) ?_ t4 (by kernel_rfl) (by simp) (by simp only [resultsV, res48, mapO, resultV]; rfl) rfl
    have e : toArg H 6 (.sl b 0 k none k 1) = if k = 0 then some (.imm .arg 1 []) else match view H b 0 k k 1 with | some l => (match mapO (toArg H 5) l with | some l => some (.imm .arg 1 l) | none => none) | none => none := rfl
    have hv : view H b 0 k k 1 = some ((t :: l).map encI) := by
      simp only [view, hb, List.length_map, hl]
      rw [if_pos ⟨trivial, by omega, trivial⟩, List.drop_zero, List.take_of_length_le (by rw [List.length_map]; omega)]
    have hm : mapO (toArg H 5) ((t :: l).map encI) = some ((t :: l).map encI) := mapO_self (f := toArg H 5) (g := encI) (fun _ => rfl) _
    rw [if_neg (by omega), hv] at e
    simp only [hm] at e
    simp only [mapO, e]
abbrev reE (n : Int) (lc : List HV) (tb k : Nat) (be : Int) (i : Nat) : Env := env20 (.int .i64 n) (.imm .arg 2 lc) (.imm .lit 1 []) (.int .i64 0) (.sl tb 0 k none k 1) (.int .i64 be) (.int .i64 (i : Int)) .undef
theorem c40 {n : Nat} {l : List (Int × Int)} (h : treeOk (n : Int) l = true) {i : Nat} (hi : i < n) (H : Heap) : ∀ kf, callN Try.prog polQ (kf + 1) 40 [.int .i64 (n : Int), .imm .arg 2 (l.map encP), .int .i64 (i : Int)] H = some (.int .i64 (tm (rowE l) i (-1)), H) := fun kf => by
  have ha : toArg H 6 (.imm .arg 2 (l.map encP)) = some (.imm .arg 2 (l.map encP)) := by
    show argP (.imm .arg 2 (l.map encP)) = _
    simp only [argP, argP_pairs]
  rw [prim_call (pol := polQ) (g := 40) (F := time40) (by kernel_rfl) (rs := [.int .i64 (n : Int), .imm .arg 2 (l.map encP), .int .i64 (i : Int)]) (by simp only [mapO, ha]; rfl) (res := .int .i64 (tm (rowE l) i (-1))) (by
    simp only [time40, mapO_map decP_enc]
    rw [if_pos ⟨h, by omega, by omega⟩])]
  rfl
theorem rce_loop {n : Nat} {l : List (Int × Int)} (h : treeOk (n : Int) l = true) (hn : n ≤ 30) (ts : List Int) (hts : ts = (List.range n).map fun i : Nat => tm (rowE l) i (-1)) : ∀ d i be (o : List Int) tb (H : Heap), i + d = n → o.length ≤ i → H[tb]? = some (bI o) →
    ∃ tb' H', RunsTo Try.prog polQ 20 (sub [1, 1, 1, 0, 1, 0] B20) (reE n (l.map encP) tb o.length be i) H (.exit 0) (polQ.keys 20) (reE n (l.map encP) tb' (cenGo i be o (ts.drop i)).2.length (cenGo i be o (ts.drop i)).1 n) H' ∧ H'[tb']? = some (bI (cenGo i be o (ts.drop i)).2) := by
  have htl : ts.length = n := by rw [hts]; simp
  intro d
  induction d with
  | zero =>
    intro i be o tb H hi ho hb
    have hi : i = n := by omega
    subst hi
    rw [List.drop_of_length_le (by omega), cenGo]
    exact ⟨tb, H, RunsTo.loop_out (RunsTo.seq_out (rce_e_1 (i : Int) (l.map encP) H tb o.length be i (by omega)) (by simp) (c := sub [1, 1, 1, 0, 1, 0, 0] B20) (b := sub [1, 1, 1, 0, 1, 0, 0, 1] B20) (by kernel_rfl)) (by simp) (by kernel_rfl) (by kernel_rfl), hb⟩
  | succ d ih =>
    intro i be o tb H hi ho hb
    have hit : i < ts.length := by omega
    have hgt : ts[i] = tm (rowE l) i (-1) := by simp [hts]
    have e := rce_e_0 (n : Int) (l.map encP) H tb o.length be i (by omega)
    have f := rce_f_0 (n : Int) (l.map encP) H tb o.length be i _ H (c40 h (by omega) H)
    rw [List.drop_eq_getElem_cons hit, cenGo, hgt]
    generalize tm (rowE l) i (-1) = t at f
    have wrapUp : ∀ (tb2 k2 : Nat) (be2 : Int) (H2 : Heap) (hx : RunsTo Try.prog polQ 20 (sub [1, 1, 1, 0, 1, 0, 0, 1, 0, 0, 1] B20) (env20 (.int .i64 (n : Int)) (.imm .arg 2 (l.map encP)) (.imm .lit 1 []) (.int .i64 0) (.sl tb 0 o.length none o.length 1) (.int .i64 be) (.int .i64 (i : Int)) (.int .i64 t)) H .normal (polQ.keys 20) (env20 (.int .i64 (n : Int)) (.imm .arg 2 (l.map encP)) (.imm .lit 1 []) (.int .i64 0) (.sl tb2 0 k2 none k2 1) (.int .i64 be2) (.int .i64 (i : Int)) (.int .i64 t)) H2),
        RunsTo Try.prog polQ 20 (sub [1, 1, 1, 0, 1, 0, 0] B20) (reE n (l.map encP) tb o.length be i) H .normal (polQ.keys 20) (env20 (.int .i64 (n : Int)) (.imm .arg 2 (l.map encP)) (.imm .lit 1 []) (.int .i64 0) (.sl tb2 0 k2 none k2 1) (.int .i64 be2) (.int .i64 ((i + 1 : Nat) : Int)) (.int .i64 t)) H2 := by
      intro tb2 k2 be2 H2 hx
      have ii := rce_i_0 (n : Int) (l.map encP) H2 tb2 k2 be2 i (.int .i64 t)
      rw [wrap_succ (by omega)] at ii
      have t1 := RunsTo.block_normal (i := 1) (c := sub [1, 1, 1, 0, 1, 0, 0, 1, 0] B20) (RunsTo.seq f hx (c := sub [1, 1, 1, 0, 1, 0, 0, 1, 0, 0] B20) (by kernel_rfl) (by kernel_rfl)) (by kernel_rfl)
      exact RunsTo.seq e (RunsTo.seq t1 ii (c := sub [1, 1, 1, 0, 1, 0, 0, 1] B20) (by kernel_rfl) (by kernel_rfl)) (c := sub [1, 1, 1, 0, 1, 0, 0] B20) (by kernel_rfl) (by kernel_rfl)
    by_cases c1 : t < be
    · rw [if_pos c1]
      have g := rce_g_0 (n : Int) (l.map encP) H tb o.length be i t H.length _ c1 rfl
      have hset : (H ++ [bI []]).set H.length (bI [(i : Int)]) = H ++ [bI [(i : Int)]] := by rw [List.set_append_right _ _ (Nat.le_refl _)]; simp
      have ha := appV_ints (H := H ++ [bI []]) (b := H.length) (o := []) (xs := [(i : Int)]) (by rw [List.getElem?_append_right (Nat.le_refl _)]; simp) (by simp) (by simp)
      rw [List.nil_append, hset] at ha
      have hh := rce_h_0 (n : Int) (l.map encP) (H ++ [bI []]) H.length 0 t i t _ rfl ha
      obtain ⟨tb', H', r, h1⟩ := ih (i + 1) t [(i : Int)] H.length (H ++ [bI [(i : Int)]]) (by omega) (by simp) (by rw [List.getElem?_append_right (Nat.le_refl _)]; simp)
      have t2 := wrapUp _ _ _ _ (RunsTo.seq g hh (c := sub [1, 1, 1, 0, 1, 0, 0, 1, 0, 0, 1] B20) (by kernel_rfl) (by kernel_rfl))
      exact ⟨tb', H', RunsTo.loop t2 (by kernel_rfl) (gc_all (by simp only [bndE, bnd, bndL, List.length_append, List.length_singleton]; omega)) r rfl (by kernel_rfl) (by kernel_rfl), h1⟩
    · rw [if_neg c1]
      have g := rce_g_1 (n : Int) (l.map encP) H tb o.length be i t 0 c1
      by_cases c2 : t = be
      · rw [if_pos c2]
        have ha := appV_ints (H := H) (b := tb) (o := o) (xs := [(i : Int)]) hb (by simp; omega) (by simp)
        have hh := rce_h_0 (n : Int) (l.map encP) H tb o.length be i t _ c2 ha
        obtain ⟨tb', H', r, h1⟩ := ih (i + 1) be (o ++ [(i : Int)]) tb (H.set tb (bI (o ++ [(i : Int)]))) (by omega) (by simp; omega) (List.getElem?_set_self (lt_of_get hb))
        have t2 := wrapUp _ _ _ _ (RunsTo.seq g hh (c := sub [1, 1, 1, 0, 1, 0, 0, 1, 0, 0, 1] B20) (by kernel_rfl) (by kernel_rfl))
        rw [List.length_append, List.length_singleton] at r
        exact ⟨tb', H', RunsTo.loop t2 (by kernel_rfl) (gc_eq _ (by simp)) r rfl (by kernel_rfl) (by kernel_rfl), h1⟩
      · rw [if_neg c2]
        have hh := rce_h_1 (n : Int) (l.map encP) H tb o.length be i t c2
        obtain ⟨tb', H', r, h1⟩ := ih (i + 1) be o tb H (by omega) (by omega) hb
        have t2 := wrapUp _ _ _ _ (RunsTo.seq g hh (c := sub [1, 1, 1, 0, 1, 0, 0, 1, 0, 0, 1] B20) (by kernel_rfl) (by kernel_rfl))
        exact ⟨tb', H', RunsTo.loop t2 (by kernel_rfl) (gc_eq _ rfl) r rfl (by kernel_rfl) (by kernel_rfl), h1⟩
def timesL (n : Nat) (l : List (Int × Int)) : List Int := (List.range n).map fun i : Nat => tm (rowE l) i (-1)
def centers20 : List HV → Option HV
  | [.int .i64 n, .imm .arg 2 lc] => match mapO decP lc with | some l => if treeOk n l = true then some (.tuple [.own 1 ((cenGo 0 n [] (timesL n.toNat l)).2.map encI), .int .i64 (cenGo 0 n [] (timesL n.toNat l)).1]) else none | none => none
  | _ => none
theorem res_out {H : Heap} {b k : Nat} {o : List Int} (hb : H[b]? = some (bI o)) (hk : o.length = k) (vs : List Int) : toRes H false (.tuple (.sl b 0 k none k 1 :: vs.map encI)) = some (.tuple (.own 1 (o.map encI) :: vs.map encI)) := by
  have hi : ∀ vs : List Int, (vs.map encI).flatMap (fun v => (cellsOf v).flatMap (owned H false)) = [] := by
    intro vs
    rw [List.flatMap_eq_nil_iff]
    intro v hv
    obtain ⟨z, _, rfl⟩ := List.mem_map.1 hv
    rfl
  have ho : ownedAll H false (.tuple (.sl b 0 k none k 1 :: vs.map encI)) = [b] := by
    have e1 : (cellsOf (.sl b 0 k none k 1)).flatMap (owned H false) = [b] := by
      simp only [cellsOf, List.flatMap_cons, List.flatMap_nil, owned, hb]
      rfl
    simp only [ownedAll, List.flatMap_cons, hi, e1, List.append_nil]
  have hr := resCell_sl (H := H) (no := [b]) (b := b) (k := 1) (m := k) (cap := none) (els := o.map encI) hb (by simpa using hk) (mapO_self (fun r => frz_int 4 r) _)
  have hm : mapO (resVal H [b] false) (vs.map encI) = some (vs.map encI) := mapO_self (f := resVal H [b] false) (g := encI) (fun _ => rfl) vs
  have hr1 : resVal H [b] false (.sl b 0 k none k 1) = some (.own 1 (o.map encI)) := by simp only [resVal, hr]
  simp only [toRes, ho, List.nodup_cons, List.not_mem_nil, not_false_eq_true, List.nodup_nil, and_self, if_true, mapO, hr1, hm]
theorem centers20_ok : PrimOk Try.prog 20 centers20 := by
  refine primOk_pure (pol := polQ) (fn := Try.f20) (cd := B20) follows_mixed soundQ (by kernel_rfl) (by kernel_rfl) (fnok polQ.prim _ _ (by kernel_rfl)) (by kernel_rfl) ?_
  intro args res h
  unfold centers20 at h
  split at h
  · rename_i n lc
    split at h
    · rename_i l hl
      split at h
      · rename_i hg
        cases h
        rw [mapO_inv decP_inv hl]
        obtain ⟨m, rfl⟩ : ∃ m : Nat, n = (m : Int) := ⟨n.toNat, by
          rw [treeOk, Bool.and_eq_true, decide_eq_true_eq] at hg
          omega⟩
        obtain ⟨⟨hn, _⟩, _, _⟩ := tree_rtd hg
        rw [Int.toNat_natCast]
        have a := rce_a_0 (m : Int) (l.map encP) []
        have b := rce_b_0 (m : Int) (l.map encP) [] 0 [bI []] rfl
        have c := rce_c_0 (m : Int) (l.map encP) [bI []] 0
        have d := rce_d_0 (m : Int) (l.map encP) [bI []] 0
        obtain ⟨tb, H', r, h1⟩ := rce_loop hg (by omega) (timesL m l) rfl m 0 (m : Int) [] 0 [bI []] (by omega) (by simp) rfl
        rw [List.drop_zero] at r h1
        have z := rce_z_0 (m : Int) (l.map encP) H' tb (cenGo 0 (m : Int) [] (timesL m l)).2.length (cenGo 0 (m : Int) [] (timesL m l)).1 m
        have t1 := RunsTo.seq d (RunsTo.block_exit (c := sub [1, 1, 1, 0, 1] B20) r (by kernel_rfl)) (c := sub [1, 1, 1, 0] B20) (by kernel_rfl) (by kernel_rfl)
        have t2 := RunsTo.seq c (RunsTo.seq t1 z (c := sub [1, 1, 1] B20) (by kernel_rfl) (by kernel_rfl)) (c := sub [1, 1] B20) (by kernel_rfl) (by kernel_rfl)
        have t3 := RunsTo.seq a (RunsTo.seq b t2 (c := sub [1] B20) (by kernel_rfl) (by kernel_rfl)) (c := B20) (by kernel_rfl) (by kernel_rfl)
        exact ⟨_, _, _, _, t3, by simp, by simp only [resultsV, res20, mapO, resultV]; rfl, res_out h1 rfl [(cenGo 0 (m : Int) [] (timesL m l)).1]⟩
      · cases h
    · cases h
  · cases h
end Go.Proofs.Ytmhfkhlamnapdaa
end
