/- A part of the proof. -/
import Derived.Test.YtmhfkhlamnapdaaP9D
set_option linter.unusedVariables false
set_option linter.unusedSimpArgs false
section
open Go Go.HL
namespace Go.Proofs.Ytmhfkhlamnapdaa
theorem SO.ext {ob t : Nat} {R : Rds} {H H' : Heap} (h : SO ob t R H) (hs : ∀ k, ob ≤ k → k ≤ ob + t → H'[k]? = H[k]?) : SO ob t R H' := by
  obtain ⟨mx, h1, h2⟩ := h.out
  refine ⟨⟨mx, h1, by rw [hs ob (Nat.le_refl _) (by omega)]; exact h2⟩, fun j r hj => ?_, h.len⟩
  have := lt_of_get hj
  rw [h.len] at this
  rw [hs _ (by omega) (by omega)]
  exact h.rows j r hj
theorem relayOwn_law (a : Int) (l : List Int) (b : Int) : ∃ E H, RunsTo Try.prog pol9 9 B9 (args0 [.int .i64 a, .imm .arg 1 (l.map encI), .int .i64 b]) [] .ret (pol9.keys 9) E H ∧ E.get 6 = .bool true := by
  obtain ⟨h0, h1⟩ := modW_bounds a 29 (by omega) (by omega)
  have a1 := ow_a_0 a (l.map encI) b
  have b1 := ow_b_0 a (l.map encI) b _ (oo22 a 29 (by omega) _)
  obtain ⟨n, hn⟩ : ∃ n : Nat, (n : Int) = 2 + modW a 29 := ⟨(2 + modW a 29).toNat, by omega⟩
  have hw : IntKind.i64.wrap (2 + modW a 29) = (n : Int) := by rw [wrapI64]; omega
  rw [hw] at b1
  have hMk := tameAt_ok l n (by omega)
  have c1 := ow_c_0 (n : Int) (l.map encI) b (n - 1) _ (oo23 l (by omega) _)
  obtain ⟨f0, f1⟩ := modW_bounds b (n : Int) (by omega) (by omega)
  have hlen := tl_len (tameAt l) n
  have htr := tl_tree hMk (by omega)
  have hv := tl_valid hMk
  generalize tl (tameAt l) n = L at c1 hlen htr hv
  have d1 := ow_d_0 (n : Int) (l.map encI) b (n - 1) (L.map encP) (n - 1) (L.map encP) (oo16 (l := L) (H := [.arr 2 (L.map encP) true 0]) hlen (by omega) rfl)
  have e1 := ow_e_0 (n : Int) (l.map encI) b (n - 1) (L.map encP) (n - 1) (L.map encP) _ (oo22 b n (by omega) _)
  obtain ⟨x, hx⟩ : ∃ x : Nat, modW b (n : Int) = (x : Int) := ⟨(modW b (n : Int)).toNat, by omega⟩
  rw [hx] at e1 f0 f1
  have hxn : x < n := by omega
  have hS := tree_spread htr hxn
  have hsp : spreadF (n : Int) L (x : Int) = (spR L x, 0) := by rw [spreadF, if_pos ⟨htr, by omega, by omega⟩]
  obtain ⟨t, ht⟩ : ∃ t, (spR L (x : Int)).length = t := ⟨_, rfl⟩
  have hsm := hS.small
  have htl := spR_len L (x : Int)
  have ht9 : t ≤ 1000 := by omega
  have hsh : ∀ r, r ∈ spR L (x : Int) → r.length ≤ 1000 := fun r hr => by
    rw [hS.eq] at hr
    obtain ⟨j, _, rfl⟩ := List.mem_map.1 hr
    have h1 : (rdOf (evR L x) j).length ≤ (evR L x).length := by
      rw [rdOf, List.length_map]; exact List.length_filter_le _ _
    have h2 := hS.len
    omega
  have hfar : pfarF (n : Int) L (x : Int) = (farF (adjOf n L) x, 0) := by rw [pfarF, if_pos ⟨htr, by omega, by omega⟩, Int.toNat_natCast, Int.toNat_natCast]
  have hcen : centersF (n : Int) L = .tuple [.own 1 ((sel (minL (timesL n L)) 0 (timesL n L)).map encI), .int .i64 (minL (timesL n L)), .int .i64 0] := by rw [centersF, if_pos htr, Int.toNat_natCast]
  have hcs := centers_same htr
  have hol : (sel (minL (timesL n L)) 0 (timesL n L)).length ≤ 1000 := by
    have h1 := sel_len (minL (timesL n L)) (timesL n L) 0
    have : (timesL n L).length = n := by simp [timesL]
    omega
  have hfl : (farF (adjOf n L) x).length ≤ 1000 := by
    have : (farF (adjOf n L) x).length = n := by rw [farF, bfs_len]; exact (adjOf_inv hv).len
    omega
  generalize sel (minL (timesL n L)) 0 (timesL n L) = o at hcen hcs hol
  generalize minL (timesL n L) = le at hcen hcs
  generalize farF (adjOf n L) x = fo at hfar hfl
  have hHb0 : ([.arr 2 (L.map encP) true 0, .arr 2 (L.map encP) true 0] : Heap)[0]? = some (.arr 2 (L.map encP) true 0) := rfl
  have hHb1 : ([.arr 2 (L.map encP) true 0, .arr 2 (L.map encP) true 0] : Heap)[1]? = some (.arr 2 (L.map encP) true 0) := rfl
  have hHbl : ([.arr 2 (L.map encP) true 0, .arr 2 (L.map encP) true 0] : Heap).length = 2 := rfl
  generalize hHb : ([.arr 2 (L.map encP) true 0, .arr 2 (L.map encP) true 0] : Heap) = Hb at e1 hHb0 hHb1 hHbl
  obtain ⟨H1, g31, s1, l1, k1⟩ := oo31 (l := L) (H := Hb) (m := n - 1) hlen hHb0 hsp ht
  rw [hHbl] at g31 s1 l1 k1
  have h10 : H1[0]? = some (.arr 2 (L.map encP) true 0) := by rw [k1 0 (by omega)]; exact hHb0
  have h11 : H1[1]? = some (.arr 2 (L.map encP) true 0) := by rw [k1 1 (by omega)]; exact hHb1
  have p5 := ow_f_0 (n : Int) (l.map encI) (x : Int) (n - 1) (n - 1) Hb 2 t 0 H1 g31
  have p6 := ow_g_0 (n : Int) (l.map encI) (x : Int) (n - 1) (n - 1) H1 2 t 0 H1.length fo.length 0 _ (oo25 (l := L) hlen h10 hfar)
  have h20 : (H1 ++ [bI fo])[0]? = some (.arr 2 (L.map encP) true 0) := by rw [List.getElem?_append_left (by omega)]; exact h10
  have p7 := ow_h_0 (n : Int) (l.map encI) (x : Int) (n - 1) (n - 1) (H1 ++ [bI fo]) 2 t 0 H1.length fo.length 0 (H1 ++ [bI fo]).length o.length le 0 _ (oo17 (l := L) hlen h20 hcen)
  have l2 : (H1 ++ [bI fo]).length = H1.length + 1 := by simp
  have hH3a : ∀ k, k < H1.length → (H1 ++ [bI fo] ++ [bI o])[k]? = H1[k]? := fun k hk => by rw [List.append_assoc, List.getElem?_append_left hk]
  have hH3f : (H1 ++ [bI fo] ++ [bI o])[H1.length]? = some (bI fo) := by rw [List.getElem?_append_left (by simp), List.getElem?_append_right (Nat.le_refl _)]; simp
  have hH3c : (H1 ++ [bI fo] ++ [bI o])[H1.length + 1]? = some (bI o) := by rw [List.getElem?_append_right (by simp)]; simp
  have l3 : (H1 ++ [bI fo] ++ [bI o]).length = H1.length + 2 := by simp
  rw [l2] at p7
  generalize H1 ++ [bI fo] ++ [bI o] = H3 at p7 hH3a hH3f hH3c l3
  have s3 : SO 2 t (spR L x) H3 := s1.ext fun k _ hk => hH3a k (by omega)
  have p8 := ow_i_0 (n : Int) (l.map encI) (x : Int) (n - 1) (n - 1) H3 2 t 0 H1.length fo.length 0 (H1.length + 1) o.length le 0
  obtain ⟨H4, r1, l4, k4⟩ := ow_out (n := (n : Int)) (la := l.map encI) (x := (x : Int)) (m := n - 1) (t := t) (fb := H1.length) (q := fo.length) (cb := H1.length + 1) (u := o.length) ht9 t 0 (spR L x) H3 (by omega) s3 hsh
  have r1' := RunsTo.loop_in (e0 := oaE (n : Int) (l.map encI) (x : Int) (n - 1) t H1.length fo.length (H1.length + 1) o.length (.int .i64 0) .undef) r1 (b := sub [1, 1, 1, 1, 1, 1, 1, 1, 0, 1, 0, 0] B9) (by kernel_rfl) (by kernel_rfl) (by kernel_rfl)
  have t8 := RunsTo.seq p8 (RunsTo.block_exit (c := sub [1, 1, 1, 1, 1, 1, 1, 1, 0, 1] B9) r1' (by kernel_rfl)) (c := sub [1, 1, 1, 1, 1, 1, 1, 1, 0] B9) (by kernel_rfl) (by kernel_rfl)
  obtain ⟨mx, hlit⟩ := lit_two (H := H4) (fb := H1.length) (q := fo.length) (cb := H1.length + 1) (u := o.length)
  have p9 := ow_p_0 (n : Int) (l.map encI) (x : Int) (n - 1) (n - 1) H4 2 t 0 H1.length fo.length 0 (H1.length + 1) o.length le 0 t 0 0 0 H4.length _ hlit
  have hH5a : ∀ k, k < H4.length → (H4 ++ [Blk.arr 1 [.sl H1.length 0 fo.length none fo.length 1, .sl (H1.length + 1) 0 o.length none o.length 1] true mx])[k]? = H4[k]? := fun k hk => by rw [List.getElem?_append_left hk]
  have hH5b : (H4 ++ [Blk.arr 1 [.sl H1.length 0 fo.length none fo.length 1, .sl (H1.length + 1) 0 o.length none o.length 1] true mx])[H4.length]? = some (Blk.arr 1 [.sl H1.length 0 fo.length none fo.length 1, .sl (H1.length + 1) 0 o.length none o.length 1] true mx) := by rw [List.getElem?_append_right (Nat.le_refl _)]; simp
  have l5 : (H4 ++ [Blk.arr 1 [.sl H1.length 0 fo.length none fo.length 1, .sl (H1.length + 1) 0 o.length none o.length 1] true mx]).length = H4.length + 1 := by simp
  generalize H4 ++ [Blk.arr 1 [.sl H1.length 0 fo.length none fo.length 1, .sl (H1.length + 1) 0 o.length none o.length 1] true mx] = H5 at p9 hH5a hH5b l5
  have p10 := ow_q_0 (n : Int) (l.map encI) (x : Int) (n - 1) (n - 1) H5 2 t 0 H1.length fo.length 0 (H1.length + 1) o.length le 0 t 0 0 0 H4.length
  have hAM : AM H1.length fo.length (H1.length + 1) o.length H4.length H5 := ⟨⟨fo, by rw [hH5a _ (by omega), k4 _ (by omega)]; exact hH3f, rfl⟩, ⟨o, by rw [hH5a _ (by omega), k4 _ (by omega)]; exact hH3c, rfl⟩, ⟨mx, hH5b⟩⟩
  obtain ⟨H6, r2, l6, k6⟩ := ow_out2 (n := (n : Int)) (la := l.map encI) (x := (x : Int)) (m := n - 1) (fb := H1.length) (q := fo.length) (cb := H1.length + 1) (u := o.length) (ab := H4.length) hfl hol (by omega) (by omega) (by omega) 2 0 H5 (by omega) hAM
  have r2' := RunsTo.loop_in (e0 := env9 (.int .i64 (n : Int)) (.imm .arg 1 (l.map encI)) (.int .i64 (x : Int)) (.bool false) (.sl 0 0 (n - 1) none (n - 1) 2) (.sl 1 0 (n - 1) none (n - 1) 2) (.sl 2 0 t none t 1) (.int .i64 0) (.sl H1.length 0 fo.length none fo.length 1) (.int .i64 0) (.sl (H1.length + 1) 0 o.length none o.length 1) (.int .i64 0) (.int .i64 (t : Int)) .undef (.sl H4.length 0 2 (some 2) 2 1) (.int .i64 0) .undef .undef .undef .undef .undef .undef) r2 (b := sub [1, 1, 1, 1, 1, 1, 1, 1, 1, 1, 0, 1, 0, 0] B9) (by kernel_rfl) (by kernel_rfl) (by kernel_rfl)
  have t10 := RunsTo.seq p10 (RunsTo.block_exit (c := sub [1, 1, 1, 1, 1, 1, 1, 1, 1, 1, 0, 1] B9) r2' (by kernel_rfl)) (c := sub [1, 1, 1, 1, 1, 1, 1, 1, 1, 1, 0] B9) (by kernel_rfl) (by kernel_rfl)
  have low6 : ∀ k, k < 2 → H6[k]? = some (.arr 2 (L.map encP) true 0) := fun k hk => by
    rw [k6 k (by omega) (by omega), hH5a k (by omega), k4 k (by omega), hH3a k (by omega)]
    match k, hk with
    | 0, _ => exact h10
    | 1, _ => exact h11
  obtain ⟨H7, g31', s7, l7, k7⟩ := oo31 (l := L) (H := H6) (m := n - 1) hlen (low6 0 (by omega)) hsp ht
  have p11 := ow_x_0 (n : Int) (l.map encI) (x : Int) (n - 1) (n - 1) H6 0 0 0 H4.length 2 0 0 0 H6.length t 0 H7 g31'
  have h70 : H7[0]? = some (.arr 2 (L.map encP) true 0) := by rw [k7 0 (by omega)]; exact low6 0 (by omega)
  have h71 : H7[1]? = some (.arr 2 (L.map encP) true 0) := by rw [k7 1 (by omega)]; exact low6 1 (by omega)
  have p12 := ow_y_0 (n : Int) (l.map encI) (x : Int) (n - 1) (n - 1) H7 0 0 0 H4.length 2 0 0 0 H6.length t 0 H7.length o.length le 0 _ (oo17 (l := L) hlen h70 hcen)
  have h81 : (H7 ++ [bI o])[1]? = some (.arr 2 (L.map encP) true 0) := by rw [List.getElem?_append_left (by omega)]; exact h71
  have p13 := ow_aa_0 (n : Int) (l.map encI) (x : Int) (n - 1) (n - 1) (H7 ++ [bI o]) 0 0 0 H4.length 2 0 0 0 H6.length t 0 H7.length o.length le 0 (H7 ++ [bI o]).length o.length le _ (oo20 (l := L) hlen h81 htr hcs)
  have k9 : ∀ k, k < H7.length → (H7 ++ [bI o] ++ [bI o])[k]? = H7[k]? := fun k hk => by rw [List.append_assoc, List.getElem?_append_left hk]
  have h9d : (H7 ++ [bI o] ++ [bI o])[H7.length]? = some (bI o) := by rw [List.getElem?_append_left (by simp), List.getElem?_append_right (Nat.le_refl _)]; simp
  have h9w : (H7 ++ [bI o] ++ [bI o])[(H7 ++ [bI o]).length]? = some (bI o) := by rw [List.getElem?_append_right (Nat.le_refl _)]; simp
  have s9 : SO H6.length t (spR L x) (H7 ++ [bI o] ++ [bI o]) := s7.ext fun k _ hk => k9 k (by omega)
  have c30 := oo30 (l := L) (H := H7 ++ [bI o] ++ [bI o]) hlen (by omega) (by rw [k9 1 (by omega)]; exact h71) s9 (n := n) (by omega) ht9 hsh (x := (x : Int)) (by omega)
  have hok : completeF n L (x : Int) (spR L x) = true := hS.ok
  rw [hok] at c30
  have p14 := ow_z_0 (n : Int) (l.map encI) (x : Int) (n - 1) (n - 1) (H7 ++ [bI o] ++ [bI o]) 0 0 0 H4.length 2 0 0 0 H6.length t 0 H7.length o.length le 0 (H7 ++ [bI o]).length o.length le _ _ _ rfl rfl rfl rfl rfl (oo32 (l := L) hlen (by omega) (by rw [k9 0 (by omega)]; exact h70) (by rw [k9 1 (by omega)]; exact h71)) c30 (oo21 hol h9d h9w)
  have t13 := RunsTo.seq p12 (RunsTo.seq p13 p14 (c := sub [1, 1, 1, 1, 1, 1, 1, 1, 1, 1, 1, 1, 1] B9) (by kernel_rfl) (by kernel_rfl)) (c := sub [1, 1, 1, 1, 1, 1, 1, 1, 1, 1, 1, 1] B9) (by kernel_rfl) (by kernel_rfl)
  have t11 := RunsTo.seq t10 (RunsTo.seq p11 t13 (c := sub [1, 1, 1, 1, 1, 1, 1, 1, 1, 1, 1] B9) (by kernel_rfl) (by kernel_rfl)) (c := sub [1, 1, 1, 1, 1, 1, 1, 1, 1, 1] B9) (by kernel_rfl) (by kernel_rfl)
  have t9 := RunsTo.seq t8 (RunsTo.seq p9 t11 (c := sub [1, 1, 1, 1, 1, 1, 1, 1, 1] B9) (by kernel_rfl) (by kernel_rfl)) (c := sub [1, 1, 1, 1, 1, 1, 1, 1] B9) (by kernel_rfl) (by kernel_rfl)
  have t6 := RunsTo.seq p6 (RunsTo.seq p7 t9 (c := sub [1, 1, 1, 1, 1, 1, 1] B9) (by kernel_rfl) (by kernel_rfl)) (c := sub [1, 1, 1, 1, 1, 1] B9) (by kernel_rfl) (by kernel_rfl)
  have t5 := RunsTo.seq p5 t6 (c := sub [1, 1, 1, 1, 1] B9) (by kernel_rfl) (by kernel_rfl)
  have t4 := RunsTo.seq e1 t5 (c := sub [1, 1, 1, 1] B9) (by kernel_rfl) (by kernel_rfl)
  rw [← hHb] at t4
  have t3 := RunsTo.seq c1 (RunsTo.seq d1 t4 (c := sub [1, 1, 1] B9) (by kernel_rfl) (by kernel_rfl)) (c := sub [1, 1] B9) (by kernel_rfl) (by kernel_rfl)
  exact ⟨_, _, RunsTo.seq a1 (RunsTo.seq b1 t3 (c := sub [1] B9) (by kernel_rfl) (by kernel_rfl)) (c := B9) (by kernel_rfl) (by kernel_rfl), rfl⟩
end Go.Proofs.Ytmhfkhlamnapdaa
end
section
namespace Go.HL
open Go.ChangeShapes Go.WideShapes Go.ChangeAt Go.RowKit Go.Deep
theorem okNil (w : World) (r : Nat) : okOf Ctx.nil w.heap.size false r := by
  refine ⟨fun hM => ?_, by simp⟩
  obtain ⟨b, y, h1, _, _⟩ := M_iff.1 hM
  simp [Ctx.nil] at h1
theorem cell_lt {w : World} {a : Addr} {v : Value} (h : w.cell? a = some v) : a.block < w.heap.size := by
  rcases Nat.lt_or_ge a.block w.heap.size with hl | hl
  · exact hl
  · have : w.heap[a.block]? = none := by simp [hl]
    simp [World.cell?, this] at h
end Go.HL
end
section
namespace Go.HL
open Go.ChangeShapes Go.WideShapes Go.ChangeAt Go.RowKit Go.Deep
theorem arg_ints_ok {H : Type} {enc : TypeId × Value → H} {P : Program} {W : World} {base : Nat} {t q : TypeId} {v : Value} {d : DataW H} {ps : List MemPlace} (ht : P.underlying t = some (.slice q)) (hq : P.underlying q = some (.int .i64)) (cq : P.cellsOf q = 1)
    (hval : Value.okWide P W .any base t v) (hd : DataW.Trod enc P W 0 (fun _ => true) true t v d ps) : ∃ l : List Int, V W (okOf Ctx.nil W.heap.size) Ctx.nil (.imm .arg 1 (l.map encI)) v := by
  obtain ⟨a, len, cap, rfl⟩ := okWide_slice ht hval
  obtain ⟨fuel, hf⟩ := hd
  rcases open_slice ht hf with ⟨h0, _⟩ | ⟨a', len', cap', m, n, D, Pl, h0, hb, hl, hm, hmm, hx, hel⟩
  · simp [Value.cells] at h0
    obtain ⟨rfl, rfl, rfl⟩ := h0
    exact ⟨[], .imm .arg 1 [] none 0 (fun _ => .bool false) (by simp) (by simp) (by simp) (by simp) (by simp) (by simp)⟩
  · simp [Value.cells] at h0
    obtain ⟨rfl, rfl, rfl⟩ := h0
    have hlm : len ≤ m := by rw [hmm]; split <;> omega
    have each : ∀ i, i < len → ∃ z : Int, W.cell? (a'.add i) = some (.int .i64 z) := by
      intro i hi
      obtain ⟨cs', h1, h2⟩ := hel i (by omega)
      rw [cq] at h1
      obtain ⟨_, hlen, hcell⟩ := World.cells?_some h1
      match cs', hlen with
      | [v0], _ =>
        obtain ⟨z0, e0, _, _⟩ := DataW.trod_int hq h2
        simp at e0
        subst e0
        have c0 := hcell 0 (by omega)
        rw [add_add] at c0
        exact ⟨z0, by simpa using c0⟩
    obtain ⟨f, hf⟩ := choose_lt each
    refine ⟨(List.range len).map f, ?_⟩
    have hlen : (((List.range len).map f).map encI).length = len := by simp
    have key := V.imm (w := W) (ok := okOf Ctx.nil W.heap.size) (c := Ctx.nil) .arg 1 (((List.range len).map f).map encI) (some a') cap (fun j => .int .i64 (f j))
      (by rw [hlen]; exact hl) (by simp) ?_ ?_ ?_ ?_
    · rw [hlen] at key; exact key
    · intro hne
      have h0 : 0 < len := by
        rcases Nat.eq_zero_or_pos len with h | h
        · subst h; simp at hne
        · exact h
      obtain ⟨b, off, spot⟩ := a'
      have hspot : spot = none := by simpa [Addr.add] using World.cell?_spot (hf 0 h0)
      subst hspot
      refine ⟨b, off, rfl, by simpa [Addr.add] using cell_lt (hf 0 h0), okNil W b, fun j hj => ?_⟩
      rw [hlen] at hj
      have c0 := hf j (by omega)
      rw [add_plain] at c0
      exact c0
    · intro v hv
      obtain ⟨p, _, rfl⟩ := List.mem_map.1 hv
      rfl
    · intro v hv
      obtain ⟨p, _, rfl⟩ := List.mem_map.1 hv
      rfl
    · intro i v j x hi hj
      have hil : i < len := by have := lt_of_get hi; rw [hlen] at this; exact this
      have : v = encI (f i) := by
        rw [List.getElem?_map, List.getElem?_map, List.getElem?_range hil] at hi
        simpa using hi.symm
      subst this
      have hjx : j < 1 := lt_of_get hj
      match j, hjx, hj with
      | 0, _, hj =>
        simp [encI, cellsOf] at hj
        subst hj
        have e1 : i * 1 + 0 = i := by omega
        rw [e1]
        exact V.int _ _
end Go.HL
end
