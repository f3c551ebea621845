/- A part of the proof: X14d. -/
import Derived.Test.YtmhfkhlamnapdaaX14c
set_option linter.unusedVariables false
set_option linter.unusedSimpArgs false
open Go Go.HL Go.Gossip
namespace Go.Proofs.Ytmhfkhlamnapdaa
theorem u22f (x n : Int) (hn : 0 < n ∧ n < 9223372036854775808) (H : Heap) : ∀ k, callN Try.prog polU (k + 1) 22 [.int .i64 x, .int .i64 n] H = some (.int .i64 (modW x n), H) := fun k => by
  rw [prim_call (pol := polU) (g := 22) (F := modF) (by kernel_rfl) (rs := [.int .i64 x, .int .i64 n]) rfl (res := .int .i64 (modW x n)) (by simp only [modF]; rw [if_pos hn])]; rfl
theorem u45 (l : List (Int × Int)) (n : Int) (hn : 0 < n ∧ n < 9223372036854775808) : ∀ k, callN Try.prog polU (k + 1) 45 [.imm .arg 2 (l.map encP), .int .i64 n] [] = some (.sl 0 0 (talkedL n l).length none (talkedL n l).length 2, [.arr 2 ((talkedL n l).map encP) true 0]) := fun k => by
  rw [prim_call (pol := polU) (g := 45) (F := talked45) (by kernel_rfl) (rs := [.imm .arg 2 (l.map encP), .int .i64 n]) (by simp only [mapO, arg_pairs']; rfl) (res := .own 2 ((talkedL n l).map encP)) (by simp only [talked45, mapO_map decP_enc]; rw [if_pos hn])]
  simp only [recv, recvVal, recvCell, pairs_any'', List.length_map]
  rfl
theorem u33c (n : Int) (hn : 1 ≤ n ∧ n ≤ 20) (H : Heap) : ∀ k, callN Try.prog polU (k + 1) 33 [.int .i64 n] H = some (.tuple [.int .i64 (fewestN n), .int .i64 0], H) := fun k => by
  rw [prim_call (pol := polU) (g := 33) (F := fewestF) (by kernel_rfl) (rs := [.int .i64 n]) rfl rfl, if_pos hn]; rfl
theorem relayTurned_law (n0 : Int) (l0 : List (Int × Int)) (by_ : Int) : ∃ E H, RunsTo Try.prog polU 14 B14 (args0 [.int .i64 n0, .imm .arg 2 (l0.map encP), .int .i64 by_]) [] .ret (polU.keys 14) E H ∧ E.get 6 = .bool true := by
  have a1 := lt_a_0 n0 (l0.map encP) by_
  have b1 := lt_b_0 n0 (l0.map encP) by_ _ (u22f n0 19 (by omega) [])
  have hb19 := modW_bounds n0 19 (by omega) (by omega)
  obtain ⟨m, hm⟩ : ∃ m : Nat, IntKind.i64.wrap (2 + modW n0 19) = (m : Int) := ⟨(2 + modW n0 19).toNat, by rw [wrapI64]; omega⟩
  have hm2 : 2 ≤ m ∧ m ≤ 20 := by rw [wrapI64] at hm; omega
  rw [hm] at b1
  have hmb : 0 < (m : Int) ∧ (m : Int) < 9223372036854775808 := by omega
  have c1 := lt_c_0 (m : Int) (l0.map encP) by_ _ _ (u45 l0 (m : Int) hmb)
  obtain ⟨hv, hlen⟩ := talked_valid (m := m) (by omega) hm2.2 l0
  generalize talkedL (m : Int) l0 = x at c1 hv hlen
  have d1 := lt_d_0 (m : Int) (l0.map encP) by_ x.length (x.map encP)
  have e1 := lt_e_0 (m : Int) (l0.map encP) by_ x.length (x.map encP) 0 [] 0 []
  have hw : IntKind.i64.wrap ((x.length : Int) - 1) = (x.length : Int) - 1 := by rw [wrapI64]; omega
  rw [hw] at e1
  have l1 := back_loop (m : Int) (l0.map encP) by_ x hlen [] 0 x.length (Nat.le_refl _)
  rw [List.drop_length] at l1
  have f1 := lt_f_0 (m : Int) (l0.map encP) by_ x.length (x.map encP) x.reverse.length (x.reverse.map encP) 0 [] (-1)
  have l2 := ren_loop (m : Int) hmb (l0.map encP) by_ x hlen x.reverse x.length 0 (by omega)
  rw [List.take_zero] at l2
  have l2' := RunsTo.loop_in (e0 := tE (m : Int) (l0.map encP) by_ x.length x.reverse.length 0 (.int .i64 (-1)) (.int .i64 0) .undef .undef .undef .undef .undef .undef .undef .undef) l2 (b := sub [1, 1, 1, 1, 1, 0, 1, 0, 0] B14) (by kernel_rfl) (by kernel_rfl) (by kernel_rfl)
  have hby := modW_bounds by_ (m : Int) (by omega) (by omega)
  obtain ⟨r, hr⟩ : ∃ r : Nat, modW by_ (m : Int) = (r : Int) := ⟨(modW by_ (m : Int)).toNat, by omega⟩
  have hrm : r < m := by omega
  rw [hr] at l2'
  have hv2 : ∀ p ∈ x.map (renP m r), validB (m : Int) p = true := fun p hp => by
    obtain ⟨q, hq, rfl⟩ := List.mem_map.1 hp
    exact (ren_valid hm2.2 hrm (hv q hq)).1
  have hbk := enough_back (by omega) hm2.2 x hv (by omega)
  have hrn := enough_ren (by omega) hm2.2 hrm x hv (by omega)
  have hfew := fun h => enough_fewest (by omega) hm2.2 x hv (by omega) h
  have hf1 : 1 ≤ fewestN (m : Int) := by
    unfold fewestN
    by_cases h4 : m < 4
    · have : m = 2 ∨ m = 3 := by omega
      rcases this with rfl | rfl <;> decide
    · rw [if_neg (by omega)]; omega
  -- the lists
  generalize hX : x.reverse = xb at l1 f1 l2' hbk
  have hxb : xb.length = x.length := by rw [← hX]; simp
  generalize hY : x.map (renP (m : Int) (r : Int)) = xr at l2' hrn hv2
  have hxr : xr.length = x.length := by rw [← hY]; simp
  have up : ∀ E H, RunsTo Try.prog polU 14 (sub [1, 1, 1, 1, 1, 1] B14) (tE (m : Int) (l0.map encP) by_ x.length xb.length x.length .undef (.int .i64 (x.length : Int)) .undef .undef .undef .undef .undef .undef .undef .undef) [bPs x, bPs xb, bPs xr] .ret (polU.keys 14) E H → RunsTo Try.prog polU 14 B14 (args0 [.int .i64 n0, .imm .arg 2 (l0.map encP), .int .i64 by_]) [] .ret (polU.keys 14) E H := by
    intro E H t
    have k2 := RunsTo.seq f1 (RunsTo.block_exit (c := sub [1, 1, 1, 1, 1, 0, 1] B14) l2' (by kernel_rfl)) (c := sub [1, 1, 1, 1, 1, 0] B14) (by kernel_rfl) (by kernel_rfl)
    have t1 := RunsTo.seq k2 t (c := sub [1, 1, 1, 1, 1] B14) (by kernel_rfl) (by kernel_rfl)
    have k1 := RunsTo.seq e1 (RunsTo.block_exit (c := sub [1, 1, 1, 1, 0, 1] B14) l1 (by kernel_rfl)) (c := sub [1, 1, 1, 1, 0] B14) (by kernel_rfl) (by kernel_rfl)
    have t2 := RunsTo.seq k1 t1 (c := sub [1, 1, 1, 1] B14) (by kernel_rfl) (by kernel_rfl)
    have t3 := RunsTo.seq d1 t2 (c := sub [1, 1, 1] B14) (by kernel_rfl) (by kernel_rfl)
    have t4 := RunsTo.seq c1 t3 (c := sub [1, 1] B14) (by kernel_rfl) (by kernel_rfl)
    have t5 := RunsTo.seq b1 t4 (c := sub [1] B14) (by kernel_rfl) (by kernel_rfl)
    exact RunsTo.seq a1 t5 (c := B14) (by kernel_rfl) (by kernel_rfl)
  have cb : ∀ (k : Nat), callN Try.prog polU (k + 1) 43 [.int .i64 (m : Int), .sl 1 0 xb.length none xb.length 2] [bPs x, bPs xb, bPs xr] = some (.int .i64 (enoughF (m : Int) xb), [bPs x, bPs xb, bPs xr]) := u43 _ xb 1 _ rfl
  have cr : ∀ (k : Nat), callN Try.prog polU (k + 1) 43 [.int .i64 (m : Int), .sl 2 0 x.length none x.length 2] [bPs x, bPs xb, bPs xr] = some (.int .i64 (enoughF (m : Int) xr), [bPs x, bPs xb, bPs xr]) := by
    have := u43 (m : Int) xr 2 [bPs x, bPs xb, bPs xr] rfl
    rw [hxr] at this; exact this
  have cx := u43 (m : Int) x 0 [bPs x, bPs xb, bPs xr] rfl
  have ck := u33c (m : Int) (by omega) [bPs x, bPs xb, bPs xr]
  -- what comes after it, whether enough or not
  have fin : ∀ b : Bool, x.length ≠ 0 → ∃ E H, RunsTo Try.prog polU 14 (sub [1, 1, 1, 1, 1, 1, 1, 1, 1, 1] B14) (tE (m : Int) (l0.map encP) by_ x.length xb.length x.length .undef (.int .i64 (x.length : Int)) (.bool b) (.int .i64 (fewestN (m : Int))) (.int .i64 0) .undef .undef .undef .undef .undef) [bPs x, bPs xb, bPs xr] .ret (polU.keys 14) E H ∧ E.get 6 = .bool true := by
    intro b hx0
    have kx := u42 (m := m) (by omega) hm2.2 x x.length (Nat.le_refl _) hv (by omega) [bPs x, bPs xb, bPs xr] rfl
    rw [List.take_length] at kx
    have m1 := lt_m_0 (m : Int) (l0.map encP) by_ x.length (x.map encP) xb.length (xb.map encP) x.length (xr.map encP) (x.length : Int) (fewestN (m : Int)) b m ((rKnown m x).map encIs) kx
    have ht : (IntKind.i64.wrap ((x.length : Int) - 1)).toNat = x.length - 1 := by rw [hw]; omega
    have gs : sliceV Try.prog 22 (.sl 0 0 x.length none x.length 2) none (some (.int .i64 (IntKind.i64.wrap ((x.length : Int) - 1)))) none = some (.sl 0 0 ((IntKind.i64.wrap ((x.length : Int) - 1)).toNat) none x.length 2) := by
      have h0 : 0 ≤ IntKind.i64.wrap ((x.length : Int) - 1) := by rw [hw]; omega
      have hz : tySize Try.prog 33 = some 2 := z33
      simp only [sliceV, boundV, h0, if_true, u22, hz, Option.getD_none, Option.getD_some, Nat.zero_le, true_and]
      rw [if_pos (by omega)]
      simp
    have ky := u42 (m := m) (by omega) hm2.2 x (x.length - 1) (by omega) hv (by omega) [bPs x, bPs xb, bPs xr, bIs (rKnown m x)] rfl
    rw [← ht] at ky
    have o1 := lt_o_0 (m : Int) (l0.map encP) by_ x.length (x.map encP) xb.length (xb.map encP) x.length (xr.map encP) (x.length : Int) (fewestN (m : Int)) b m ((rKnown m x).map encIs) m _ gs ky
    rw [ht] at o1
    have q1 := lt_q_0 (m : Int) (l0.map encP) by_ x.length (x.map encP) xb.length (xb.map encP) x.length (xr.map encP) (x.length : Int) (fewestN (m : Int)) b m ((rKnown m x).map encIs) m ((rKnown m (x.take (x.length - 1))).map encIs) rfl rfl
    have r1 := lt_r_0 (m : Int) (l0.map encP) by_ x.length (x.map encP) xb.length (xb.map encP) x.length (xr.map encP) (x.length : Int) (fewestN (m : Int)) b m ((rKnown m x).map encIs) m ((rKnown m (x.take (x.length - 1))).map encIs)
    have x1 := len_loop m hm2.2 (l0.map encP) by_ (x.map encP) (xb.map encP) (xr.map encP) (rKnown m x) (rKnown m (x.take (x.length - 1))) (rKnown_length m _) (rKnown_length m _) (fun i hi => known_rows hm2.2 x hv _ hi) m 0 (by omega)
    have x1' := RunsTo.loop_in (e0 := tE (m : Int) (l0.map encP) by_ x.length xb.length x.length .undef (.int .i64 (x.length : Int)) (.bool b) (.int .i64 (fewestN (m : Int))) (.int .i64 0) (.sl 3 0 m none m 1) (.int .i64 0) (.sl 4 0 m none m 1) (.int .i64 0) (.int .i64 0)) x1 (b := sub [1, 1, 1, 1, 1, 1, 1, 1, 1, 1, 1, 1, 1, 0, 1, 0, 0] B14) (by kernel_rfl) (by kernel_rfl) (by kernel_rfl)
    have z1 := lt_z_0 (m : Int) (l0.map encP) by_ 0 (x.map encP) 0 (xb.map encP) 0 (xr.map encP) 0 0 b m ((rKnown m x).map encIs) m ((rKnown m (x.take (x.length - 1))).map encIs) m
    have t1 := RunsTo.seq r1 (RunsTo.block_exit (c := sub [1, 1, 1, 1, 1, 1, 1, 1, 1, 1, 1, 1, 1, 0, 1] B14) x1' (by kernel_rfl)) (c := sub [1, 1, 1, 1, 1, 1, 1, 1, 1, 1, 1, 1, 1, 0] B14) (by kernel_rfl) (by kernel_rfl)
    have t2 := RunsTo.seq t1 z1 (c := sub [1, 1, 1, 1, 1, 1, 1, 1, 1, 1, 1, 1, 1] B14) (by kernel_rfl) (by kernel_rfl)
    have t3 := RunsTo.seq q1 t2 (c := sub [1, 1, 1, 1, 1, 1, 1, 1, 1, 1, 1, 1] B14) (by kernel_rfl) (by kernel_rfl)
    have t4 := RunsTo.seq o1 t3 (c := sub [1, 1, 1, 1, 1, 1, 1, 1, 1, 1, 1] B14) (by kernel_rfl) (by kernel_rfl)
    exact ⟨_, _, RunsTo.seq m1 t4 (c := sub [1, 1, 1, 1, 1, 1, 1, 1, 1, 1] B14) (by kernel_rfl) (by kernel_rfl), rfl⟩
  by_cases he : enoughF (m : Int) x = 0
  · have hx0 : x.length ≠ 0 := by have := hfew he; omega
    have g1 := lt_g_0 (m : Int) (l0.map encP) by_ x.length (x.map encP) xb.length (xb.map encP) x.length (xr.map encP) (x.length : Int) _ cx he
    have h1 := lt_ht_0 (m : Int) (l0.map encP) by_ x.length (x.map encP) xb.length (xb.map encP) x.length (xr.map encP) (x.length : Int) _ ck
    have i1 := lt_it_1 (m : Int) (l0.map encP) by_ x.length (x.map encP) xb.length (xb.map encP) x.length (xr.map encP) (x.length : Int) (fewestN (m : Int)) _ _ cb (hbk.2 he) cr (hrn.2 he) (hfew he)
    have j1 := lt_jt_1 (m : Int) (l0.map encP) by_ x.length (x.map encP) xb.length (xb.map encP) x.length (xr.map encP) (x.length : Int) (fewestN (m : Int)) (by omega)
    obtain ⟨E, H, t, hE⟩ := fin true hx0
    have t1 := RunsTo.seq j1 t (c := sub [1, 1, 1, 1, 1, 1, 1, 1, 1] B14) (by kernel_rfl) (by kernel_rfl)
    have t2 := RunsTo.seq i1 t1 (c := sub [1, 1, 1, 1, 1, 1, 1, 1] B14) (by kernel_rfl) (by kernel_rfl)
    have t3 := RunsTo.seq h1 t2 (c := sub [1, 1, 1, 1, 1, 1, 1] B14) (by kernel_rfl) (by kernel_rfl)
    exact ⟨E, H, up E H (RunsTo.seq g1 t3 (c := sub [1, 1, 1, 1, 1, 1] B14) (by kernel_rfl) (by kernel_rfl)), hE⟩
  · have g1 := lt_g_1 (m : Int) (l0.map encP) by_ x.length (x.map encP) xb.length (xb.map encP) x.length (xr.map encP) (x.length : Int) _ cx he
    have h1 := lt_hn_0 (m : Int) (l0.map encP) by_ x.length (x.map encP) xb.length (xb.map encP) x.length (xr.map encP) (x.length : Int) _ ck
    have i1 := lt_in_2 (m : Int) (l0.map encP) by_ x.length (x.map encP) xb.length (xb.map encP) x.length (xr.map encP) (x.length : Int) (fewestN (m : Int)) _ _ cb (fun h => he (hbk.1 h)) cr (fun h => he (hrn.1 h))
    by_cases hx0 : x.length = 0
    · have j1 := lt_jn_0 (m : Int) (l0.map encP) by_ x.length (x.map encP) xb.length (xb.map encP) x.length (xr.map encP) (x.length : Int) (fewestN (m : Int)) (by omega)
      have t1 := RunsTo.seq_out j1 (by simp) (c := sub [1, 1, 1, 1, 1, 1, 1, 1, 1] B14) (b := sub [1, 1, 1, 1, 1, 1, 1, 1, 1, 1] B14) (by kernel_rfl)
      have t2 := RunsTo.seq i1 t1 (c := sub [1, 1, 1, 1, 1, 1, 1, 1] B14) (by kernel_rfl) (by kernel_rfl)
      have t3 := RunsTo.seq h1 t2 (c := sub [1, 1, 1, 1, 1, 1, 1] B14) (by kernel_rfl) (by kernel_rfl)
      exact ⟨_, _, up _ _ (RunsTo.seq g1 t3 (c := sub [1, 1, 1, 1, 1, 1] B14) (by kernel_rfl) (by kernel_rfl)), rfl⟩
    · have j1 := lt_jn_1 (m : Int) (l0.map encP) by_ x.length (x.map encP) xb.length (xb.map encP) x.length (xr.map encP) (x.length : Int) (fewestN (m : Int)) (by omega)
      obtain ⟨E, H, t, hE⟩ := fin false hx0
      have t1 := RunsTo.seq j1 t (c := sub [1, 1, 1, 1, 1, 1, 1, 1, 1] B14) (by kernel_rfl) (by kernel_rfl)
      have t2 := RunsTo.seq i1 t1 (c := sub [1, 1, 1, 1, 1, 1, 1, 1] B14) (by kernel_rfl) (by kernel_rfl)
      have t3 := RunsTo.seq h1 t2 (c := sub [1, 1, 1, 1, 1, 1, 1] B14) (by kernel_rfl) (by kernel_rfl)
      exact ⟨E, H, up E H (RunsTo.seq g1 t3 (c := sub [1, 1, 1, 1, 1, 1] B14) (by kernel_rfl) (by kernel_rfl)), hE⟩
end Go.Proofs.Ytmhfkhlamnapdaa
