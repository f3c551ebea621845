/- A part of the proof. -/
import Derived.Test.YtmhfkhlamnapdaaP5A
set_option linter.unusedVariables false
set_option linter.unusedSimpArgs false
section
open Go Go.HL
namespace Go.Proofs.Ytmhfkhlamnapdaa
abbrev pE (n : Int) (lc : List HV) (x : Int) (m : Nat) (v8 v9 v10 v11 v12 v13 v14 : HV) : Env := env41 (.int .i64 n) (.imm .arg 2 lc) (.int .i64 x) (.imm .lit 1 []) (.sl 0 0 m (some m) m 1) v8 v9 v10 v11 v12 v13 v14
theorem rfar_in (n : Int) (lc : List HV) (x : Int) (m : Nat) (hm : m ≤ 1000) (i c k : Nat) (hck : c + 1 ≤ k) (w : Nat) (l : List Nat) (hl : ∀ y ∈ l, y < m) (hll : l.length ≤ 1000) (wv : HV) (wb : Nat) (hwb : 0 < wb) : ∀ (d j : Nat) (H : Heap) (b : Nat) (qv : HV) (s : List Int × List Nat), j + d = l.length → QOk H b qv s.2 → QOk H wb wv l → wb ≠ b → 0 < b → H[0]? = some (bI s.1) → BInv m k s → s.2[i]? = some w → s.1.getD w 0 = (c : Int) → c ≤ 1000 →
    ∃ H' b' qv', RunsTo Try.prog polN 41 (sub [1, 1, 1, 1, 1, 0, 1, 0, 0, 1, 0, 0, 1, 1, 1, 0] B41) (pE n lc x m .undef qv (.int .i64 (i : Int)) (.int .i64 (w : Int)) wv (.int .i64 (j : Int)) .undef) H
      (.exit 4) (polN.keys 41) (pE n lc x m .undef qv' (.int .i64 (i : Int)) (.int .i64 (w : Int)) wv (.int .i64 (l.length : Int)) .undef) H' ∧
      QOk H' b' qv' (bIn c (l.drop j) s).2 ∧ H'[0]? = some (bI (bIn c (l.drop j) s).1) ∧ Keep 0 b b' H H' := by
  intro d
  induction d with
  | zero =>
    intro j H b qv s hj hq hwq hne hb ho hinv hw hc hc2
    have hj : j = l.length := by omega
    subst hj
    rw [List.drop_length]
    refine ⟨H, b, qv, ?_, hq, ho, Keep.refl _ _ _⟩
    have s1 := fa_l2_2 n lc x m qv H i (w : Int) wv l.length _ hwq.lenq (by omega)
    exact RunsTo.loop_out s1 (by simp) (by kernel_rfl) (by kernel_rfl)
  | succ d ih =>
    intro j H b qv s hj hq hwq hne hb ho hinv hw hc hc2
    have hjl : j < l.length := by omega
    rw [List.drop_eq_getElem_cons hjl, bIn]
    have hy : l[j] < m := hl _ (List.getElem_mem hjl)
    have hwn : w < m := hinv.lt _ (List.mem_of_getElem? hw)
    have hlen := hinv.len
    have gi : ∀ y, y < m → idxV Try.prog 24 (.sl 0 0 m (some m) m 1) (.int .i64 ((y : Nat) : Int)) = some (.ptr 0 (((y : Nat) : Int).toNat) 0 m) := fun y hy => idx_sl u24b z3b (by omega) (by omega)
    have gl : ∀ y, y < m → loadV Try.prog H 3 (.ptr 0 (((y : Nat) : Int).toNat) 0 m) = some (.int .i64 (s.1.getD y 0)) := fun y hy => by
      have := load_out ho (y := y) (by omega)
      rw [hlen] at this
      rw [Int.toNat_natCast]; exact this
    have gw := hwq.loadq (i := j) (x := l[j]) (List.getElem?_eq_getElem hjl)
    by_cases hlt : s.1.getD l[j] 0 < 0
    · have hst := store_out ho (y := l[j]) (by omega) (IntKind.i64.wrap ((c : Int) + 1))
      rw [hlen] at hst
      have hq' : QOk (H.set 0 (bI (s.1.set l[j] (IntKind.i64.wrap ((c : Int) + 1))))) b qv s.2 := ⟨hq.val, by rw [List.getElem?_set_ne (by omega)]; exact hq.blk⟩
      obtain ⟨v, H', b', ha, hq2, hk, hsame, hle⟩ := hq'.appq (by have := hinv.qlen; omega) l[j] 0
      have s1 := fa_l2_0 n lc x m qv H i (w : Int) wv j _ _ _ _ _ _ _ _ hwq.lenq (by omega) (hwq.idxq hjl) gw (gi _ hy) (gl _ hy) hlt (gi _ hwn) (gl _ hwn) (gi _ hy) (by rw [Int.toNat_natCast, hc]; exact hst) ha
      have hwr : IntKind.i64.wrap ((c : Int) + 1) = (c : Int) + 1 := by rw [wrapI64]; omega
      rw [hwr] at hk hsame hle
      have h1 : 0 < H.length := lt_of_get ho
      have hwbl : wb < H.length := lt_of_get hwq.blk
      rw [if_pos hlt]
      have hinv' := hinv.step (c := (c : Int)) ⟨by omega, by omega⟩ hy
      rw [if_pos hlt] at hinv'
      have hnew := hk.new
      rw [List.length_set] at hnew
      have hb' : 0 < b' := by omega
      have hne' : wb ≠ b' := by omega
      have o1 : H'[0]? = some (bI (s.1.set l[j] ((c : Int) + 1))) := by
        rw [hsame 0 (by rw [List.length_set]; exact h1) (by omega), List.getElem?_set_self h1]
      have w1 : QOk H' wb wv l := ⟨hwq.val, by rw [hsame wb (by rw [List.length_set]; exact hwbl) hne, List.getElem?_set_ne (by omega)]; exact hwq.blk⟩
      obtain ⟨H2, b2, q2, r2, e1, e2, e3⟩ := ih (j + 1) H' b' v (s.1.set l[j] ((c : Int) + 1), s.2 ++ [l[j]]) (by omega) hq2 w1 hne' hb' o1 hinv' (by
          show (s.2 ++ [l[j]])[i]? = some w
          rw [List.getElem?_append_left (lt_of_get hw)]; exact hw) (by
          show (s.1.set l[j] ((c : Int) + 1)).getD w 0 = _
          rw [getD_set _ _ _ _ (by omega), if_neg (fun e => by rw [e, hc] at hlt; omega)]; exact hc) hc2
      refine ⟨H2, b2, q2, ?_, e1, e2, ?_⟩
      · rw [wrap_succ (by omega)] at s1
        refine RunsTo.loop s1 (by kernel_rfl) (gc_le ?_) r2 rfl (by kernel_rfl) (by kernel_rfl)
        have hb := bndE_mem (E := pE n lc x m .undef v (.int .i64 (i : Int)) (.int .i64 (w : Int)) wv (.int .i64 ((j + 1 : Nat) : Int)) .undef) (t := 9) (v := v) (by simp [pE, env41])
        rw [hq2.bnd_] at hb
        rw [List.length_set] at hle
        omega
      · refine Keep.trans ⟨?_, hnew, fun k hk1 h2 h3 => ?_⟩ e3
        · have := hk.len; rw [List.length_set] at this; exact this
        · rw [hsame k (by rw [List.length_set]; exact hk1) h3, List.getElem?_set_ne (fun e => h2 e.symm)]
    · have s1 := fa_l2_1 n lc x m qv H i (w : Int) wv j _ _ _ _ hwq.lenq (by omega) (hwq.idxq hjl) gw (gi _ hy) (gl _ hy) hlt
      rw [if_neg hlt]
      obtain ⟨H2, b2, q2, r2, e1, e2, e3⟩ := ih (j + 1) H b qv s (by omega) hq hwq hne hb ho hinv hw hc hc2
      rw [wrap_succ (by omega)] at s1
      exact ⟨H2, b2, q2, RunsTo.loop s1 (by kernel_rfl) (gc_same (Nat.le_refl _)) r2 rfl (by kernel_rfl) (by kernel_rfl), e1, e2, e3⟩
def inBb (n : Int) (p : Int × Int) : Bool := decide ((0 ≤ p.1 ∧ p.1 < n) ∧ (0 ≤ p.2 ∧ p.2 < n))
theorem inBb_iff {m : Nat} {l : List (Int × Int)} : l.all (inBb (m : Int)) = true ↔ ∀ p ∈ l, inB m p := by
  rw [List.all_eq_true]
  refine ⟨fun h p hp => ?_, fun h p hp => ?_⟩
  · have := h p hp
    rw [inBb, decide_eq_true_eq] at this
    unfold inB; omega
  · have := h p hp
    rw [inBb, decide_eq_true_eq]
    unfold inB at this; omega
theorem n51 {m : Nat} (hm : m ≤ 1000) {l : List (Int × Int)} (hl : l.length ≤ 1000) (hv : ∀ p ∈ l, inB m p) (w : Nat) (H : Heap) : ∀ kf, callN Try.prog polN (kf + 1) 51 [.int .i64 (m : Int), .imm .arg 2 (l.map encP), .int .i64 (w : Int)] H = some (.sl H.length 0 (nbN m l w).length none (nbN m l w).length 1, H ++ [bNs (nbN m l w)]) := fun kf => by
  rw [prim_call (pol := polN) (g := 51) (F := nbrs51) (by kernel_rfl) (rs := [.int .i64 (m : Int), .imm .arg 2 (l.map encP), .int .i64 (w : Int)]) (by simp only [mapO, arg_pairs']; rfl) (res := .own 1 ((nbN m l w).map encN)) (by
    simp only [nbrs51, mapO_map decP_enc]
    rw [if_pos ⟨⟨⟨by omega, by omega⟩, hl⟩, inBb_iff.2 hv⟩, Int.toNat_natCast, nbN_enc])]
  have hno : ((nbN m l w).map encN).any isOwn = false := by
    rw [List.any_eq_false]
    intro v hv
    obtain ⟨k, _, rfl⟩ := List.mem_map.1 hv
    simp [encN, encI, isOwn]
  simp only [recv, recvVal, recvCell, hno, List.length_map]
  rfl
theorem rfar_out (m : Nat) (hm : m ≤ 1000) (l : List (Int × Int)) (hl : l.length ≤ 1000) (hv : ∀ p ∈ l, inB m p) (x : Int) : ∀ (d i : Nat) (H : Heap) (b : Nat) (qv : HV) (s : List Int × List Nat), i + d = m → QOk H b qv s.2 → 0 < b → H[0]? = some (bI s.1) → BInv m i s → i ≤ s.2.length →
    ∃ i' H' qv', RunsTo Try.prog polN 41 (sub [1, 1, 1, 1, 1, 0, 1, 0] B41) (pE (m : Int) (l.map encP) x m .undef qv (.int .i64 (i : Int)) .undef .undef .undef .undef) H
      (.exit 2) (polN.keys 41) (pE (m : Int) (l.map encP) x m .undef qv' (.int .i64 ((i' : Nat) : Int)) .undef .undef .undef .undef) H' ∧
      H'[0]? = some (bI (bGo (nbN m l) d i s).1) ∧ (bGo (nbN m l) d i s).1.length = m := by
  intro d
  induction d with
  | zero =>
    intro i H b qv s hi hq hb ho hinv hle
    have := hinv.qlen
    have s1 := fa_h_1 (m : Int) (l.map encP) x m qv H i _ hq.lenq (by omega)
    exact ⟨i, H, qv, RunsTo.loop_out (RunsTo.seq_out s1 (by simp) (c := sub [1, 1, 1, 1, 1, 0, 1, 0, 0] B41) (b := sub [1, 1, 1, 1, 1, 0, 1, 0, 0, 1] B41) (by kernel_rfl)) (by simp) (by kernel_rfl) (by kernel_rfl), ho, hinv.len⟩
  | succ d ih =>
    intro i H b qv s hi hq hb ho hinv hle
    rw [bGo]
    cases hw : s.2[i]? with
    | none =>
      have s1 := fa_h_1 (m : Int) (l.map encP) x m qv H i _ hq.lenq (by have := List.getElem?_eq_none_iff.1 hw; omega)
      exact ⟨i, H, qv, RunsTo.loop_out (RunsTo.seq_out s1 (by simp) (c := sub [1, 1, 1, 1, 1, 0, 1, 0, 0] B41) (b := sub [1, 1, 1, 1, 1, 0, 1, 0, 0, 1] B41) (by kernel_rfl)) (by simp) (by kernel_rfl) (by kernel_rfl), ho, hinv.len⟩
    | some w =>
      have hil := lt_of_get hw
      have hwn : w < m := hinv.lt _ (List.mem_of_getElem? hw)
      have hc0 := (hinv.got w hwn).2 (List.mem_of_getElem? hw)
      have hci := hinv.le w hwn
      obtain ⟨c, hc⟩ : ∃ c : Nat, s.1.getD w 0 = (c : Int) := ⟨(s.1.getD w 0).toNat, by omega⟩
      have hrw : ∀ y ∈ nbN m l w, y < m := fun y hy => ((nbN_mem hv).1 hy).1
      have hrl : (nbN m l w).length ≤ 1000 := Nat.le_trans (nbN_len m l w) hm
      have h1 := fa_h_0 (m : Int) (l.map encP) x m qv H i _ hq.lenq (by omega)
      have g1 := fa_g_0 (m : Int) (l.map encP) x m qv H i _ _ (hq.idxq hil) (hq.loadq hw)
      have k1 := fa_k_0 (m : Int) (l.map encP) x m qv H i (w : Int) _ _ (n51 hm hl hv w H)
      generalize hnb : nbN m l w = nb at k1 hrw hrl
      have hH0 : 0 < H.length := lt_of_get ho
      have hbl : b < H.length := lt_of_get hq.blk
      have m1 := fa_m_0 (m : Int) (l.map encP) x m qv (H ++ [bNs nb]) i (w : Int) (.sl H.length 0 nb.length none nb.length 1)
      have hq' : QOk (H ++ [bNs nb]) b qv s.2 := ⟨hq.val, by rw [List.getElem?_append_left hbl]; exact hq.blk⟩
      have hwq : QOk (H ++ [bNs nb]) H.length (.sl H.length 0 nb.length none nb.length 1) nb := ⟨⟨none, rfl, .inl rfl⟩, by simp⟩
      obtain ⟨H', b', qv', r1, q1, o1, kk⟩ := rfar_in (m : Int) (l.map encP) x m hm i c (i + 1) (by omega) w nb hrw hrl _ H.length hH0 nb.length 0 (H ++ [bNs nb]) b qv s (by omega) hq' hwq (by omega) hb (by rw [List.getElem?_append_left hH0]; exact ho) (hinv.mono (by omega)) hw hc (by omega)
      rw [List.drop_zero] at q1 o1
      have hinv' := BInv.inn (c := (c : Int)) (k := i + 1) ⟨by omega, by omega⟩ nb s hrw (hinv.mono (by omega))
      dsimp only
      rw [hc, hnb]
      obtain ⟨t, ht⟩ := bIn_pre (c : Int) nb s
      have hnew := kk.new
      simp only [List.length_append, List.length_singleton] at hnew
      have hb' : 0 < b' := by omega
      have n1 := fa_n_0 (m : Int) (l.map encP) x m qv' H' i (w : Int) (.sl H.length 0 nb.length none nb.length 1) nb.length .undef
      rw [wrap_succ (by omega)] at n1
      have hbd := bndE_mem (E := pE (m : Int) (l.map encP) x m .undef qv' (.int .i64 ((i + 1 : Nat) : Int)) .undef .undef .undef .undef) (t := 9) (v := qv') (by simp [pE, env41])
      rw [q1.bnd_] at hbd
      have hg := fun k (hk : k < max H.length (bndE (pE (m : Int) (l.map encP) x m .undef qv' (.int .i64 ((i + 1 : Nat) : Int)) .undef .undef .undef .undef))) => gc_get (H := H') hk
      obtain ⟨i2, H2, q2, r2, o2, l2⟩ := ih (i + 1) (gc H.length (bndE (pE (m : Int) (l.map encP) x m .undef qv' (.int .i64 ((i + 1 : Nat) : Int)) .undef .undef .undef .undef)) H') b' qv' (bIn (c : Int) nb s) (by omega)
        ⟨q1.val, by rw [hg b' (by omega)]; exact q1.blk⟩ hb' (by rw [hg 0 (by omega)]; exact o1) hinv' (by rw [ht, List.length_append]; omega)
      refine ⟨i2, H2, q2, ?_, o2, l2⟩
      have t0 := RunsTo.seq m1 (RunsTo.block_exit (c := sub [1, 1, 1, 1, 1, 0, 1, 0, 0, 1, 0, 0, 1, 1, 1] B41) r1 (by kernel_rfl)) (c := sub [1, 1, 1, 1, 1, 0, 1, 0, 0, 1, 0, 0, 1, 1] B41) (by kernel_rfl) (by kernel_rfl)
      have t1 := RunsTo.seq k1 t0 (c := sub [1, 1, 1, 1, 1, 0, 1, 0, 0, 1, 0, 0, 1] B41) (by kernel_rfl) (by kernel_rfl)
      have t2 := RunsTo.seq g1 t1 (c := sub [1, 1, 1, 1, 1, 0, 1, 0, 0, 1, 0, 0] B41) (by kernel_rfl) (by kernel_rfl)
      have t3 := RunsTo.block_normal (i := 3) (c := sub [1, 1, 1, 1, 1, 0, 1, 0, 0, 1, 0] B41) t2 (by kernel_rfl)
      have t4 := RunsTo.seq t3 n1 (c := sub [1, 1, 1, 1, 1, 0, 1, 0, 0, 1] B41) (by kernel_rfl) (by kernel_rfl)
      have t5 := RunsTo.seq h1 t4 (c := sub [1, 1, 1, 1, 1, 0, 1, 0, 0] B41) (by kernel_rfl) (by kernel_rfl)
      exact RunsTo.loop t5 (by kernel_rfl) rfl r2 rfl (by kernel_rfl) (by kernel_rfl)
theorem rfar_fill (lc : List HV) (x : Int) (m : Nat) (hm : m ≤ 1000) : ∀ (d j : Nat), j + d = m →
    RunsTo Try.prog polN 41 (sub [1, 1, 0, 1, 0] B41) (pE (m : Int) lc x m (.int .i64 (j : Int)) .undef .undef .undef .undef .undef .undef) [bI (List.replicate j (-1) ++ List.replicate d 0)]
      (.exit 0) (polN.keys 41) (pE (m : Int) lc x m (.int .i64 (m : Int)) .undef .undef .undef .undef .undef .undef) [bI (List.replicate m (-1))] := by
  intro d
  induction d with
  | zero =>
    intro j hj
    have hj : j = m := by omega
    subst hj
    rw [List.replicate_zero, List.append_nil]
    exact RunsTo.loop_out (fa_l1_1 (j : Int) lc x j ((List.replicate j (-1)).map encI) j (by omega)) (by simp) (by kernel_rfl) (by kernel_rfl)
  | succ d ih =>
    intro j hj
    have h := ih (j + 1) (by omega)
    have g1 : idxV Try.prog 24 (.sl 0 0 m (some m) m 1) (.int .i64 (j : Int)) = some (.ptr 0 j 0 m) := by
      have := idx_sl (P := Try.prog) (t := 24) (b := 0) (tot := m) (cap := some m) (ik := .i64) (n := (j : Int)) u24b z3b (by omega) (len := m) (by omega)
      simpa using this
    have hlen : (List.replicate j (-1 : Int) ++ List.replicate (d + 1) 0).length = m := by simp; omega
    have hst := store_out (H := [bI (List.replicate j (-1) ++ List.replicate (d + 1) 0)]) (k := 0) rfl (y := j) (by omega) (-1)
    rw [hlen, fill_step] at hst
    have s1 := fa_l1_0 (m : Int) lc x m _ j _ (by omega) g1 hst
    rw [wrap_succ (by omega)] at s1
    exact RunsTo.loop s1 (by kernel_rfl) (gc_same (Nat.le_refl _)) h rfl (by kernel_rfl) (by kernel_rfl)
def rfarF (m : Nat) (l : List (Int × Int)) (x : Nat) : List Int := bfs (nbN m l) m x
def rfar41 : List HV → Option HV
  | [.int .i64 n, .imm .arg 2 lc, .int .i64 x] =>
    match mapO decP lc with
    | some l => if (((0 ≤ n ∧ n ≤ 1000) ∧ l.length ≤ 1000) ∧ l.all (inBb n) = true) ∧ 0 ≤ x ∧ x < n then some (.own 1 ((rfarF n.toNat l x.toNat).map encI)) else none
    | none => none
  | _ => none
theorem res41 : Try.f41.results.toList = [.tmp 6] := by kernel_rfl
theorem rfar_ok : PrimOk Try.prog 41 rfar41 := by
  refine primOk_pure (pol := polN) (fn := Try.f41) (cd := B41) follows_mixed soundN (by kernel_rfl) (by kernel_rfl) (fnok polN.prim _ _ (by kernel_rfl)) (by kernel_rfl) ?_
  intro args res h
  unfold rfar41 at h
  split at h
  · rename_i n lc x
    split at h
    · rename_i l hlc
      split at h
      · rename_i hg
        obtain ⟨⟨⟨hn, hl⟩, hall⟩, hx0, hx1⟩ := hg
        cases h
        rw [mapO_inv decP_inv hlc]
        obtain ⟨m, rfl⟩ : ∃ m : Nat, n = (m : Int) := ⟨n.toNat, by omega⟩
        obtain ⟨w, rfl⟩ : ∃ w : Nat, x = (w : Int) := ⟨x.toNat, by omega⟩
        rw [Int.toNat_natCast, Int.toNat_natCast]
        have hv := inBb_iff.1 hall
        have hw : w < m := by omega
        have a1 := fa_a_0 (m : Int) (l.map encP) (w : Int)
        have hmk := makeV_ok (P := Try.prog) (H := []) (t := 24) (e := 3) (k := 1) (bt := 8) (zv := .int .i64 0) (n := (m : Int)) u24b (by kernel_rfl) (by kernel_rfl) (by kernel_rfl) (by omega) (by omega) (by rw [show roomMax = 70368744177664 from rfl]; omega)
        rw [Int.toNat_natCast] at hmk
        have b1 := fa_b_0 (m : Int) (l.map encP) (w : Int) m hmk
        have c1 := fa_c_0 (m : Int) (l.map encP) (w : Int) m (List.replicate m (.int .i64 0))
        have l1 := rfar_fill (l.map encP) (w : Int) m (by omega) m 0 (by omega)
        have e0 : bI (List.replicate 0 (-1) ++ List.replicate m 0) = .arr 1 (List.replicate m (.int .i64 0)) true 0 := by simp [bI, encI]
        rw [e0] at l1
        have gi : idxV Try.prog 24 (.sl 0 0 m (some m) m 1) (.int .i64 (w : Int)) = some (.ptr 0 ((w : Int).toNat) 0 m) := idx_sl u24b z3b (by omega) (by omega)
        have hst := store_out (H := [bI (List.replicate m (-1))]) (k := 0) rfl (y := w) (by simpa using hw) 0
        rw [List.length_replicate] at hst
        have d1 := fa_d_0 (m : Int) (l.map encP) (w : Int) m _ m _ gi (by rw [Int.toNat_natCast]; exact hst)
        have e1 := fa_e_0 (m : Int) (l.map encP) (w : Int) m (((List.replicate m (-1)).set w 0).map encI) m
        have hq : QOk [bI ((List.replicate m (-1)).set w 0), bNs [w]] 1 (.sl 1 0 1 (some 1) 1 1) [w] := ⟨⟨some 1, rfl, .inr rfl⟩, rfl⟩
        have f1 := fa_f_0 (m : Int) (l.map encP) (w : Int) m (.sl 1 0 1 (some 1) 1 1) [bI ((List.replicate m (-1)).set w 0), bNs [w]] m
        obtain ⟨i', H', qv', r1, o1, hl1⟩ := rfar_out m (by omega) l hl hv (w : Int) m 0 _ 1 _ (bInit m w) (by omega) hq (by omega) rfl (bInit_inv hw) (Nat.zero_le _)
        have r1' := RunsTo.loop_in (e0 := pE (m : Int) (l.map encP) (w : Int) m (.int .i64 (m : Int)) (.sl 1 0 1 (some 1) 1 1) (.int .i64 0) .undef .undef .undef .undef) r1 (b := sub [1, 1, 1, 1, 1, 0, 1, 0, 0] B41) (by kernel_rfl) (by kernel_rfl) (by kernel_rfl)
        have z1 := fa_z_0 (m : Int) (l.map encP) (w : Int) m qv' H' i'
        have t1 := RunsTo.seq f1 (RunsTo.block_exit (c := sub [1, 1, 1, 1, 1, 0, 1] B41) r1' (by kernel_rfl)) (c := sub [1, 1, 1, 1, 1, 0] B41) (by kernel_rfl) (by kernel_rfl)
        have t2 := RunsTo.seq t1 z1 (c := sub [1, 1, 1, 1, 1] B41) (by kernel_rfl) (by kernel_rfl)
        have t3 := RunsTo.seq e1 t2 (c := sub [1, 1, 1, 1] B41) (by kernel_rfl) (by kernel_rfl)
        have t4 := RunsTo.seq d1 t3 (c := sub [1, 1, 1] B41) (by kernel_rfl) (by kernel_rfl)
        have t5 := RunsTo.seq c1 (RunsTo.block_exit (c := sub [1, 1, 0, 1] B41) l1 (by kernel_rfl)) (c := sub [1, 1, 0] B41) (by kernel_rfl) (by kernel_rfl)
        have t6 := RunsTo.seq t5 t4 (c := sub [1, 1] B41) (by kernel_rfl) (by kernel_rfl)
        have t7 := RunsTo.seq b1 t6 (c := sub [1] B41) (by kernel_rfl) (by kernel_rfl)
        have t8 := RunsTo.seq a1 t7 (c := B41) (by kernel_rfl) (by kernel_rfl)
        have hr2 := resCell_sl (H := H') (no := [0]) (b := 0) (k := 1) (m := m) (cap := some m) (els := (rfarF m l w).map encI) o1 (by rw [List.length_map]; exact hl1) (mapO_self (fun r => frz_int 4 r) _)
        have hown : ownedAll H' false (.sl 0 0 m (some m) m 1) = [0] := by
          simp only [ownedAll, cellsOf, List.flatMap_cons, List.flatMap_nil, owned, o1]; rfl
        refine ⟨_, _, _, .sl 0 0 m (some m) m 1, t8, by simp, by simp only [resultsV, res41]; rfl, ?_⟩
        show toRes _ false _ = _
        simp only [toRes, hown, List.nodup_cons, List.not_mem_nil, not_false_eq_true, List.nodup_nil, and_self, if_true, resVal, hr2]
      · cases h
    · cases h
  · cases h
end Go.Proofs.Ytmhfkhlamnapdaa
end
section
open Go Go.HL
namespace Go.Proofs.Ytmhfkhlamnapdaa
set_option maxRecDepth 100000
noncomputable def B59 : Code := Try.f59.body.getD .skip
abbrev env59 (v0 v1 v4 v5 v7 v8 : HV) : Env := [(0, v0), (1, v1), (4, v4), (5, v5), (7, v7), (8, v8)]
theorem ix_a_0 (la : List HV) (v : Int)   : RunsTo Try.prog polB 59 (sub [0] B59) [(0, .imm .arg 1 la), (1, .int .i64 v)] [] (.normal) (polB.keys 59) (env59 (.imm .arg 1 la) (.int .i64 v) (.int .i64 0) .undef .undef .undef) [] :=
  RunsTo.hint 1 60 [] fun kf hk => by
    obtain ⟨kf, rfl⟩ : ∃ n, kf = n + 1 := ⟨kf - 1, by omega⟩
    exact ⟨[], by kernel_rfl, Obls.nil⟩
theorem ix_b_0 (la : List HV) (v : Int)   : RunsTo Try.prog polB 59 (sub [1, 0, 0] B59) (env59 (.imm .arg 1 la) (.int .i64 v) (.int .i64 0) .undef .undef .undef) [] (.normal) (polB.keys 59) (env59 (.imm .arg 1 la) (.int .i64 v) (.int .i64 0) .undef (.int .i64 (la.length : Int)) (.int .i64 0)) [] :=
  RunsTo.hint 1 60 [] fun kf hk => by
    obtain ⟨kf, rfl⟩ : ∃ n, kf = n + 1 := ⟨kf - 1, by omega⟩
    exact ⟨[], by kernel_rfl, Obls.nil⟩
theorem ix_l_0 (la : List HV) (v : Int) (j : Nat) (x0 : Int) (g0 : (j : Int) < (la.length : Int)) (g1 : idxV Try.prog 24 (.imm .arg 1 la) (.int .i64 (j : Int)) = some (.vptr (.int .i64 x0))) (g2 : v = x0) : RunsTo Try.prog polB 59 (sub [1, 0, 1, 0, 0] B59) (env59 (.imm .arg 1 la) (.int .i64 v) (.int .i64 0) .undef (.int .i64 (la.length : Int)) (.int .i64 (j : Int))) [] (.ret) (polB.keys 59) (env59 (.imm .arg 1 la) (.int .i64 v) (.int .i64 (j : Int)) (.int .i64 (j : Int)) (.int .i64 (la.length : Int)) (.int .i64 (j : Int))) [] :=
  RunsTo.hint 1 60 [⟨2, 0, .bool true, []⟩, ⟨4, 3, .vptr (.int .i64 x0), []⟩, ⟨4, 5, .bool true, []⟩] fun kf hk => by
    obtain ⟨kf, rfl⟩ : ∃ n, kf = n + 1 := ⟨kf - 1, by omega⟩
    exact ⟨[some (HV.bool (decide ((j : Int) < (la.length : Int))), ([] : Heap)) = some (.bool true, []), (idxV Try.prog 24 (.imm .arg 1 la) (.int .i64 (j : Int))).map (fun v => (v, ([] : Heap))) = some (.vptr (.int .i64 x0), []), some (HV.bool (decide (v = x0)), ([] : Heap)) = some (.bool true, [])], by kernel_rfl, Obls.cons (hintB (decide_eq_true g0)) (Obls.cons (hintOp g1) (Obls.cons (hintB (decide_eq_true g2)) Obls.nil))⟩
theorem ix_l_1 (la : List HV) (v : Int) (j : Nat) (x0 : Int) (g0 : (j : Int) < (la.length : Int)) (g1 : idxV Try.prog 24 (.imm .arg 1 la) (.int .i64 (j : Int)) = some (.vptr (.int .i64 x0))) (g2 : ¬ (v = x0)) : RunsTo Try.prog polB 59 (sub [1, 0, 1, 0, 0] B59) (env59 (.imm .arg 1 la) (.int .i64 v) (.int .i64 0) .undef (.int .i64 (la.length : Int)) (.int .i64 (j : Int))) [] (.normal) (polB.keys 59) (env59 (.imm .arg 1 la) (.int .i64 v) (.int .i64 0) (.int .i64 (j : Int)) (.int .i64 (la.length : Int)) (.int .i64 (IntKind.i64.wrap ((j : Int) + 1)))) [] :=
  RunsTo.hint 1 60 [⟨2, 0, .bool true, []⟩, ⟨4, 3, .vptr (.int .i64 x0), []⟩, ⟨4, 5, .bool false, []⟩] fun kf hk => by
    obtain ⟨kf, rfl⟩ : ∃ n, kf = n + 1 := ⟨kf - 1, by omega⟩
    exact ⟨[some (HV.bool (decide ((j : Int) < (la.length : Int))), ([] : Heap)) = some (.bool true, []), (idxV Try.prog 24 (.imm .arg 1 la) (.int .i64 (j : Int))).map (fun v => (v, ([] : Heap))) = some (.vptr (.int .i64 x0), []), some (HV.bool (decide (v = x0)), ([] : Heap)) = some (.bool false, [])], by kernel_rfl, Obls.cons (hintB (decide_eq_true g0)) (Obls.cons (hintOp g1) (Obls.cons (hintB (decide_eq_false g2)) Obls.nil))⟩
theorem ix_l_2 (la : List HV) (v : Int) (j : Nat)  (g0 : ¬ ((j : Int) < (la.length : Int))) : RunsTo Try.prog polB 59 (sub [1, 0, 1, 0, 0] B59) (env59 (.imm .arg 1 la) (.int .i64 v) (.int .i64 0) .undef (.int .i64 (la.length : Int)) (.int .i64 (j : Int))) [] (.exit 0) (polB.keys 59) (env59 (.imm .arg 1 la) (.int .i64 v) (.int .i64 0) .undef (.int .i64 (la.length : Int)) (.int .i64 (j : Int))) [] :=
  RunsTo.hint 1 60 [⟨2, 0, .bool false, []⟩] fun kf hk => by
    obtain ⟨kf, rfl⟩ : ∃ n, kf = n + 1 := ⟨kf - 1, by omega⟩
    exact ⟨[some (HV.bool (decide ((j : Int) < (la.length : Int))), ([] : Heap)) = some (.bool false, [])], by kernel_rfl, Obls.cons (hintB (decide_eq_false g0)) Obls.nil⟩
theorem ix_z_0 (la : List HV) (v : Int) (j : Nat)   : RunsTo Try.prog polB 59 (sub [1, 1] B59) (env59 (.imm .arg 1 la) (.int .i64 v) (.int .i64 0) .undef (.int .i64 (la.length : Int)) (.int .i64 (j : Int))) [] (.ret) (polB.keys 59) (env59 (.imm .arg 1 la) (.int .i64 v) (.int .i64 (-1)) .undef (.int .i64 (la.length : Int)) (.int .i64 (j : Int))) [] :=
  RunsTo.hint 1 60 [] fun kf hk => by
    obtain ⟨kf, rfl⟩ : ∃ n, kf = n + 1 := ⟨kf - 1, by omega⟩
    exact ⟨[], by kernel_rfl, Obls.nil⟩
end Go.Proofs.Ytmhfkhlamnapdaa
end
section
open Go Go.HL
namespace Go.Proofs.Ytmhfkhlamnapdaa
def idxFrom (v : Int) : Nat → List Int → Int
  | _, [] => -1
  | j, x :: l => if v = x then (j : Int) else idxFrom v (j + 1) l
def index59 : List HV → Option HV
  | [.imm .arg 1 la, .int .i64 v] => match mapO decI la with | some l => if l.length ≤ 1000 then some (.int .i64 (idxFrom v 0 l)) else none | none => none
  | _ => none
theorem res59 : Try.f59.results.toList = [.tmp 4] := by kernel_rfl
theorem u24x : Try.prog.underlying 24 = some (.slice 3) := by kernel_rfl
theorem z3x : tySize Try.prog 3 = some 1 := by kernel_rfl
abbrev ixE (la : List HV) (v : Int) (j : Nat) : Env := env59 (.imm .arg 1 la) (.int .i64 v) (.int .i64 0) .undef (.int .i64 (la.length : Int)) (.int .i64 (j : Int))
theorem index_loop (l : List Int) (v : Int) (hl : l.length ≤ 1000) : ∀ (d j : Nat), j + d = l.length →
    ∃ x E, RunsTo Try.prog polB 59 (sub [1, 0, 1, 0] B59) (ixE (l.map encI) v j) [] x (polB.keys 59) E [] ∧
      ((idxFrom v j (l.drop j) = -1 ∧ x = .exit 0 ∧ E = ixE (l.map encI) v l.length) ∨ (x = .ret ∧ E.get 4 = .int .i64 (idxFrom v j (l.drop j)))) := by
  intro d
  induction d with
  | zero =>
    intro j hj
    have hj : j = l.length := by omega
    subst hj
    exact ⟨_, _, RunsTo.loop_out (ix_l_2 (l.map encI) v l.length (by simp)) (by simp) (by kernel_rfl) (by kernel_rfl), .inl ⟨by rw [List.drop_length]; rfl, rfl, rfl⟩⟩
  | succ d ih =>
    intro j hj
    have hjl : j < l.length := by omega
    have ga : (l.map encI)[j]? = some (encI l[j]) := by rw [List.getElem?_map, List.getElem?_eq_getElem hjl]; rfl
    have g1 : idxV Try.prog 24 (.imm .arg 1 (l.map encI)) (.int .i64 (j : Int)) = some (.vptr (.int .i64 l[j])) := idx_imm u24x z3x (by omega) (by rw [Int.toNat_natCast]; exact ga)
    rw [List.drop_eq_getElem_cons hjl, idxFrom]
    by_cases he : v = l[j]
    · rw [if_pos he]
      have s1 := ix_l_0 (l.map encI) v j _ (by simp; omega) g1 he
      exact ⟨_, _, RunsTo.loop_out s1 (by simp) (by kernel_rfl) (by kernel_rfl), .inr ⟨rfl, rfl⟩⟩
    · rw [if_neg he]
      obtain ⟨x, E, h1, h2⟩ := ih (j + 1) (by omega)
      have s1 := ix_l_1 (l.map encI) v j _ (by simp; omega) g1 he
      rw [wrap_succ (by omega)] at s1
      exact ⟨x, E, RunsTo.loop s1 (by kernel_rfl) rfl h1 rfl (by kernel_rfl) (by kernel_rfl), h2⟩
theorem index_ok : PrimOk Try.prog 59 index59 := by
  refine primOk_pure (pol := polB) (fn := Try.f59) (cd := B59) follows_mixed soundB (by kernel_rfl) (by kernel_rfl) (fnok polB.prim _ _ (by kernel_rfl)) (by kernel_rfl) ?_
  intro args res h
  unfold index59 at h
  split at h
  · rename_i la v
    split at h
    · rename_i l hl
      split at h
      · rename_i hlen
        cases h
        rw [mapO_inv decI_inv hl]
        have a1 := ix_a_0 (l.map encI) v
        have b1 := ix_b_0 (l.map encI) v
        obtain ⟨x, E, h1, h2⟩ := index_loop l v hlen l.length 0 (by omega)
        rw [List.drop_zero] at h2
        rcases h2 with ⟨k1, rfl, rfl⟩ | ⟨rfl, k2⟩
        · have t1 := RunsTo.seq b1 (RunsTo.block_exit (c := sub [1, 0, 1] B59) h1 (by kernel_rfl)) (c := sub [1, 0] B59) (by kernel_rfl) (by kernel_rfl)
          have t2 := RunsTo.seq t1 (ix_z_0 (l.map encI) v l.length) (c := sub [1] B59) (by kernel_rfl) (by kernel_rfl)
          have t3 := RunsTo.seq a1 t2 (c := B59) (by kernel_rfl) (by kernel_rfl)
          exact ⟨_, _, _, .int .i64 (idxFrom v 0 l), t3, by simp, by rw [k1]; simp only [resultsV, res59]; rfl, rfl⟩
        · have t1 := RunsTo.seq b1 (RunsTo.block_ret (c := sub [1, 0, 1] B59) (i := 0) h1 (by kernel_rfl)) (c := sub [1, 0] B59) (by kernel_rfl) (by kernel_rfl)
          have t2 := RunsTo.seq_out t1 (by simp) (c := sub [1] B59) (b := sub [1, 1] B59) (by kernel_rfl)
          have t3 := RunsTo.seq a1 t2 (c := B59) (by kernel_rfl) (by kernel_rfl)
          exact ⟨_, _, _, .int .i64 (idxFrom v 0 l), t3, by simp, by simp only [resultsV, res59, mapO, resultV, k2], rfl⟩
      · cases h
    · cases h
  · cases h
end Go.Proofs.Ytmhfkhlamnapdaa
end
section
open Go Go.HL
namespace Go.Proofs.Ytmhfkhlamnapdaa
/-- The policy of 'is it a tree?' and 'does it hold it?'. -/
def primO (g : FuncId) : Option (List HV → Option HV) := if g == 41 then some rfar41 else if g == 59 then some index59 else none
def polO : Pol := { pol with prim := primO }
theorem primO_ok (g : FuncId) (f : List HV → Option HV) (h : primO g = some f) : PrimOk Try.prog g f := by
  unfold primO at h
  split at h
  · rename_i hg; cases h; rw [eq_of_beq hg]; exact rfar_ok
  split at h
  · rename_i hg; cases h; rw [eq_of_beq hg]; exact index_ok
  · cases h
theorem soundO (n : Nat) : CallSound Try.prog (callN Try.prog polO n) := sound_prim primO primO_ok n
end Go.Proofs.Ytmhfkhlamnapdaa
end
section
open Go Go.HL
namespace Go.Proofs.Ytmhfkhlamnapdaa
set_option maxRecDepth 100000
noncomputable def B52 : Code := Try.f52.body.getD .skip
abbrev env52 (v0 v1 v4 : HV) : Env := [(0, v0), (1, v1), (4, v4)]
theorem ct_0 (lc : List HV) (x : Int) (r : Int) (g0 : ∀ kf, callN Try.prog polO (kf + 1) 59 [.imm .arg 1 lc, .int .i64 x] [] = some (.int .i64 r, [])) (g1 : 0 ≤ r) : RunsTo Try.prog polO 52 (sub [] B52) [(0, .imm .arg 1 lc), (1, .int .i64 x)] [] (.ret) (polO.keys 52) (env52 (.imm .arg 1 lc) (.int .i64 x) (.bool true)) [] :=
  RunsTo.hint 1 60 [⟨1, 2, .int .i64 r, []⟩, ⟨1, 3, .bool true, []⟩] fun kf hk => by
    obtain ⟨kf, rfl⟩ : ∃ n, kf = n + 1 := ⟨kf - 1, by omega⟩
    exact ⟨[callN Try.prog polO (kf + 1) 59 [.imm .arg 1 lc, .int .i64 x] [] = some (.int .i64 r, []), some (HV.bool (decide (0 ≤ r)), ([] : Heap)) = some (.bool true, [])], by kernel_rfl, Obls.cons (g0 kf) (Obls.cons (hintB (decide_eq_true g1)) Obls.nil)⟩
theorem ct_1 (lc : List HV) (x : Int) (r : Int) (g0 : ∀ kf, callN Try.prog polO (kf + 1) 59 [.imm .arg 1 lc, .int .i64 x] [] = some (.int .i64 r, [])) (g1 : ¬ (0 ≤ r)) : RunsTo Try.prog polO 52 (sub [] B52) [(0, .imm .arg 1 lc), (1, .int .i64 x)] [] (.ret) (polO.keys 52) (env52 (.imm .arg 1 lc) (.int .i64 x) (.bool false)) [] :=
  RunsTo.hint 1 60 [⟨1, 2, .int .i64 r, []⟩, ⟨1, 3, .bool false, []⟩] fun kf hk => by
    obtain ⟨kf, rfl⟩ : ∃ n, kf = n + 1 := ⟨kf - 1, by omega⟩
    exact ⟨[callN Try.prog polO (kf + 1) 59 [.imm .arg 1 lc, .int .i64 x] [] = some (.int .i64 r, []), some (HV.bool (decide (0 ≤ r)), ([] : Heap)) = some (.bool false, [])], by kernel_rfl, Obls.cons (g0 kf) (Obls.cons (hintB (decide_eq_false g1)) Obls.nil)⟩
end Go.Proofs.Ytmhfkhlamnapdaa
end
section
open Go Go.HL
namespace Go.Proofs.Ytmhfkhlamnapdaa
theorem idxFrom_mem (v : Int) : ∀ (l : List Int) (j : Nat), 0 ≤ idxFrom v j l ↔ v ∈ l
  | [], j => by simp [idxFrom]
  | x :: l, j => by
    rw [idxFrom]
    by_cases h : v = x
    · subst h; simp
    · have h' : ¬ x = v := fun e => h e.symm
      simp [h, h', idxFrom_mem v l (j + 1)]
def contains52 : List HV → Option HV
  | [.imm .arg 1 la, .int .i64 v] => match mapO decI la with | some l => if l.length ≤ 1000 then some (.bool (decide (v ∈ l))) else none | none => none
  | _ => none
theorem res52 : Try.f52.results.toList = [.tmp 4] := by kernel_rfl
theorem argP_ints' : ∀ (l : List Int), argPL (l.map encI) = some (l.map encI)
  | [] => rfl
  | p :: l => by simp only [List.map_cons, argPL, argP_ints' l, encI, argP]
theorem contains_ok : PrimOk Try.prog 52 contains52 := by
  refine primOk_pure (pol := polO) (fn := Try.f52) (cd := B52) follows_mixed soundO (by kernel_rfl) (by kernel_rfl) (fnok polO.prim _ _ (by kernel_rfl)) (by kernel_rfl) ?_
  intro args res h
  unfold contains52 at h
  split at h
  · rename_i la v
    split at h
    · rename_i l hla
      split at h
      · rename_i hl
        cases h
        rw [mapO_inv decI_inv hla]
        have hc : ∀ k, callN Try.prog polO (k + 1) 59 [.imm .arg 1 (l.map encI), .int .i64 v] [] = some (.int .i64 (idxFrom v 0 l), []) := fun k => by
          rw [prim_call (pol := polO) (g := 59) (F := index59) (by kernel_rfl) (rs := [.imm .arg 1 (l.map encI), .int .i64 v]) (by
            have e : toArg [] 6 (.imm .arg 1 (l.map encI)) = some (.imm .arg 1 (l.map encI)) := by
              show argP (.imm .arg 1 (l.map encI)) = _
              simp only [argP, argP_ints']
            simp only [mapO, e]; rfl) (res := .int .i64 (idxFrom v 0 l)) (by simp only [index59, mapO_map decI_enc]; rw [if_pos hl])]; rfl
        by_cases hm : v ∈ l
        · rw [decide_eq_true hm]
          exact ⟨_, _, _, _, ct_0 (l.map encI) v _ hc ((idxFrom_mem v l 0).2 hm), by simp, by simp only [resultsV, res52]; rfl, rfl⟩
        · rw [decide_eq_false hm]
          exact ⟨_, _, _, _, ct_1 (l.map encI) v _ hc (fun h => hm ((idxFrom_mem v l 0).1 h)), by simp, by simp only [resultsV, res52]; rfl, rfl⟩
      · cases h
    · cases h
  · cases h
end Go.Proofs.Ytmhfkhlamnapdaa
end
section
open Go Go.HL
namespace Go.Proofs.Ytmhfkhlamnapdaa
abbrev bPs (l : List (Int × Int)) : Blk := .arr 2 (l.map encP) true 0
end Go.Proofs.Ytmhfkhlamnapdaa
end
section
open Go Go.HL
namespace Go.Proofs.Ytmhfkhlamnapdaa
/-- A reading that may be taken at two places: what the check of drawn orders asks. -/
def recL (x x' : Option (HV × Heap)) (H H' : Heap) : Bool :=
  match x, x' with
  | some (v, H1), some (v', H1') => same v v' && sameH H1 H && sameH H1' H'
  | _, _ => false
end Go.Proofs.Ytmhfkhlamnapdaa
end
section
open Go Go.HL
namespace Go.Proofs.Ytmhfkhlamnapdaa
/-- The policy of the making of a tree. -/
def primM (g : FuncId) : Option (List HV → Option HV) := if g == 49 then some withinF else if g == 50 then some far50 else if g == 52 then some contains52 else none
def polM : Pol := { pol with prim := primM }
theorem primM_ok (g : FuncId) (f : List HV → Option HV) (h : primM g = some f) : PrimOk Try.prog g f := by
  unfold primM at h
  split at h
  · rename_i hg; cases h; rw [eq_of_beq hg]; exact within_ok
  split at h
  · rename_i hg; cases h; rw [eq_of_beq hg]; exact far_ok
  split at h
  · rename_i hg; cases h; rw [eq_of_beq hg]; exact contains_ok
  · cases h
theorem soundM (n : Nat) : CallSound Try.prog (callN Try.prog polM n) := sound_prim primM primM_ok n
end Go.Proofs.Ytmhfkhlamnapdaa
end
section
open Go Go.HL
namespace Go.Proofs.Ytmhfkhlamnapdaa
set_option maxRecDepth 100000
noncomputable def B46 : Code := Try.f46.body.getD .skip
abbrev env46 (v0 v1 v4 v5 v6 v8 v24 v25 v26 : HV) : Env := [(0, v0), (1, v1), (4, v4), (5, v5), (6, v6), (8, v8), (24, v24), (25, v25), (26, v26)]
theorem nt_a_0 (n : Int) (lc : List HV)   : RunsTo Try.prog polM 46 (sub [0] B46) [(0, .int .i64 n), (1, .imm .arg 2 lc)] [] (.normal) (polM.keys 46) (env46 (.int .i64 n) (.imm .arg 2 lc) (.ptr 0 0 0 1) (.bool false) .undef .undef .undef .undef .undef) [.arr 2 [.agg [.imm .lit 0 [], .nilmap]] true 0] :=
  RunsTo.hint 1 60 [] fun kf hk => by
    obtain ⟨kf, rfl⟩ : ∃ n, kf = n + 1 := ⟨kf - 1, by omega⟩
    exact ⟨[], by kernel_rfl, Obls.nil⟩
theorem nt_b_0 (n : Int) (lc : List HV)  (g0 : ∀ kf, callN Try.prog polM (kf + 1) 49 [.int .i64 n, .int .i64 1, .int .i64 30] [.arr 2 [.agg [.imm .lit 0 [], .nilmap]] true 0] = some (.bool true, [.arr 2 [.agg [.imm .lit 0 [], .nilmap]] true 0])) (g1 : (lc.length : Int) = IntKind.i64.wrap (n - 1)) : RunsTo Try.prog polM 46 (sub [1, 0] B46) (env46 (.int .i64 n) (.imm .arg 2 lc) (.ptr 0 0 0 1) (.bool false) .undef .undef .undef .undef .undef) [.arr 2 [.agg [.imm .lit 0 [], .nilmap]] true 0] (.normal) (polM.keys 46) (env46 (.int .i64 n) (.imm .arg 2 lc) (.ptr 0 0 0 1) (.bool false) .undef .undef .undef .undef .undef) [.arr 2 [.agg [.imm .lit 0 [], .nilmap]] true 0] :=
  RunsTo.hint 1 60 [⟨1, 1, .bool true, [.arr 2 [.agg [.imm .lit 0 [], .nilmap]] true 0]⟩, ⟨1, 8, .bool false, [.arr 2 [.agg [.imm .lit 0 [], .nilmap]] true 0]⟩] fun kf hk => by
    obtain ⟨kf, rfl⟩ : ∃ n, kf = n + 1 := ⟨kf - 1, by omega⟩
    exact ⟨[callN Try.prog polM (kf + 1) 49 [.int .i64 n, .int .i64 1, .int .i64 30] [.arr 2 [.agg [.imm .lit 0 [], .nilmap]] true 0] = some (.bool true, [.arr 2 [.agg [.imm .lit 0 [], .nilmap]] true 0]), some (HV.bool (!decide ((lc.length : Int) = IntKind.i64.wrap (n - 1))), ([.arr 2 [.agg [.imm .lit 0 [], .nilmap]] true 0] : Heap)) = some (.bool false, [.arr 2 [.agg [.imm .lit 0 [], .nilmap]] true 0])], by kernel_rfl, Obls.cons (g0 kf) (Obls.cons (hintB (congrArg not (decide_eq_true g1))) Obls.nil)⟩
theorem nt_b_1 (n : Int) (lc : List HV)  (g0 : ∀ kf, callN Try.prog polM (kf + 1) 49 [.int .i64 n, .int .i64 1, .int .i64 30] [.arr 2 [.agg [.imm .lit 0 [], .nilmap]] true 0] = some (.bool true, [.arr 2 [.agg [.imm .lit 0 [], .nilmap]] true 0])) (g1 : ¬ ((lc.length : Int) = IntKind.i64.wrap (n - 1))) : RunsTo Try.prog polM 46 (sub [1, 0] B46) (env46 (.int .i64 n) (.imm .arg 2 lc) (.ptr 0 0 0 1) (.bool false) .undef .undef .undef .undef .undef) [.arr 2 [.agg [.imm .lit 0 [], .nilmap]] true 0] (.ret) (polM.keys 46) (env46 (.int .i64 n) (.imm .arg 2 lc) (.ptr 0 0 0 1) (.bool false) .undef .undef .undef .undef .undef) [.arr 2 [.agg [.imm .lit 0 [], .nilmap]] true 0] :=
  RunsTo.hint 1 60 [⟨1, 1, .bool true, [.arr 2 [.agg [.imm .lit 0 [], .nilmap]] true 0]⟩, ⟨1, 8, .bool true, [.arr 2 [.agg [.imm .lit 0 [], .nilmap]] true 0]⟩] fun kf hk => by
    obtain ⟨kf, rfl⟩ : ∃ n, kf = n + 1 := ⟨kf - 1, by omega⟩
    exact ⟨[callN Try.prog polM (kf + 1) 49 [.int .i64 n, .int .i64 1, .int .i64 30] [.arr 2 [.agg [.imm .lit 0 [], .nilmap]] true 0] = some (.bool true, [.arr 2 [.agg [.imm .lit 0 [], .nilmap]] true 0]), some (HV.bool (!decide ((lc.length : Int) = IntKind.i64.wrap (n - 1))), ([.arr 2 [.agg [.imm .lit 0 [], .nilmap]] true 0] : Heap)) = some (.bool true, [.arr 2 [.agg [.imm .lit 0 [], .nilmap]] true 0])], by kernel_rfl, Obls.cons (g0 kf) (Obls.cons (hintB (congrArg not (decide_eq_false g1))) Obls.nil)⟩
theorem nt_b_2 (n : Int) (lc : List HV)  (g0 : ∀ kf, callN Try.prog polM (kf + 1) 49 [.int .i64 n, .int .i64 1, .int .i64 30] [.arr 2 [.agg [.imm .lit 0 [], .nilmap]] true 0] = some (.bool false, [.arr 2 [.agg [.imm .lit 0 [], .nilmap]] true 0])) : RunsTo Try.prog polM 46 (sub [1, 0] B46) (env46 (.int .i64 n) (.imm .arg 2 lc) (.ptr 0 0 0 1) (.bool false) .undef .undef .undef .undef .undef) [.arr 2 [.agg [.imm .lit 0 [], .nilmap]] true 0] (.ret) (polM.keys 46) (env46 (.int .i64 n) (.imm .arg 2 lc) (.ptr 0 0 0 1) (.bool false) .undef .undef .undef .undef .undef) [.arr 2 [.agg [.imm .lit 0 [], .nilmap]] true 0] :=
  RunsTo.hint 1 60 [⟨1, 1, .bool false, [.arr 2 [.agg [.imm .lit 0 [], .nilmap]] true 0]⟩] fun kf hk => by
    obtain ⟨kf, rfl⟩ : ∃ n, kf = n + 1 := ⟨kf - 1, by omega⟩
    exact ⟨[callN Try.prog polM (kf + 1) 49 [.int .i64 n, .int .i64 1, .int .i64 30] [.arr 2 [.agg [.imm .lit 0 [], .nilmap]] true 0] = some (.bool false, [.arr 2 [.agg [.imm .lit 0 [], .nilmap]] true 0])], by kernel_rfl, Obls.cons (g0 kf) Obls.nil⟩
theorem nt_c_0 (n : Int) (lc : List HV) (m : Nat) (H : Heap) (H0 : Heap) (H1 : Heap) (H2 : Heap) (H3 : Heap) (g0 : makeV Try.prog true 55 (.int .i64 n) (.int .i64 n) H = some (.sl 1 0 m (some m) m 1, H0)) (g1 : some (HV.map H0.length, H0 ++ [Blk.map [] [] 0]) = some (.map (m + 2), H1)) (g2 : some (newV (.agg [.imm .lit 0 [], .nilmap]) H1) = some (.ptr (m + 3) 0 0 1, H2)) (g3 : storeV Try.prog H2 72 (.ptr (m + 3) 0 0 1) (.agg [.sl 1 0 m (some m) m 1, .map (m + 2)]) = some H3) : RunsTo Try.prog polM 46 (sub [1, 1, 0] B46) (env46 (.int .i64 n) (.imm .arg 2 lc) (.ptr 0 0 0 1) (.bool false) .undef .undef .undef .undef .undef) H (.normal) (polM.keys 46) (env46 (.int .i64 n) (.imm .arg 2 lc) (.ptr 0 0 0 1) (.bool false) (.ptr (m + 3) 0 0 1) .undef .undef .undef .undef) H3 :=
  RunsTo.hint 1 60 [⟨3, 1, .sl 1 0 m (some m) m 1, H0⟩, ⟨3, 2, .map (m + 2), H1⟩, ⟨3, 4, .ptr (m + 3) 0 0 1, H2⟩, ⟨3, 5, .tuple [], H3⟩] fun kf hk => by
    obtain ⟨kf, rfl⟩ : ∃ n, kf = n + 1 := ⟨kf - 1, by omega⟩
    exact ⟨[makeV Try.prog true 55 (.int .i64 n) (.int .i64 n) H = some (.sl 1 0 m (some m) m 1, H0), some (HV.map H0.length, H0 ++ [Blk.map [] [] 0]) = some (.map (m + 2), H1), some (newV (.agg [.imm .lit 0 [], .nilmap]) H1) = some (.ptr (m + 3) 0 0 1, H2), (storeV Try.prog H2 72 (.ptr (m + 3) 0 0 1) (.agg [.sl 1 0 m (some m) m 1, .map (m + 2)])).map (fun H => (HV.tuple [], H)) = some (.tuple [], H3)], by kernel_rfl, Obls.cons (g0) (Obls.cons (g1) (Obls.cons (g2) (Obls.cons (hintSt g3) Obls.nil)))⟩
theorem nt_d_0 (n : Int) (lc : List HV) (m : Nat) (H : Heap)   : RunsTo Try.prog polM 46 (sub [1, 1, 1, 0, 0] B46) (env46 (.int .i64 n) (.imm .arg 2 lc) (.ptr 0 0 0 1) (.bool false) (.ptr (m + 3) 0 0 1) .undef .undef .undef .undef) H (.normal) (polM.keys 46) (env46 (.int .i64 n) (.imm .arg 2 lc) (.ptr 0 0 0 1) (.bool false) (.ptr (m + 3) 0 0 1) .undef (.imm .arg 2 lc) (.int .i64 (lc.length : Int)) (.int .i64 0)) H :=
  RunsTo.hint 1 60 [] fun kf hk => by
    obtain ⟨kf, rfl⟩ : ∃ n, kf = n + 1 := ⟨kf - 1, by omega⟩
    exact ⟨[], by kernel_rfl, Obls.nil⟩
theorem nt_l_0 (n : Int) (lc : List HV) (m : Nat) (H : Heap) (j : Nat) (x0 : Int) (x1 : Int) (a0 : HV) (H0 : Heap) (H1 : Heap) (a1 : HV) (x2 : Int) (H2 : Heap) (a2 : HV) (x3 : Int) (H3 : Heap) (a3 : HV) (x4 : Int) (a4 : HV) (x5 : Int) (H4 : Heap) (g0 : (j : Int) < (lc.length : Int)) (g1 : idxV Try.prog 22 (.imm .arg 2 lc) (.int .i64 (j : Int)) = some (.vptr (.agg [.int .i64 x0, .int .i64 x1]))) (g2 : some (newV (.agg [.int .i64 0, .int .i64 0]) H) = some (a0, H0)) (g3 : storeV Try.prog H0 33 (a0) (.agg [.int .i64 x0, .int .i64 x1]) = some H1) (g4 : idxV Try.prog 33 a0 (.int .i64 0) = some (a1)) (g5 : loadV Try.prog H1 3 (a1) = some (.int .i64 x2)) (g6 : ∀ kf, callN Try.prog polM (kf + 1) 49 [.int .i64 x2, .int .i64 0, .int .i64 (IntKind.i64.wrap (n - 1))] H1 = some (.bool true, H2)) (g7 : idxV Try.prog 33 a0 (.int .i64 1) = some (a2)) (g8 : loadV Try.prog H2 3 (a2) = some (.int .i64 x3)) (g9 : ∀ kf, callN Try.prog polM (kf + 1) 49 [.int .i64 x3, .int .i64 0, .int .i64 (IntKind.i64.wrap (n - 1))] H2 = some (.bool true, H3)) (g10 : idxV Try.prog 33 a0 (.int .i64 0) = some (a3)) (g11 : loadV Try.prog H3 3 (a3) = some (.int .i64 x4)) (g12 : idxV Try.prog 33 a0 (.int .i64 1) = some (a4)) (g13 : loadV Try.prog H3 3 (a4) = some (.int .i64 x5)) (g14 : x4 = x5) (g15 : storeV Try.prog H3 72 (.ptr 0 0 0 1) (.agg [.imm .lit 0 [], .nilmap]) = some H4) : RunsTo Try.prog polM 46 (sub [1, 1, 1, 0, 1, 0, 0] B46) (env46 (.int .i64 n) (.imm .arg 2 lc) (.ptr 0 0 0 1) (.bool false) (.ptr (m + 3) 0 0 1) .undef (.imm .arg 2 lc) (.int .i64 (lc.length : Int)) (.int .i64 (j : Int))) H (.ret) (polM.keys 46) (env46 (.int .i64 n) (.imm .arg 2 lc) (.ptr 0 0 0 1) (.bool false) (.ptr (m + 3) 0 0 1) a0 (.imm .arg 2 lc) (.int .i64 (lc.length : Int)) (.int .i64 (j : Int))) H4 :=
  RunsTo.hint 1 60 [⟨5, 0, .bool true, H⟩, ⟨6, 0, .vptr (.agg [.int .i64 x0, .int .i64 x1]), H⟩, ⟨6, 2, a0, H0⟩, ⟨6, 3, .tuple [], H1⟩, ⟨7, 0, a1, H1⟩, ⟨7, 1, .int .i64 x2, H1⟩, ⟨7, 4, .bool true, H2⟩, ⟨7, 7, a2, H2⟩, ⟨7, 8, .int .i64 x3, H2⟩, ⟨7, 11, .bool true, H3⟩, ⟨7, 15, a3, H3⟩, ⟨7, 16, .int .i64 x4, H3⟩, ⟨7, 17, a4, H3⟩, ⟨7, 18, .int .i64 x5, H3⟩, ⟨7, 19, .bool true, H3⟩, ⟨8, 1, .tuple [], H4⟩] fun kf hk => by
    obtain ⟨kf, rfl⟩ : ∃ n, kf = n + 1 := ⟨kf - 1, by omega⟩
    exact ⟨[some (HV.bool (decide ((j : Int) < (lc.length : Int))), (H : Heap)) = some (.bool true, H), (idxV Try.prog 22 (.imm .arg 2 lc) (.int .i64 (j : Int))).map (fun v => (v, (H : Heap))) = some (.vptr (.agg [.int .i64 x0, .int .i64 x1]), H), some (newV (.agg [.int .i64 0, .int .i64 0]) H) = some (a0, H0), (storeV Try.prog H0 33 (a0) (.agg [.int .i64 x0, .int .i64 x1])).map (fun H => (HV.tuple [], H)) = some (.tuple [], H1), (idxV Try.prog 33 a0 (.int .i64 0)).map (fun v => (v, (H1 : Heap))) = some (a1, H1), (loadV Try.prog H1 3 (a1)).map (fun v => (v, (H1 : Heap))) = some (.int .i64 x2, H1), callN Try.prog polM (kf + 1) 49 [.int .i64 x2, .int .i64 0, .int .i64 (IntKind.i64.wrap (n - 1))] H1 = some (.bool true, H2), (idxV Try.prog 33 a0 (.int .i64 1)).map (fun v => (v, (H2 : Heap))) = some (a2, H2), (loadV Try.prog H2 3 (a2)).map (fun v => (v, (H2 : Heap))) = some (.int .i64 x3, H2), callN Try.prog polM (kf + 1) 49 [.int .i64 x3, .int .i64 0, .int .i64 (IntKind.i64.wrap (n - 1))] H2 = some (.bool true, H3), (idxV Try.prog 33 a0 (.int .i64 0)).map (fun v => (v, (H3 : Heap))) = some (a3, H3), (loadV Try.prog H3 3 (a3)).map (fun v => (v, (H3 : Heap))) = some (.int .i64 x4, H3), (idxV Try.prog 33 a0 (.int .i64 1)).map (fun v => (v, (H3 : Heap))) = some (a4, H3), (loadV Try.prog H3 3 (a4)).map (fun v => (v, (H3 : Heap))) = some (.int .i64 x5, H3), some (HV.bool (decide (x4 = x5)), (H3 : Heap)) = some (.bool true, H3), (storeV Try.prog H3 72 (.ptr 0 0 0 1) (.agg [.imm .lit 0 [], .nilmap])).map (fun H => (HV.tuple [], H)) = some (.tuple [], H4)], by kernel_rfl, Obls.cons (hintB (decide_eq_true g0)) (Obls.cons (hintOp g1) (Obls.cons (g2) (Obls.cons (hintSt g3) (Obls.cons (hintOp g4) (Obls.cons (hintOp g5) (Obls.cons (g6 kf) (Obls.cons (hintOp g7) (Obls.cons (hintOp g8) (Obls.cons (g9 kf) (Obls.cons (hintOp g10) (Obls.cons (hintOp g11) (Obls.cons (hintOp g12) (Obls.cons (hintOp g13) (Obls.cons (hintB (decide_eq_true g14)) (Obls.cons (hintSt g15) Obls.nil)))))))))))))))⟩
theorem nt_l_1 (n : Int) (lc : List HV) (m : Nat) (H : Heap) (j : Nat) (x0 : Int) (x1 : Int) (a0 : HV) (H0 : Heap) (H1 : Heap) (a1 : HV) (x2 : Int) (H2 : Heap) (a2 : HV) (x3 : Int) (H3 : Heap) (a3 : HV) (x4 : Int) (a4 : HV) (x5 : Int) (a5 : HV) (x6 : Int) (a6 : HV) (x7 : Int) (v0 : HV) (a7 : HV) (x8 : Int) (H4 : Heap) (v1 : HV) (H5 : Heap) (a8 : HV) (x9 : Int) (a9 : HV) (x10 : Int) (v2 : HV) (a10 : HV) (x11 : Int) (H6 : Heap) (v3 : HV) (H7 : Heap) (g0 : (j : Int) < (lc.length : Int)) (g1 : idxV Try.prog 22 (.imm .arg 2 lc) (.int .i64 (j : Int)) = some (.vptr (.agg [.int .i64 x0, .int .i64 x1]))) (g2 : some (newV (.agg [.int .i64 0, .int .i64 0]) H) = some (a0, H0)) (g3 : storeV Try.prog H0 33 (a0) (.agg [.int .i64 x0, .int .i64 x1]) = some H1) (g4 : idxV Try.prog 33 a0 (.int .i64 0) = some (a1)) (g5 : loadV Try.prog H1 3 (a1) = some (.int .i64 x2)) (g6 : ∀ kf, callN Try.prog polM (kf + 1) 49 [.int .i64 x2, .int .i64 0, .int .i64 (IntKind.i64.wrap (n - 1))] H1 = some (.bool true, H2)) (g7 : idxV Try.prog 33 a0 (.int .i64 1) = some (a2)) (g8 : loadV Try.prog H2 3 (a2) = some (.int .i64 x3)) (g9 : ∀ kf, callN Try.prog polM (kf + 1) 49 [.int .i64 x3, .int .i64 0, .int .i64 (IntKind.i64.wrap (n - 1))] H2 = some (.bool true, H3)) (g10 : idxV Try.prog 33 a0 (.int .i64 0) = some (a3)) (g11 : loadV Try.prog H3 3 (a3) = some (.int .i64 x4)) (g12 : idxV Try.prog 33 a0 (.int .i64 1) = some (a4)) (g13 : loadV Try.prog H3 3 (a4) = some (.int .i64 x5)) (g14 : ¬ (x4 = x5)) (g15 : loadV Try.prog H3 55 (.ptr (m + 3) 0 0 1) = some (.sl 1 0 m (some m) m 1)) (g16 : idxV Try.prog 33 a0 (.int .i64 0) = some (a5)) (g17 : loadV Try.prog H3 3 (a5) = some (.int .i64 x6)) (g18 : loadV Try.prog H3 55 (.ptr (m + 3) 0 0 1) = some (.sl 1 0 m (some m) m 1)) (g19 : idxV Try.prog 33 a0 (.int .i64 0) = some (a6)) (g20 : loadV Try.prog H3 3 (a6) = some (.int .i64 x7)) (g21 : idxV Try.prog 55 (.sl 1 0 m (some m) m 1) (.int .i64 x7) = some (.ptr 1 ((x7).toNat) 0 m)) (g22 : loadV Try.prog H3 24 (.ptr 1 ((x7).toNat) 0 m) = some (v0)) (g23 : idxV Try.prog 33 a0 (.int .i64 1) = some (a7)) (g24 : loadV Try.prog H3 3 (a7) = some (.int .i64 x8)) (g25 : appV H3 1 8 (v0) [.int .i64 x8] = some (v1, H4)) (g26 : idxV Try.prog 55 (.sl 1 0 m (some m) m 1) (.int .i64 x6) = some (.ptr 1 ((x6).toNat) 0 m)) (g27 : storeV Try.prog H4 24 (.ptr 1 ((x6).toNat) 0 m) (v1) = some H5) (gS9 : (recL ((loadV Try.prog H3 55 (.ptr (m + 3) 0 0 1)).map (fun v => (v, (H3 : Heap)))) ((loadV Try.prog H3 55 (.ptr (m + 3) 0 0 1)).map (fun v => (v, (H3 : Heap)))) H3 H3 && (recL ((loadV Try.prog H3 55 (.ptr (m + 3) 0 0 1)).map (fun v => (v, (H3 : Heap)))) ((loadV Try.prog H4 55 (.ptr (m + 3) 0 0 1)).map (fun v => (v, (H4 : Heap)))) H3 H4 && (recL ((loadV Try.prog H3 3 (a5)).map (fun v => (v, (H3 : Heap)))) ((loadV Try.prog H3 3 (a5)).map (fun v => (v, (H3 : Heap)))) H3 H3 && (recL ((loadV Try.prog H3 3 (a5)).map (fun v => (v, (H3 : Heap)))) ((loadV Try.prog H4 3 (a5)).map (fun v => (v, (H4 : Heap)))) H3 H4 && (recL ((loadV Try.prog H3 55 (.ptr (m + 3) 0 0 1)).map (fun v => (v, (H3 : Heap)))) ((loadV Try.prog H3 55 (.ptr (m + 3) 0 0 1)).map (fun v => (v, (H3 : Heap)))) H3 H3 && (recL ((loadV Try.prog H3 3 (a6)).map (fun v => (v, (H3 : Heap)))) ((loadV Try.prog H3 3 (a6)).map (fun v => (v, (H3 : Heap)))) H3 H3 && (recL ((loadV Try.prog H3 24 (.ptr 1 ((x7).toNat) 0 m)).map (fun v => (v, (H3 : Heap)))) ((loadV Try.prog H3 24 (.ptr 1 ((x7).toNat) 0 m)).map (fun v => (v, (H3 : Heap)))) H3 H3 && true))))))) = true) (g29 : loadV Try.prog H5 55 (.ptr (m + 3) 0 0 1) = some (.sl 1 0 m (some m) m 1)) (g30 : idxV Try.prog 33 a0 (.int .i64 1) = some (a8)) (g31 : loadV Try.prog H5 3 (a8) = some (.int .i64 x9)) (g32 : loadV Try.prog H5 55 (.ptr (m + 3) 0 0 1) = some (.sl 1 0 m (some m) m 1)) (g33 : idxV Try.prog 33 a0 (.int .i64 1) = some (a9)) (g34 : loadV Try.prog H5 3 (a9) = some (.int .i64 x10)) (g35 : idxV Try.prog 55 (.sl 1 0 m (some m) m 1) (.int .i64 x10) = some (.ptr 1 ((x10).toNat) 0 m)) (g36 : loadV Try.prog H5 24 (.ptr 1 ((x10).toNat) 0 m) = some (v2)) (g37 : idxV Try.prog 33 a0 (.int .i64 0) = some (a10)) (g38 : loadV Try.prog H5 3 (a10) = some (.int .i64 x11)) (g39 : appV H5 1 8 (v2) [.int .i64 x11] = some (v3, H6)) (g40 : idxV Try.prog 55 (.sl 1 0 m (some m) m 1) (.int .i64 x9) = some (.ptr 1 ((x9).toNat) 0 m)) (g41 : storeV Try.prog H6 24 (.ptr 1 ((x9).toNat) 0 m) (v3) = some H7) (gS10 : (recL ((loadV Try.prog H5 55 (.ptr (m + 3) 0 0 1)).map (fun v => (v, (H5 : Heap)))) ((loadV Try.prog H5 55 (.ptr (m + 3) 0 0 1)).map (fun v => (v, (H5 : Heap)))) H5 H5 && (recL ((loadV Try.prog H5 55 (.ptr (m + 3) 0 0 1)).map (fun v => (v, (H5 : Heap)))) ((loadV Try.prog H6 55 (.ptr (m + 3) 0 0 1)).map (fun v => (v, (H6 : Heap)))) H5 H6 && (recL ((loadV Try.prog H5 3 (a8)).map (fun v => (v, (H5 : Heap)))) ((loadV Try.prog H5 3 (a8)).map (fun v => (v, (H5 : Heap)))) H5 H5 && (recL ((loadV Try.prog H5 3 (a8)).map (fun v => (v, (H5 : Heap)))) ((loadV Try.prog H6 3 (a8)).map (fun v => (v, (H6 : Heap)))) H5 H6 && (recL ((loadV Try.prog H5 55 (.ptr (m + 3) 0 0 1)).map (fun v => (v, (H5 : Heap)))) ((loadV Try.prog H5 55 (.ptr (m + 3) 0 0 1)).map (fun v => (v, (H5 : Heap)))) H5 H5 && (recL ((loadV Try.prog H5 3 (a9)).map (fun v => (v, (H5 : Heap)))) ((loadV Try.prog H5 3 (a9)).map (fun v => (v, (H5 : Heap)))) H5 H5 && (recL ((loadV Try.prog H5 24 (.ptr 1 ((x10).toNat) 0 m)).map (fun v => (v, (H5 : Heap)))) ((loadV Try.prog H5 24 (.ptr 1 ((x10).toNat) 0 m)).map (fun v => (v, (H5 : Heap)))) H5 H5 && true))))))) = true) : RunsTo Try.prog polM 46 (sub [1, 1, 1, 0, 1, 0, 0] B46) (env46 (.int .i64 n) (.imm .arg 2 lc) (.ptr 0 0 0 1) (.bool false) (.ptr (m + 3) 0 0 1) .undef (.imm .arg 2 lc) (.int .i64 (lc.length : Int)) (.int .i64 (j : Int))) H (.normal) (polM.keys 46) (env46 (.int .i64 n) (.imm .arg 2 lc) (.ptr 0 0 0 1) (.bool false) (.ptr (m + 3) 0 0 1) a0 (.imm .arg 2 lc) (.int .i64 (lc.length : Int)) (.int .i64 (IntKind.i64.wrap ((j : Int) + 1)))) H7 :=
  RunsTo.hint 1 60 [⟨5, 0, .bool true, H⟩, ⟨6, 0, .vptr (.agg [.int .i64 x0, .int .i64 x1]), H⟩, ⟨6, 2, a0, H0⟩, ⟨6, 3, .tuple [], H1⟩, ⟨7, 0, a1, H1⟩, ⟨7, 1, .int .i64 x2, H1⟩, ⟨7, 4, .bool true, H2⟩, ⟨7, 7, a2, H2⟩, ⟨7, 8, .int .i64 x3, H2⟩, ⟨7, 11, .bool true, H3⟩, ⟨7, 15, a3, H3⟩, ⟨7, 16, .int .i64 x4, H3⟩, ⟨7, 17, a4, H3⟩, ⟨7, 18, .int .i64 x5, H3⟩, ⟨7, 19, .bool false, H3⟩, ⟨9, 1, .sl 1 0 m (some m) m 1, H3⟩, ⟨9, 2, a5, H3⟩, ⟨9, 3, .int .i64 x6, H3⟩, ⟨9, 5, .sl 1 0 m (some m) m 1, H3⟩, ⟨9, 6, a6, H3⟩, ⟨9, 7, .int .i64 x7, H3⟩, ⟨9, 8, .ptr 1 ((x7).toNat) 0 m, H3⟩, ⟨9, 9, v0, H3⟩, ⟨9, 10, a7, H3⟩, ⟨9, 11, .int .i64 x8, H3⟩, ⟨9, 13, v1, H4⟩, ⟨9, 14, .ptr 1 ((x6).toNat) 0 m, H4⟩, ⟨9, 15, .tuple [], H5⟩, ⟨10, 1, .sl 1 0 m (some m) m 1, H5⟩, ⟨10, 2, a8, H5⟩, ⟨10, 3, .int .i64 x9, H5⟩, ⟨10, 5, .sl 1 0 m (some m) m 1, H5⟩, ⟨10, 6, a9, H5⟩, ⟨10, 7, .int .i64 x10, H5⟩, ⟨10, 8, .ptr 1 ((x10).toNat) 0 m, H5⟩, ⟨10, 9, v2, H5⟩, ⟨10, 10, a10, H5⟩, ⟨10, 11, .int .i64 x11, H5⟩, ⟨10, 13, v3, H6⟩, ⟨10, 14, .ptr 1 ((x9).toNat) 0 m, H6⟩, ⟨10, 15, .tuple [], H7⟩] fun kf hk => by
    obtain ⟨kf, rfl⟩ : ∃ n, kf = n + 1 := ⟨kf - 1, by omega⟩
    exact ⟨[some (HV.bool (decide ((j : Int) < (lc.length : Int))), (H : Heap)) = some (.bool true, H), (idxV Try.prog 22 (.imm .arg 2 lc) (.int .i64 (j : Int))).map (fun v => (v, (H : Heap))) = some (.vptr (.agg [.int .i64 x0, .int .i64 x1]), H), some (newV (.agg [.int .i64 0, .int .i64 0]) H) = some (a0, H0), (storeV Try.prog H0 33 (a0) (.agg [.int .i64 x0, .int .i64 x1])).map (fun H => (HV.tuple [], H)) = some (.tuple [], H1), (idxV Try.prog 33 a0 (.int .i64 0)).map (fun v => (v, (H1 : Heap))) = some (a1, H1), (loadV Try.prog H1 3 (a1)).map (fun v => (v, (H1 : Heap))) = some (.int .i64 x2, H1), callN Try.prog polM (kf + 1) 49 [.int .i64 x2, .int .i64 0, .int .i64 (IntKind.i64.wrap (n - 1))] H1 = some (.bool true, H2), (idxV Try.prog 33 a0 (.int .i64 1)).map (fun v => (v, (H2 : Heap))) = some (a2, H2), (loadV Try.prog H2 3 (a2)).map (fun v => (v, (H2 : Heap))) = some (.int .i64 x3, H2), callN Try.prog polM (kf + 1) 49 [.int .i64 x3, .int .i64 0, .int .i64 (IntKind.i64.wrap (n - 1))] H2 = some (.bool true, H3), (idxV Try.prog 33 a0 (.int .i64 0)).map (fun v => (v, (H3 : Heap))) = some (a3, H3), (loadV Try.prog H3 3 (a3)).map (fun v => (v, (H3 : Heap))) = some (.int .i64 x4, H3), (idxV Try.prog 33 a0 (.int .i64 1)).map (fun v => (v, (H3 : Heap))) = some (a4, H3), (loadV Try.prog H3 3 (a4)).map (fun v => (v, (H3 : Heap))) = some (.int .i64 x5, H3), some (HV.bool (decide (x4 = x5)), (H3 : Heap)) = some (.bool false, H3), (recL ((loadV Try.prog H3 55 (.ptr (m + 3) 0 0 1)).map (fun v => (v, (H3 : Heap)))) ((loadV Try.prog H3 55 (.ptr (m + 3) 0 0 1)).map (fun v => (v, (H3 : Heap)))) H3 H3 && (recL ((loadV Try.prog H3 55 (.ptr (m + 3) 0 0 1)).map (fun v => (v, (H3 : Heap)))) ((loadV Try.prog H4 55 (.ptr (m + 3) 0 0 1)).map (fun v => (v, (H4 : Heap)))) H3 H4 && (recL ((loadV Try.prog H3 3 (a5)).map (fun v => (v, (H3 : Heap)))) ((loadV Try.prog H3 3 (a5)).map (fun v => (v, (H3 : Heap)))) H3 H3 && (recL ((loadV Try.prog H3 3 (a5)).map (fun v => (v, (H3 : Heap)))) ((loadV Try.prog H4 3 (a5)).map (fun v => (v, (H4 : Heap)))) H3 H4 && (recL ((loadV Try.prog H3 55 (.ptr (m + 3) 0 0 1)).map (fun v => (v, (H3 : Heap)))) ((loadV Try.prog H3 55 (.ptr (m + 3) 0 0 1)).map (fun v => (v, (H3 : Heap)))) H3 H3 && (recL ((loadV Try.prog H3 3 (a6)).map (fun v => (v, (H3 : Heap)))) ((loadV Try.prog H3 3 (a6)).map (fun v => (v, (H3 : Heap)))) H3 H3 && (recL ((loadV Try.prog H3 24 (.ptr 1 ((x7).toNat) 0 m)).map (fun v => (v, (H3 : Heap)))) ((loadV Try.prog H3 24 (.ptr 1 ((x7).toNat) 0 m)).map (fun v => (v, (H3 : Heap)))) H3 H3 && true))))))) = true, (loadV Try.prog H3 55 (.ptr (m + 3) 0 0 1)).map (fun v => (v, (H3 : Heap))) = some (.sl 1 0 m (some m) m 1, H3), (idxV Try.prog 33 a0 (.int .i64 0)).map (fun v => (v, (H3 : Heap))) = some (a5, H3), (loadV Try.prog H3 3 (a5)).map (fun v => (v, (H3 : Heap))) = some (.int .i64 x6, H3), (loadV Try.prog H3 55 (.ptr (m + 3) 0 0 1)).map (fun v => (v, (H3 : Heap))) = some (.sl 1 0 m (some m) m 1, H3), (idxV Try.prog 33 a0 (.int .i64 0)).map (fun v => (v, (H3 : Heap))) = some (a6, H3), (loadV Try.prog H3 3 (a6)).map (fun v => (v, (H3 : Heap))) = some (.int .i64 x7, H3), (idxV Try.prog 55 (.sl 1 0 m (some m) m 1) (.int .i64 x7)).map (fun v => (v, (H3 : Heap))) = some (.ptr 1 ((x7).toNat) 0 m, H3), (loadV Try.prog H3 24 (.ptr 1 ((x7).toNat) 0 m)).map (fun v => (v, (H3 : Heap))) = some (v0, H3), (idxV Try.prog 33 a0 (.int .i64 1)).map (fun v => (v, (H3 : Heap))) = some (a7, H3), (loadV Try.prog H3 3 (a7)).map (fun v => (v, (H3 : Heap))) = some (.int .i64 x8, H3), appV H3 1 8 (v0) [.int .i64 x8] = some (v1, H4), (idxV Try.prog 55 (.sl 1 0 m (some m) m 1) (.int .i64 x6)).map (fun v => (v, (H4 : Heap))) = some (.ptr 1 ((x6).toNat) 0 m, H4), (storeV Try.prog H4 24 (.ptr 1 ((x6).toNat) 0 m) (v1)).map (fun H => (HV.tuple [], H)) = some (.tuple [], H5), (recL ((loadV Try.prog H5 55 (.ptr (m + 3) 0 0 1)).map (fun v => (v, (H5 : Heap)))) ((loadV Try.prog H5 55 (.ptr (m + 3) 0 0 1)).map (fun v => (v, (H5 : Heap)))) H5 H5 && (recL ((loadV Try.prog H5 55 (.ptr (m + 3) 0 0 1)).map (fun v => (v, (H5 : Heap)))) ((loadV Try.prog H6 55 (.ptr (m + 3) 0 0 1)).map (fun v => (v, (H6 : Heap)))) H5 H6 && (recL ((loadV Try.prog H5 3 (a8)).map (fun v => (v, (H5 : Heap)))) ((loadV Try.prog H5 3 (a8)).map (fun v => (v, (H5 : Heap)))) H5 H5 && (recL ((loadV Try.prog H5 3 (a8)).map (fun v => (v, (H5 : Heap)))) ((loadV Try.prog H6 3 (a8)).map (fun v => (v, (H6 : Heap)))) H5 H6 && (recL ((loadV Try.prog H5 55 (.ptr (m + 3) 0 0 1)).map (fun v => (v, (H5 : Heap)))) ((loadV Try.prog H5 55 (.ptr (m + 3) 0 0 1)).map (fun v => (v, (H5 : Heap)))) H5 H5 && (recL ((loadV Try.prog H5 3 (a9)).map (fun v => (v, (H5 : Heap)))) ((loadV Try.prog H5 3 (a9)).map (fun v => (v, (H5 : Heap)))) H5 H5 && (recL ((loadV Try.prog H5 24 (.ptr 1 ((x10).toNat) 0 m)).map (fun v => (v, (H5 : Heap)))) ((loadV Try.prog H5 24 (.ptr 1 ((x10).toNat) 0 m)).map (fun v => (v, (H5 : Heap)))) H5 H5 && true))))))) = true, (loadV Try.prog H5 55 (.ptr (m + 3) 0 0 1)).map (fun v => (v, (H5 : Heap))) = some (.sl 1 0 m (some m) m 1, H5), (idxV Try.prog 33 a0 (.int .i64 1)).map (fun v => (v, (H5 : Heap))) = some (a8, H5), (loadV Try.prog H5 3 (a8)).map (fun v => (v, (H5 : Heap))) = some (.int .i64 x9, H5), (loadV Try.prog H5 55 (.ptr (m + 3) 0 0 1)).map (fun v => (v, (H5 : Heap))) = some (.sl 1 0 m (some m) m 1, H5), (idxV Try.prog 33 a0 (.int .i64 1)).map (fun v => (v, (H5 : Heap))) = some (a9, H5), (loadV Try.prog H5 3 (a9)).map (fun v => (v, (H5 : Heap))) = some (.int .i64 x10, H5), (idxV Try.prog 55 (.sl 1 0 m (some m) m 1) (.int .i64 x10)).map (fun v => (v, (H5 : Heap))) = some (.ptr 1 ((x10).toNat) 0 m, H5), (loadV Try.prog H5 24 (.ptr 1 ((x10).toNat) 0 m)).map (fun v => (v, (H5 : Heap))) = some (v2, H5), (idxV Try.prog 33 a0 (.int .i64 0)).map (fun v => (v, (H5 : Heap))) = some (a10, H5), (loadV Try.prog H5 3 (a10)).map (fun v => (v, (H5 : Heap))) = some (.int .i64 x11, H5), appV H5 1 8 (v2) [.int .i64 x11] = some (v3, H6), (idxV Try.prog 55 (.sl 1 0 m (some m) m 1) (.int .i64 x9)).map (fun v => (v, (H6 : Heap))) = some (.ptr 1 ((x9).toNat) 0 m, H6), (storeV Try.prog H6 24 (.ptr 1 ((x9).toNat) 0 m) (v3)).map (fun H => (HV.tuple [], H)) = some (.tuple [], H7)], by kernel_rfl, Obls.cons (hintB (decide_eq_true g0)) (Obls.cons (hintOp g1) (Obls.cons (g2) (Obls.cons (hintSt g3) (Obls.cons (hintOp g4) (Obls.cons (hintOp g5) (Obls.cons (g6 kf) (Obls.cons (hintOp g7) (Obls.cons (hintOp g8) (Obls.cons (g9 kf) (Obls.cons (hintOp g10) (Obls.cons (hintOp g11) (Obls.cons (hintOp g12) (Obls.cons (hintOp g13) (Obls.cons (hintB (decide_eq_false g14)) (Obls.cons (gS9) (Obls.cons (hintOp g15) (Obls.cons (hintOp g16) (Obls.cons (hintOp g17) (Obls.cons (hintOp g18) (Obls.cons (hintOp g19) (Obls.cons (hintOp g20) (Obls.cons (hintOp g21) (Obls.cons (hintOp g22) (Obls.cons (hintOp g23) (Obls.cons (hintOp g24) (Obls.cons (g25) (Obls.cons (hintOp g26) (Obls.cons (hintSt g27) (Obls.cons (gS10) (Obls.cons (hintOp g29) (Obls.cons (hintOp g30) (Obls.cons (hintOp g31) (Obls.cons (hintOp g32) (Obls.cons (hintOp g33) (Obls.cons (hintOp g34) (Obls.cons (hintOp g35) (Obls.cons (hintOp g36) (Obls.cons (hintOp g37) (Obls.cons (hintOp g38) (Obls.cons (g39) (Obls.cons (hintOp g40) (Obls.cons (hintSt g41) Obls.nil))))))))))))))))))))))))))))))))))))))))))⟩
theorem nt_l_2 (n : Int) (lc : List HV) (m : Nat) (H : Heap) (j : Nat) (x0 : Int) (x1 : Int) (a0 : HV) (H0 : Heap) (H1 : Heap) (a1 : HV) (x2 : Int) (H2 : Heap) (a2 : HV) (x3 : Int) (H3 : Heap) (H4 : Heap) (g0 : (j : Int) < (lc.length : Int)) (g1 : idxV Try.prog 22 (.imm .arg 2 lc) (.int .i64 (j : Int)) = some (.vptr (.agg [.int .i64 x0, .int .i64 x1]))) (g2 : some (newV (.agg [.int .i64 0, .int .i64 0]) H) = some (a0, H0)) (g3 : storeV Try.prog H0 33 (a0) (.agg [.int .i64 x0, .int .i64 x1]) = some H1) (g4 : idxV Try.prog 33 a0 (.int .i64 0) = some (a1)) (g5 : loadV Try.prog H1 3 (a1) = some (.int .i64 x2)) (g6 : ∀ kf, callN Try.prog polM (kf + 1) 49 [.int .i64 x2, .int .i64 0, .int .i64 (IntKind.i64.wrap (n - 1))] H1 = some (.bool true, H2)) (g7 : idxV Try.prog 33 a0 (.int .i64 1) = some (a2)) (g8 : loadV Try.prog H2 3 (a2) = some (.int .i64 x3)) (g9 : ∀ kf, callN Try.prog polM (kf + 1) 49 [.int .i64 x3, .int .i64 0, .int .i64 (IntKind.i64.wrap (n - 1))] H2 = some (.bool false, H3)) (g10 : storeV Try.prog H3 72 (.ptr 0 0 0 1) (.agg [.imm .lit 0 [], .nilmap]) = some H4) : RunsTo Try.prog polM 46 (sub [1, 1, 1, 0, 1, 0, 0] B46) (env46 (.int .i64 n) (.imm .arg 2 lc) (.ptr 0 0 0 1) (.bool false) (.ptr (m + 3) 0 0 1) .undef (.imm .arg 2 lc) (.int .i64 (lc.length : Int)) (.int .i64 (j : Int))) H (.ret) (polM.keys 46) (env46 (.int .i64 n) (.imm .arg 2 lc) (.ptr 0 0 0 1) (.bool false) (.ptr (m + 3) 0 0 1) a0 (.imm .arg 2 lc) (.int .i64 (lc.length : Int)) (.int .i64 (j : Int))) H4 :=
  RunsTo.hint 1 60 [⟨5, 0, .bool true, H⟩, ⟨6, 0, .vptr (.agg [.int .i64 x0, .int .i64 x1]), H⟩, ⟨6, 2, a0, H0⟩, ⟨6, 3, .tuple [], H1⟩, ⟨7, 0, a1, H1⟩, ⟨7, 1, .int .i64 x2, H1⟩, ⟨7, 4, .bool true, H2⟩, ⟨7, 7, a2, H2⟩, ⟨7, 8, .int .i64 x3, H2⟩, ⟨7, 11, .bool false, H3⟩, ⟨8, 1, .tuple [], H4⟩] fun kf hk => by
    obtain ⟨kf, rfl⟩ : ∃ n, kf = n + 1 := ⟨kf - 1, by omega⟩
    exact ⟨[some (HV.bool (decide ((j : Int) < (lc.length : Int))), (H : Heap)) = some (.bool true, H), (idxV Try.prog 22 (.imm .arg 2 lc) (.int .i64 (j : Int))).map (fun v => (v, (H : Heap))) = some (.vptr (.agg [.int .i64 x0, .int .i64 x1]), H), some (newV (.agg [.int .i64 0, .int .i64 0]) H) = some (a0, H0), (storeV Try.prog H0 33 (a0) (.agg [.int .i64 x0, .int .i64 x1])).map (fun H => (HV.tuple [], H)) = some (.tuple [], H1), (idxV Try.prog 33 a0 (.int .i64 0)).map (fun v => (v, (H1 : Heap))) = some (a1, H1), (loadV Try.prog H1 3 (a1)).map (fun v => (v, (H1 : Heap))) = some (.int .i64 x2, H1), callN Try.prog polM (kf + 1) 49 [.int .i64 x2, .int .i64 0, .int .i64 (IntKind.i64.wrap (n - 1))] H1 = some (.bool true, H2), (idxV Try.prog 33 a0 (.int .i64 1)).map (fun v => (v, (H2 : Heap))) = some (a2, H2), (loadV Try.prog H2 3 (a2)).map (fun v => (v, (H2 : Heap))) = some (.int .i64 x3, H2), callN Try.prog polM (kf + 1) 49 [.int .i64 x3, .int .i64 0, .int .i64 (IntKind.i64.wrap (n - 1))] H2 = some (.bool false, H3), (storeV Try.prog H3 72 (.ptr 0 0 0 1) (.agg [.imm .lit 0 [], .nilmap])).map (fun H => (HV.tuple [], H)) = some (.tuple [], H4)], by kernel_rfl, Obls.cons (hintB (decide_eq_true g0)) (Obls.cons (hintOp g1) (Obls.cons (g2) (Obls.cons (hintSt g3) (Obls.cons (hintOp g4) (Obls.cons (hintOp g5) (Obls.cons (g6 kf) (Obls.cons (hintOp g7) (Obls.cons (hintOp g8) (Obls.cons (g9 kf) (Obls.cons (hintSt g10) Obls.nil))))))))))⟩
theorem nt_l_3 (n : Int) (lc : List HV) (m : Nat) (H : Heap) (j : Nat) (x0 : Int) (x1 : Int) (a0 : HV) (H0 : Heap) (H1 : Heap) (a1 : HV) (x2 : Int) (H2 : Heap) (H3 : Heap) (g0 : (j : Int) < (lc.length : Int)) (g1 : idxV Try.prog 22 (.imm .arg 2 lc) (.int .i64 (j : Int)) = some (.vptr (.agg [.int .i64 x0, .int .i64 x1]))) (g2 : some (newV (.agg [.int .i64 0, .int .i64 0]) H) = some (a0, H0)) (g3 : storeV Try.prog H0 33 (a0) (.agg [.int .i64 x0, .int .i64 x1]) = some H1) (g4 : idxV Try.prog 33 a0 (.int .i64 0) = some (a1)) (g5 : loadV Try.prog H1 3 (a1) = some (.int .i64 x2)) (g6 : ∀ kf, callN Try.prog polM (kf + 1) 49 [.int .i64 x2, .int .i64 0, .int .i64 (IntKind.i64.wrap (n - 1))] H1 = some (.bool false, H2)) (g7 : storeV Try.prog H2 72 (.ptr 0 0 0 1) (.agg [.imm .lit 0 [], .nilmap]) = some H3) : RunsTo Try.prog polM 46 (sub [1, 1, 1, 0, 1, 0, 0] B46) (env46 (.int .i64 n) (.imm .arg 2 lc) (.ptr 0 0 0 1) (.bool false) (.ptr (m + 3) 0 0 1) .undef (.imm .arg 2 lc) (.int .i64 (lc.length : Int)) (.int .i64 (j : Int))) H (.ret) (polM.keys 46) (env46 (.int .i64 n) (.imm .arg 2 lc) (.ptr 0 0 0 1) (.bool false) (.ptr (m + 3) 0 0 1) a0 (.imm .arg 2 lc) (.int .i64 (lc.length : Int)) (.int .i64 (j : Int))) H3 :=
  RunsTo.hint 1 60 [⟨5, 0, .bool true, H⟩, ⟨6, 0, .vptr (.agg [.int .i64 x0, .int .i64 x1]), H⟩, ⟨6, 2, a0, H0⟩, ⟨6, 3, .tuple [], H1⟩, ⟨7, 0, a1, H1⟩, ⟨7, 1, .int .i64 x2, H1⟩, ⟨7, 4, .bool false, H2⟩, ⟨8, 1, .tuple [], H3⟩] fun kf hk => by
    obtain ⟨kf, rfl⟩ : ∃ n, kf = n + 1 := ⟨kf - 1, by omega⟩
    exact ⟨[some (HV.bool (decide ((j : Int) < (lc.length : Int))), (H : Heap)) = some (.bool true, H), (idxV Try.prog 22 (.imm .arg 2 lc) (.int .i64 (j : Int))).map (fun v => (v, (H : Heap))) = some (.vptr (.agg [.int .i64 x0, .int .i64 x1]), H), some (newV (.agg [.int .i64 0, .int .i64 0]) H) = some (a0, H0), (storeV Try.prog H0 33 (a0) (.agg [.int .i64 x0, .int .i64 x1])).map (fun H => (HV.tuple [], H)) = some (.tuple [], H1), (idxV Try.prog 33 a0 (.int .i64 0)).map (fun v => (v, (H1 : Heap))) = some (a1, H1), (loadV Try.prog H1 3 (a1)).map (fun v => (v, (H1 : Heap))) = some (.int .i64 x2, H1), callN Try.prog polM (kf + 1) 49 [.int .i64 x2, .int .i64 0, .int .i64 (IntKind.i64.wrap (n - 1))] H1 = some (.bool false, H2), (storeV Try.prog H2 72 (.ptr 0 0 0 1) (.agg [.imm .lit 0 [], .nilmap])).map (fun H => (HV.tuple [], H)) = some (.tuple [], H3)], by kernel_rfl, Obls.cons (hintB (decide_eq_true g0)) (Obls.cons (hintOp g1) (Obls.cons (g2) (Obls.cons (hintSt g3) (Obls.cons (hintOp g4) (Obls.cons (hintOp g5) (Obls.cons (g6 kf) (Obls.cons (hintSt g7) Obls.nil)))))))⟩
theorem nt_l_4 (n : Int) (lc : List HV) (m : Nat) (H : Heap) (j : Nat)  (g0 : ¬ ((j : Int) < (lc.length : Int))) : RunsTo Try.prog polM 46 (sub [1, 1, 1, 0, 1, 0, 0] B46) (env46 (.int .i64 n) (.imm .arg 2 lc) (.ptr 0 0 0 1) (.bool false) (.ptr (m + 3) 0 0 1) .undef (.imm .arg 2 lc) (.int .i64 (lc.length : Int)) (.int .i64 (j : Int))) H (.exit 0) (polM.keys 46) (env46 (.int .i64 n) (.imm .arg 2 lc) (.ptr 0 0 0 1) (.bool false) (.ptr (m + 3) 0 0 1) .undef (.imm .arg 2 lc) (.int .i64 (lc.length : Int)) (.int .i64 (j : Int))) H :=
  RunsTo.hint 1 60 [⟨5, 0, .bool false, H⟩] fun kf hk => by
    obtain ⟨kf, rfl⟩ : ∃ n, kf = n + 1 := ⟨kf - 1, by omega⟩
    exact ⟨[some (HV.bool (decide ((j : Int) < (lc.length : Int))), (H : Heap)) = some (.bool false, H)], by kernel_rfl, Obls.cons (hintB (decide_eq_false g0)) Obls.nil⟩
theorem nt_z_0 (n : Int) (lc : List HV) (m : Nat) (H : Heap) (j : Nat) (v50 : HV) (H0 : Heap) (H1 : Heap) (H2 : Heap) (g0 : loadV Try.prog H 72 (.ptr (m + 3) 0 0 1) = some (.agg [.sl 1 0 m (some m) m 1, .map (m + 2)])) (g1 : loadV Try.prog H 72 (.ptr (m + 3) 0 0 1) = some (.agg [.sl 1 0 m (some m) m 1, .map (m + 2)])) (g2 : ∀ kf, callN Try.prog polM (kf + 1) 50 [.agg [.sl 1 0 m (some m) m 1, .map (m + 2)], .int .i64 0] H = some (v50, H0)) (g3 : ∀ kf, callN Try.prog polM (kf + 1) 52 [v50, .int .i64 (-1)] H0 = some (.bool true, H1)) (g4 : storeV Try.prog H1 72 (.ptr 0 0 0 1) (.agg [.sl 1 0 m (some m) m 1, .map (m + 2)]) = some H2) (gS12 : (recL ((loadV Try.prog H 72 (.ptr (m + 3) 0 0 1)).map (fun v => (v, (H : Heap)))) ((loadV Try.prog H0 72 (.ptr (m + 3) 0 0 1)).map (fun v => (v, (H0 : Heap)))) H H0 && (recL ((loadV Try.prog H 72 (.ptr (m + 3) 0 0 1)).map (fun v => (v, (H : Heap)))) ((loadV Try.prog H1 72 (.ptr (m + 3) 0 0 1)).map (fun v => (v, (H1 : Heap)))) H H1 && true)) = true) : RunsTo Try.prog polM 46 (sub [1, 1, 1, 1] B46) (env46 (.int .i64 n) (.imm .arg 2 lc) (.ptr 0 0 0 1) (.bool false) (.ptr (m + 3) 0 0 1) .undef (.imm .arg 2 lc) (.int .i64 (lc.length : Int)) (.int .i64 (j : Int))) H (.ret) (polM.keys 46) (env46 (.int .i64 n) (.imm .arg 2 lc) (.ptr 0 0 0 1) (.bool false) (.ptr (m + 3) 0 0 1) .undef (.imm .arg 2 lc) (.int .i64 (lc.length : Int)) (.int .i64 (j : Int))) H2 :=
  RunsTo.hint 1 60 [⟨12, 0, .agg [.sl 1 0 m (some m) m 1, .map (m + 2)], H⟩, ⟨12, 1, .agg [.sl 1 0 m (some m) m 1, .map (m + 2)], H⟩, ⟨12, 2, v50, H0⟩, ⟨12, 3, .bool true, H1⟩, ⟨12, 5, .tuple [], H2⟩] fun kf hk => by
    obtain ⟨kf, rfl⟩ : ∃ n, kf = n + 1 := ⟨kf - 1, by omega⟩
    exact ⟨[(recL ((loadV Try.prog H 72 (.ptr (m + 3) 0 0 1)).map (fun v => (v, (H : Heap)))) ((loadV Try.prog H0 72 (.ptr (m + 3) 0 0 1)).map (fun v => (v, (H0 : Heap)))) H H0 && (recL ((loadV Try.prog H 72 (.ptr (m + 3) 0 0 1)).map (fun v => (v, (H : Heap)))) ((loadV Try.prog H1 72 (.ptr (m + 3) 0 0 1)).map (fun v => (v, (H1 : Heap)))) H H1 && true)) = true, (loadV Try.prog H 72 (.ptr (m + 3) 0 0 1)).map (fun v => (v, (H : Heap))) = some (.agg [.sl 1 0 m (some m) m 1, .map (m + 2)], H), (loadV Try.prog H 72 (.ptr (m + 3) 0 0 1)).map (fun v => (v, (H : Heap))) = some (.agg [.sl 1 0 m (some m) m 1, .map (m + 2)], H), callN Try.prog polM (kf + 1) 50 [.agg [.sl 1 0 m (some m) m 1, .map (m + 2)], .int .i64 0] H = some (v50, H0), callN Try.prog polM (kf + 1) 52 [v50, .int .i64 (-1)] H0 = some (.bool true, H1), (storeV Try.prog H1 72 (.ptr 0 0 0 1) (.agg [.sl 1 0 m (some m) m 1, .map (m + 2)])).map (fun H => (HV.tuple [], H)) = some (.tuple [], H2)], by kernel_rfl, Obls.cons (gS12) (Obls.cons (hintOp g0) (Obls.cons (hintOp g1) (Obls.cons (g2 kf) (Obls.cons (g3 kf) (Obls.cons (hintSt g4) Obls.nil)))))⟩
theorem nt_z_1 (n : Int) (lc : List HV) (m : Nat) (H : Heap) (j : Nat) (v50 : HV) (H0 : Heap) (H1 : Heap) (H2 : Heap) (g0 : loadV Try.prog H 72 (.ptr (m + 3) 0 0 1) = some (.agg [.sl 1 0 m (some m) m 1, .map (m + 2)])) (g1 : loadV Try.prog H 72 (.ptr (m + 3) 0 0 1) = some (.agg [.sl 1 0 m (some m) m 1, .map (m + 2)])) (g2 : ∀ kf, callN Try.prog polM (kf + 1) 50 [.agg [.sl 1 0 m (some m) m 1, .map (m + 2)], .int .i64 0] H = some (v50, H0)) (g3 : ∀ kf, callN Try.prog polM (kf + 1) 52 [v50, .int .i64 (-1)] H0 = some (.bool false, H1)) (g4 : storeV Try.prog H1 72 (.ptr 0 0 0 1) (.agg [.sl 1 0 m (some m) m 1, .map (m + 2)]) = some H2) (gS12 : (recL ((loadV Try.prog H 72 (.ptr (m + 3) 0 0 1)).map (fun v => (v, (H : Heap)))) ((loadV Try.prog H0 72 (.ptr (m + 3) 0 0 1)).map (fun v => (v, (H0 : Heap)))) H H0 && (recL ((loadV Try.prog H 72 (.ptr (m + 3) 0 0 1)).map (fun v => (v, (H : Heap)))) ((loadV Try.prog H1 72 (.ptr (m + 3) 0 0 1)).map (fun v => (v, (H1 : Heap)))) H H1 && true)) = true) : RunsTo Try.prog polM 46 (sub [1, 1, 1, 1] B46) (env46 (.int .i64 n) (.imm .arg 2 lc) (.ptr 0 0 0 1) (.bool false) (.ptr (m + 3) 0 0 1) .undef (.imm .arg 2 lc) (.int .i64 (lc.length : Int)) (.int .i64 (j : Int))) H (.ret) (polM.keys 46) (env46 (.int .i64 n) (.imm .arg 2 lc) (.ptr 0 0 0 1) (.bool true) (.ptr (m + 3) 0 0 1) .undef (.imm .arg 2 lc) (.int .i64 (lc.length : Int)) (.int .i64 (j : Int))) H2 :=
  RunsTo.hint 1 60 [⟨12, 0, .agg [.sl 1 0 m (some m) m 1, .map (m + 2)], H⟩, ⟨12, 1, .agg [.sl 1 0 m (some m) m 1, .map (m + 2)], H⟩, ⟨12, 2, v50, H0⟩, ⟨12, 3, .bool false, H1⟩, ⟨12, 5, .tuple [], H2⟩] fun kf hk => by
    obtain ⟨kf, rfl⟩ : ∃ n, kf = n + 1 := ⟨kf - 1, by omega⟩
    exact ⟨[(recL ((loadV Try.prog H 72 (.ptr (m + 3) 0 0 1)).map (fun v => (v, (H : Heap)))) ((loadV Try.prog H0 72 (.ptr (m + 3) 0 0 1)).map (fun v => (v, (H0 : Heap)))) H H0 && (recL ((loadV Try.prog H 72 (.ptr (m + 3) 0 0 1)).map (fun v => (v, (H : Heap)))) ((loadV Try.prog H1 72 (.ptr (m + 3) 0 0 1)).map (fun v => (v, (H1 : Heap)))) H H1 && true)) = true, (loadV Try.prog H 72 (.ptr (m + 3) 0 0 1)).map (fun v => (v, (H : Heap))) = some (.agg [.sl 1 0 m (some m) m 1, .map (m + 2)], H), (loadV Try.prog H 72 (.ptr (m + 3) 0 0 1)).map (fun v => (v, (H : Heap))) = some (.agg [.sl 1 0 m (some m) m 1, .map (m + 2)], H), callN Try.prog polM (kf + 1) 50 [.agg [.sl 1 0 m (some m) m 1, .map (m + 2)], .int .i64 0] H = some (v50, H0), callN Try.prog polM (kf + 1) 52 [v50, .int .i64 (-1)] H0 = some (.bool false, H1), (storeV Try.prog H1 72 (.ptr 0 0 0 1) (.agg [.sl 1 0 m (some m) m 1, .map (m + 2)])).map (fun H => (HV.tuple [], H)) = some (.tuple [], H2)], by kernel_rfl, Obls.cons (gS12) (Obls.cons (hintOp g0) (Obls.cons (hintOp g1) (Obls.cons (g2 kf) (Obls.cons (g3 kf) (Obls.cons (hintSt g4) Obls.nil)))))⟩
end Go.Proofs.Ytmhfkhlamnapdaa
end
section
open Go Go.HL
namespace Go.Proofs.Ytmhfkhlamnapdaa
def adjAdd (adj : List (List Nat)) (a b : Nat) : List (List Nat) := adj.set a ((adj.getD a []) ++ [b])
def adjStep (adj : List (List Nat)) (p : Int × Int) : List (List Nat) := adjAdd (adjAdd adj p.1.toNat p.2.toNat) p.2.toNat p.1.toNat
def adjGo (l : List (Int × Int)) (adj : List (List Nat)) : List (List Nat) := l.foldl adjStep adj
def adjOf (n : Nat) (l : List (Int × Int)) : List (List Nat) := adjGo l (List.replicate n [])
structure AInv (n k : Nat) (adj : List (List Nat)) : Prop where
  len : adj.length = n
  row : ∀ r ∈ adj, r.length ≤ k ∧ ∀ y ∈ r, y < n
theorem AInv.add {n k : Nat} {adj : List (List Nat)} (h : AInv n k adj) {a b : Nat} (ha : a < n) (hb : b < n) : AInv n (k + 1) (adjAdd adj a b) := by
  refine ⟨by simp [adjAdd, h.len], fun r hr => ?_⟩
  rcases List.mem_or_eq_of_mem_set hr with hr | rfl
  · have := h.row r hr
    exact ⟨by omega, this.2⟩
  · have hal : a < adj.length := by rw [h.len]; exact ha
    have hg : adj.getD a [] = adj[a] := by simp [List.getD, List.getElem?_eq_getElem hal]
    have := h.row _ (List.getElem_mem hal)
    rw [hg]
    refine ⟨by simp; exact this.1, fun y hy => ?_⟩
    rcases List.mem_append.1 hy with hy | hy
    · exact this.2 y hy
    · rw [List.mem_singleton] at hy; rw [hy]; exact hb
theorem AInv.init (n : Nat) : AInv n 0 (List.replicate n []) := by
  refine ⟨by simp, fun r hr => ?_⟩
  rw [(List.mem_replicate.1 hr).2]
  simp
def slOf (j : Nat) (r : List Nat) : HV := .sl (2 + j) 0 r.length none r.length 1
def slsF (adj : List (List Nat)) : List HV := adj.mapIdx slOf
theorem slsF_get (adj : List (List Nat)) (j : Nat) : (slsF adj)[j]? = (adj[j]?).map (slOf j) := by simp [slsF, List.getElem?_mapIdx]
theorem slsF_len (adj : List (List Nat)) : (slsF adj).length = adj.length := by simp [slsF]
theorem slsF_set (adj : List (List Nat)) (a : Nat) (r : List Nat) : (slsF adj).set a (slOf a r) = slsF (adj.set a r) := by
  apply List.ext_getElem?
  intro i
  rw [slsF_get, List.getElem?_set, List.getElem?_set, slsF_get, slsF_len]
  by_cases e : a = i
  · subst e
    by_cases h : a < adj.length
    · simp [h]
    · simp [h]
  · simp [e]
abbrev Zt : HV := .agg [.imm .lit 0 [], .nilmap]
abbrev trV (n : Nat) : HV := .agg [.sl 1 0 n (some n) n 1, .map (n + 2)]
structure TS (n : Nat) (adj : List (List Nat)) (H : Heap) : Prop where
  len : n + 4 ≤ H.length
  z : H[0]? = some (.arr 2 [Zt] true 0)
  near : ∃ mx, H[1]? = some (.arr 1 (slsF adj) true mx)
  rows : ∀ j r, adj[j]? = some r → H[2 + j]? = some (bNs r)
  mp : H[n + 2]? = some (.map [] [] 0)
  tr : ∃ mx, H[n + 3]? = some (.arr 2 [trV n] true mx)
  al : adj.length = n
  rf : sameH H H = true
theorem sameH_iff : ∀ {H : Heap}, sameH H H = true ↔ ∀ B ∈ H, sameH [B] [B] = true
  | [] => by simp [sameH]
  | B :: H => by
    have ih := sameH_iff (H := H)
    cases B with
    | arr k els w m => simp only [sameH, List.forall_mem_cons, ← ih, Bool.and_eq_true, and_true, Bool.and_true]
    | map ks vs m => simp only [sameH, List.forall_mem_cons, ← ih, Bool.and_eq_true, and_true, Bool.and_true]
    | dead => simp only [sameH, List.forall_mem_cons, ← ih, true_and]
theorem sameH_set {H : Heap} {B : Blk} {i : Nat} (h : sameH H H = true) (hB : sameH [B] [B] = true) : sameH (H.set i B) (H.set i B) = true := by
  rw [sameH_iff] at h ⊢
  intro C hC
  rcases List.mem_or_eq_of_mem_set hC with hC | rfl
  · exact h C hC
  · exact hB
theorem sameH_app {H : Heap} {B : Blk} (h : sameH H H = true) (hB : sameH [B] [B] = true) : sameH (H ++ [B]) (H ++ [B]) = true := by
  rw [sameH_iff] at h ⊢
  intro C hC
  rcases List.mem_append.1 hC with hC | hC
  · exact h C hC
  · rw [List.mem_singleton] at hC; rw [hC]; exact hB
theorem sameH_take {H : Heap} {k : Nat} (h : sameH H H = true) : sameH (H.take k) (H.take k) = true := by
  rw [sameH_iff] at h ⊢
  exact fun C hC => h C (List.mem_of_mem_take hC)
theorem sameL_all : ∀ {l : List HV}, (∀ v ∈ l, same v v = true) → sameL l l = true
  | [], _ => rfl
  | v :: l, h => by simp only [sameL, h v (by simp), sameL_all (l := l) (fun w hw => h w (by simp [hw])), Bool.and_self]
theorem same_arr {k m : Nat} {l : List HV} {w : Bool} (h : ∀ v ∈ l, same v v = true) : sameH [.arr k l w m] [.arr k l w m] = true := by
  simp [sameH, sameL_all h]
theorem same_N (q : List Nat) : sameH [bNs q] [bNs q] = true := same_arr fun v hv => by
  obtain ⟨k, _, rfl⟩ := List.mem_map.1 hv
  simp [encN, encI, same]
theorem same_sls (adj : List (List Nat)) (w : Bool) (m : Nat) : sameH [.arr 1 (slsF adj) w m] [.arr 1 (slsF adj) w m] = true := same_arr fun v hv => by
  obtain ⟨i, hi⟩ := List.getElem?_of_mem hv
  rw [slsF_get] at hi
  cases h : adj[i]? with
  | none => rw [h] at hi; cases hi
  | some r => rw [h] at hi; cases hi; simp [slOf, same]
theorem TS.ext {n : Nat} {adj : List (List Nat)} {H H' : Heap} (h : TS n adj H) (hk : ∀ k, k < n + 4 → H'[k]? = H[k]?) (hl : n + 4 ≤ H'.length) (hr : sameH H' H' = true) : TS n adj H' := by
  obtain ⟨mx, h1⟩ := h.near
  obtain ⟨mx', h2⟩ := h.tr
  refine ⟨hl, by rw [hk 0 (by omega)]; exact h.z, ⟨mx, by rw [hk 1 (by omega)]; exact h1⟩, fun j r hj => ?_, by rw [hk _ (by omega)]; exact h.mp, ⟨mx', by rw [hk _ (by omega)]; exact h2⟩, h.al, hr⟩
  have := lt_of_get hj
  rw [h.al] at this
  rw [hk _ (by omega)]; exact h.rows j r hj
theorem z24c : tySize Try.prog 24 = some 1 := by kernel_rfl
theorem a24c : tyAgg Try.prog 24 = false := by kernel_rfl
theorem i24c : (Try.prog.underlying 24).isSome = true := by kernel_rfl
theorem u33c' : Try.prog.underlying 33 = some (.array 2 3) := by kernel_rfl
theorem i55c : (Try.prog.underlying 55).isSome = true := by kernel_rfl
theorem a55c : tyAgg Try.prog 55 = false := by kernel_rfl
theorem TS.lnear {n : Nat} {adj : List (List Nat)} {H : Heap} (h : TS n adj H) : loadV Try.prog H 55 (.ptr (n + 3) 0 0 1) = some (.sl 1 0 n (some n) n 1) := by
  obtain ⟨mx, h2⟩ := h.tr
  exact load_cell (b := n + 3) (off := 0) h2 rfl rfl a55c i55c rfl
theorem TS.lrow {n : Nat} {adj : List (List Nat)} {H : Heap} (h : TS n adj H) {a : Nat} {r : List Nat} (ha : adj[a]? = some r) : loadV Try.prog H 24 (.ptr 1 a 0 n) = some (slOf a r) := by
  obtain ⟨mx, h1⟩ := h.near
  exact load_elem (b := 1) h1 (by rw [slsF_len]; exact h.al.symm) (by rw [slsF_get, ha]; rfl) rfl a24c i24c
theorem TS.addq {n : Nat} {adj : List (List Nat)} {H : Heap} (h : TS n adj H) {a : Nat} {r : List Nat} (ha : adj[a]? = some r) (hr : r.length ≤ 1000) (b : Nat) :
    ∃ H4 H5, appV H 1 8 (slOf a r) [.int .i64 (b : Int)] = some (slOf a (r ++ [b]), H4) ∧ storeV Try.prog H4 24 (.ptr 1 a 0 n) (slOf a (r ++ [b])) = some H5 ∧ TS n (adjAdd adj a b) H5 ∧
      H4.length = H.length ∧ H5.length = H.length ∧ (∀ k, k ≠ 2 + a → H4[k]? = H[k]?) ∧ (∀ k, k ≠ 2 + a → k ≠ 1 → H5[k]? = H[k]?) ∧ sameH H4 H4 = true := by
  have han : a < n := by have := lt_of_get ha; rw [h.al] at this; exact this
  obtain ⟨mx, hn⟩ := h.near
  obtain ⟨mx', ht⟩ := h.tr
  have hb := h.rows a r ha
  have hlt : 2 + a < H.length := lt_of_get hb
  have h1 : 1 < H.length := lt_of_get hn
  have hap := app_sl (H := H) (k := 1) (bytes := 8) (b := 2 + a) (n := r.length) (mx := 0) (els := r.map encN) (xs := [.int .i64 (b : Int)]) hb (by simp) (by simp) (by simp only [List.length_singleton, roomMax]; omega) rfl
  have e1 : slOf a (r ++ [b]) = .sl (2 + a) 0 (r.length + 1) none (r.length + 1) 1 := by simp [slOf]
  have e2 : r.map encN ++ [.int .i64 (b : Int)] = (r ++ [b]).map encN := by simp [encN, encI]
  have hn4 : (H.set (2 + a) (bNs (r ++ [b])))[1]? = some (.arr 1 (slsF adj) true mx) := by rw [List.getElem?_set_ne (by omega)]; exact hn
  have hg : (slsF adj)[a]? = some (slOf a r) := by rw [slsF_get, ha]; rfl
  have hset : adjAdd adj a b = adj.set a (r ++ [b]) := by simp [adjAdd, List.getD, ha]
  have hst : storeV Try.prog (H.set (2 + a) (bNs (r ++ [b]))) 24 (.ptr 1 a 0 n) (slOf a (r ++ [b])) = some ((H.set (2 + a) (bNs (r ++ [b]))).set 1 (.arr 1 (slsF (adjAdd adj a b)) true (max mx (2 + a + 1)))) := by
    have hc : cellsOf (slOf a r) = [slOf a r] := rfl
    have hc2 : cellsOf (slOf a (r ++ [b])) = [slOf a (r ++ [b])] := rfl
    have hcv : [slOf a (r ++ [b])].all cellV = true := rfl
    have hz := z24c
    simp only [storeV, hn4, hg, hc, hc2, hcv, hz, slsF_len, h.al, List.length_singleton]
    rw [if_pos ⟨trivial, trivial⟩, if_pos ⟨by omega, trivial, by omega⟩, hset, ← slsF_set]
    rfl
  have rf4 : sameH (H.set (2 + a) (bNs (r ++ [b]))) (H.set (2 + a) (bNs (r ++ [b]))) = true := sameH_set h.rf (same_N _)
  refine ⟨_, _, by rw [e1]; rw [e2] at hap; exact hap, hst, ?_, by simp, by simp, fun k hk => by rw [List.getElem?_set_ne (fun e => hk e.symm)], fun k hk hk1 => by rw [List.getElem?_set_ne (fun e => hk1 e.symm), List.getElem?_set_ne (fun e => hk e.symm)], rf4⟩
  refine ⟨by simp [h.len], ?_, ⟨max mx (2 + a + 1), ?_⟩, fun j s hj => ?_, ?_, ⟨mx', ?_⟩, by simp [adjAdd, h.al], sameH_set rf4 (same_sls _ _ _)⟩
  · rw [List.getElem?_set_ne (by omega), List.getElem?_set_ne (by omega)]; exact h.z
  · rw [List.getElem?_set_self (by simpa using h1)]
  · rw [List.getElem?_set_ne (by omega)]
    rw [hset, List.getElem?_set] at hj
    by_cases e : a = j
    · subst e
      rw [if_pos rfl, if_pos (lt_of_get ha)] at hj
      cases hj
      rw [List.getElem?_set_self hlt]
    · rw [if_neg e] at hj
      rw [List.getElem?_set_ne (by omega)]
      exact h.rows j s hj
  · rw [List.getElem?_set_ne (by omega), List.getElem?_set_ne (by omega)]; exact h.mp
  · rw [List.getElem?_set_ne (by omega), List.getElem?_set_ne (by omega)]; exact ht
end Go.Proofs.Ytmhfkhlamnapdaa
end
section
open Go Go.HL
namespace Go.Proofs.Ytmhfkhlamnapdaa
abbrev ntE (n : Int) (lc : List HV) (m : Nat) (v24 v25 v26 : HV) : Env := env46 (.int .i64 n) (.imm .arg 2 lc) (.ptr 0 0 0 1) (.bool false) (.ptr (m + 3) 0 0 1) .undef v24 v25 v26
theorem res46 : Try.f46.results.toList = [.cell 4 72, .tmp 5] := by kernel_rfl
theorem a72 : tyAgg Try.prog 72 = true := by kernel_rfl
theorem s72 : tySize Try.prog 72 = some 2 := by kernel_rfl
theorem a33c : tyAgg Try.prog 33 = true := by kernel_rfl
theorem s33c : tySize Try.prog 33 = some 2 := by kernel_rfl
abbrev bE (a b : Int) : Blk := .arr 2 [.agg [.int .i64 a, .int .i64 b]] true 0
theorem same_E (a b : Int) : sameH [bE a b] [bE a b] = true := by simp [sameH, sameL, same]
theorem e_new {n : Nat} {adj : List (List Nat)} {H : Heap} (h : TS n adj H) (a b : Int) : ∃ H0 H1, some (newV (.agg [.int .i64 0, .int .i64 0]) H) = some (HV.ptr H.length 0 0 1, H0) ∧ storeV Try.prog H0 33 (.ptr H.length 0 0 1) (.agg [.int .i64 a, .int .i64 b]) = some H1 ∧ TS n adj H1 ∧ H1[H.length]? = some (bE a b) ∧ H1.length = H.length + 1 ∧ (∀ k, k < H.length → H1[k]? = H[k]?) := by
  have hb : (H ++ [bE 0 0])[H.length]? = some (bE 0 0) := by simp
  have hst := store_agg (P := Try.prog) (t := 33) (i := 0) (tot := 1) (new := [.int .i64 a, .int .i64 b]) hb rfl rfl s33c rfl (by simp) rfl rfl
  have hk : ∀ k, k < H.length → ((H ++ [bE 0 0]).set H.length (bE a b))[k]? = H[k]? := fun k hk => by
    rw [List.getElem?_set_ne (by omega), List.getElem?_append_left hk]
  refine ⟨_, _, rfl, hst, ?_, by rw [List.set_cons_zero, List.getElem?_set_self (by simp)], by simp, hk⟩
  have hl := h.len
  exact h.ext (fun k hk2 => hk k (by omega)) (by simp; omega) (sameH_set (sameH_app h.rf (same_E 0 0)) (same_E a b))
theorem e_load {H : Heap} {q : Nat} {a b : Int} (h : H[q]? = some (bE a b)) : loadV Try.prog H 3 (.ptr q 0 0 1) = some (.int .i64 a) ∧ loadV Try.prog H 3 (.ptr q 0 1 1) = some (.int .i64 b) :=
  ⟨load_cell (b := q) (off := 0) h rfl rfl a3b i3b rfl, load_cell (b := q) (off := 1) h rfl rfl a3b i3b rfl⟩
theorem e_idx (q : Nat) : idxV Try.prog 33 (.ptr q 0 0 1) (.int .i64 0) = some (.ptr q 0 0 1) ∧ idxV Try.prog 33 (.ptr q 0 0 1) (.int .i64 1) = some (.ptr q 0 1 1) :=
  ⟨idx_arr (n := 0) u33c' z3b (by omega) (by decide), idx_arr (n := 1) u33c' z3b (by omega) (by decide)⟩
theorem m49 (x lo hi : Int) (b : Bool) (hb : decide (lo ≤ x ∧ x ≤ hi) = b) (H : Heap) : ∀ k, callN Try.prog polM (k + 1) 49 [.int .i64 x, .int .i64 lo, .int .i64 hi] H = some (.bool b, H) := fun k => by
  rw [prim_call (pol := polM) (g := 49) (F := withinF) (by kernel_rfl) (rs := [.int .i64 x, .int .i64 lo, .int .i64 hi]) rfl (res := .bool b) (by simp only [withinF, hb])]; rfl
theorem z_store {H : Heap} (h : H[0]? = some (.arr 2 [Zt] true 0)) : ∃ H', storeV Try.prog H 72 (.ptr 0 0 0 1) Zt = some H' ∧ loadV Try.prog H' 72 (.ptr 0 0 0 1) = some Zt := by
  have hst := store_agg (P := Try.prog) (t := 72) (i := 0) (tot := 1) (new := [.imm .lit 0 [], .nilmap]) h rfl rfl s72 rfl (by simp) rfl rfl
  exact ⟨_, hst, load_agg (b := 0) (by rw [List.getElem?_set_self (lt_of_get h)]) rfl rfl a72 s72⟩
theorem bad_res {E : Env} {H : Heap} (h4 : E.get 4 = .ptr 0 0 0 1) (h5 : E.get 5 = .bool false) (h : loadV Try.prog H 72 (.ptr 0 0 0 1) = some Zt) : resultsV Try.prog Try.f46 E H = some (.tuple [Zt, .bool false]) := by
  simp only [resultsV, res46, mapO, resultV, h4, h5, h]
theorem nt_loop (n : Nat) (hn : n ≤ 1000) (l : List (Int × Int)) (hl : l.length ≤ 100) : ∀ (d j : Nat) (adj : List (List Nat)) (H : Heap), j + d = l.length → TS n adj H → AInv n (2 * j) adj →
    ∃ x E H', RunsTo Try.prog polM 46 (sub [1, 1, 1, 0, 1, 0] B46) (ntE (n : Int) (l.map encP) n (.imm .arg 2 (l.map encP)) (.int .i64 (l.length : Int)) (.int .i64 (j : Int))) H x (polM.keys 46) E H' ∧
      (((l.drop j).all (validB (n : Int)) = true ∧ x = .exit 0 ∧ E = ntE (n : Int) (l.map encP) n (.imm .arg 2 (l.map encP)) (.int .i64 (l.length : Int)) (.int .i64 (l.length : Int)) ∧ TS n (adjGo (l.drop j) adj) H' ∧ AInv n (2 * l.length) (adjGo (l.drop j) adj)) ∨
       ((l.drop j).all (validB (n : Int)) = false ∧ x = .ret ∧ resultsV Try.prog Try.f46 E H' = some (.tuple [Zt, .bool false]))) := by
  intro d
  induction d with
  | zero =>
    intro j adj H hj hT hA
    have hj : j = l.length := by omega
    subst hj
    have s1 := nt_l_4 (n : Int) (l.map encP) n H l.length (by simp)
    rw [List.length_map] at s1
    exact ⟨_, _, _, RunsTo.loop_out s1 (by simp) (by kernel_rfl) (by kernel_rfl), .inl ⟨by simp, rfl, rfl, by simpa [adjGo] using hT, by simpa [adjGo] using hA⟩⟩
  | succ d ih =>
    intro j adj H hj hT hA
    have hjl : j < l.length := by omega
    rw [List.drop_eq_getElem_cons hjl, List.all_cons]
    generalize hp : l[j] = p
    obtain ⟨a, b⟩ := p
    have g1 : idxV Try.prog 22 (.imm .arg 2 (l.map encP)) (.int .i64 (j : Int)) = some (.vptr (.agg [.int .i64 a, .int .i64 b])) := idx_imm u22 z33 (by omega) (by rw [Int.toNat_natCast, List.getElem?_map, List.getElem?_eq_getElem hjl, hp]; rfl)
    have g0 : (j : Int) < ((l.map encP).length : Int) := by simp; omega
    have hml : ((l.map encP).length : Int) = (l.length : Int) := by simp
    obtain ⟨H0, H1, g2, g3, hT1, hq1, hl1, hk1⟩ := e_new hT a b
    have hqn : n + 4 ≤ H.length := hT.len
    obtain ⟨i0, i1⟩ := e_idx H.length
    obtain ⟨la, lb⟩ := e_load hq1
    have hwn : IntKind.i64.wrap ((n : Int) - 1) = (n : Int) - 1 := by rw [wrapI64]; omega
    by_cases ca : 0 ≤ a ∧ a ≤ IntKind.i64.wrap ((n : Int) - 1)
    · by_cases cb : 0 ≤ b ∧ b ≤ IntKind.i64.wrap ((n : Int) - 1)
      · by_cases cab : a = b
        · have hvb : validB (n : Int) (a, b) = false := by rw [validB]; exact decide_eq_false (fun h => h.2.2 cab)
          obtain ⟨H2, k1, k2⟩ := z_store hT1.z
          rw [hvb, Bool.false_and]
          have s1 := nt_l_0 (n : Int) (l.map encP) n H j a b _ H0 H1 _ a H1 _ b H1 _ a _ b H2 g0 g1 g2 g3 i0 la (m49 a 0 _ true (decide_eq_true ca) H1) i1 lb (m49 b 0 _ true (decide_eq_true cb) H1) i0 la i1 lb cab k1
          rw [hml] at s1
          exact ⟨_, _, _, RunsTo.loop_out s1 (by simp) (by kernel_rfl) (by kernel_rfl), .inr ⟨rfl, rfl, bad_res rfl rfl k2⟩⟩
        · have hvb : validB (n : Int) (a, b) = true := by rw [validB]; exact decide_eq_true ⟨by omega, by omega, cab⟩
          rw [hvb, Bool.true_and]
          obtain ⟨x, rfl⟩ : ∃ x : Nat, a = (x : Int) := ⟨a.toNat, by omega⟩
          obtain ⟨y, rfl⟩ : ∃ y : Nat, b = (y : Int) := ⟨b.toNat, by omega⟩
          have hx : x < n := by omega
          have hy : y < n := by omega
          -- the first end
          obtain ⟨rowx, rx⟩ : ∃ r, adj[x]? = some r := ⟨_, List.getElem?_eq_getElem (by rw [hA.len]; exact hx)⟩
          obtain ⟨H4, H5, ap4, st5, hT5, l4, l5, k4, k5, rf4⟩ := hT1.addq rx (by have := (hA.row _ (List.mem_of_getElem? rx)).1; omega) y
          have hA5 := hA.add hx hy
          have q4 : H4[H.length]? = some (bE (x : Int) (y : Int)) := by rw [k4 _ (by omega)]; exact hq1
          have q5 : H5[H.length]? = some (bE (x : Int) (y : Int)) := by rw [k5 _ (by omega) (by omega)]; exact hq1
          -- the other end
          obtain ⟨rowy, ry⟩ : ∃ r, (adjAdd adj x y)[y]? = some r := ⟨_, List.getElem?_eq_getElem (by rw [hA5.len]; exact hy)⟩
          obtain ⟨H6, H7, ap6, st7, hT7, l6, l7, k6, k7, rf6⟩ := hT5.addq ry (by have := (hA5.row _ (List.mem_of_getElem? ry)).1; omega) x
          have q6 : H6[H.length]? = some (bE (x : Int) (y : Int)) := by rw [k6 _ (by omega)]; exact q5
          have hA7 := hA5.add hy hx
          obtain ⟨la4, lb4⟩ := e_load q4
          obtain ⟨la5, lb5⟩ := e_load q5
          obtain ⟨la6, lb6⟩ := e_load q6
          have ln4 : loadV Try.prog H4 55 (.ptr (n + 3) 0 0 1) = some (.sl 1 0 n (some n) n 1) := by
            obtain ⟨mx, h2⟩ := hT1.tr
            exact load_cell (b := n + 3) (off := 0) (by rw [k4 _ (by omega)]; exact h2) rfl rfl a55c i55c rfl
          have ln6 : loadV Try.prog H6 55 (.ptr (n + 3) 0 0 1) = some (.sl 1 0 n (some n) n 1) := by
            obtain ⟨mx, h2⟩ := hT5.tr
            exact load_cell (b := n + 3) (off := 0) (by rw [k6 _ (by omega)]; exact h2) rfl rfl a55c i55c rfl
          have ix : ∀ w, w < n → idxV Try.prog 55 (.sl 1 0 n (some n) n 1) (.int .i64 ((w : Nat) : Int)) = some (.ptr 1 (((w : Nat) : Int).toNat) 0 n) := fun w hw => idx_sl u55b z24b (by omega) (by omega)
          have lr3 := hT1.lrow rx
          have lr5 := hT5.lrow ry
          have s1 := nt_l_1 (n : Int) (l.map encP) n H j (x : Int) (y : Int) _ H0 H1 _ _ H1 _ _ H1 _ _ _ _ _ _ _ _ _ _ _ H4 _ H5 _ _ _ _ _ _ _ H6 _ H7 g0 g1 g2 g3 i0 la (m49 _ 0 _ true (decide_eq_true ca) H1) i1 lb (m49 _ 0 _ true (decide_eq_true cb) H1) i0 la i1 lb cab
            hT1.lnear i0 la hT1.lnear i0 la (ix x hx) (by rw [Int.toNat_natCast]; exact lr3) i1 lb ap4 (ix x hx) (by rw [Int.toNat_natCast]; exact st5)
            (by
              have l1 := hT1.lnear
              have r1 := hT1.rf
              have sm : same (slOf x rowx) (slOf x rowx) = true := by simp [slOf, same]
              simp only [Int.toNat_natCast, l1, la, ln4, la4, lr3, Option.map, recL, r1, rf4, sm]
              simp [same])
            hT5.lnear i1 lb5 hT5.lnear i1 lb5 (ix y hy) (by rw [Int.toNat_natCast]; exact lr5) i0 la5 ap6 (ix y hy) (by rw [Int.toNat_natCast]; exact st7)
            (by
              have l1 := hT5.lnear
              have r1 := hT5.rf
              have sm : same (slOf y rowy) (slOf y rowy) = true := by simp [slOf, same]
              simp only [Int.toNat_natCast, l1, lb5, ln6, lb6, lr5, Option.map, recL, r1, rf6, sm]
              simp [same])
          rw [hml, wrap_succ (by omega)] at s1
          have hg := fun (r k : Nat) (hk : k < n + 4) => gc_get (base := H.length) (r := r) (H := H7) (k := k) (by omega)
          have hT8 : ∀ r, TS n (adjAdd (adjAdd adj x y) y x) (gc H.length r H7) := fun r => hT7.ext (fun k hk => hg r k hk) (by unfold gc; rw [List.length_take]; omega) (sameH_take hT7.rf)
          obtain ⟨x2, E, H', r2, h2⟩ := ih (j + 1) (adjAdd (adjAdd adj x y) y x) _ (by omega) (hT8 _) (by
            have : 2 * (j + 1) = 2 * j + 1 + 1 := by omega
            rw [this]; exact hA7)
          refine ⟨x2, E, H', RunsTo.loop s1 (by kernel_rfl) rfl r2 rfl (by kernel_rfl) (by kernel_rfl), ?_⟩
          have hgo : adjGo ((((x : Int), (y : Int)) : Int × Int) :: l.drop (j + 1)) adj = adjGo (l.drop (j + 1)) (adjAdd (adjAdd adj x y) y x) := by
            simp [adjGo, adjStep]
          rw [hgo]
          exact h2
      · have hvb : validB (n : Int) (a, b) = false := by rw [validB]; exact decide_eq_false (fun h => cb (by omega))
        obtain ⟨H2, k1, k2⟩ := z_store hT1.z
        rw [hvb, Bool.false_and]
        have s1 := nt_l_2 (n : Int) (l.map encP) n H j a b _ H0 H1 _ a H1 _ b H1 H2 g0 g1 g2 g3 i0 la (m49 a 0 _ true (decide_eq_true ca) H1) i1 lb (m49 b 0 _ false (decide_eq_false cb) H1) k1
        rw [hml] at s1
        exact ⟨_, _, _, RunsTo.loop_out s1 (by simp) (by kernel_rfl) (by kernel_rfl), .inr ⟨rfl, rfl, bad_res rfl rfl k2⟩⟩
    · have hvb : validB (n : Int) (a, b) = false := by rw [validB]; exact decide_eq_false (fun h => ca (by omega))
      obtain ⟨H2, k1, k2⟩ := z_store hT1.z
      rw [hvb, Bool.false_and]
      have s1 := nt_l_3 (n : Int) (l.map encP) n H j a b _ H0 H1 _ a H1 H2 g0 g1 g2 g3 i0 la (m49 a 0 _ false (decide_eq_false ca) H1) k1
      rw [hml] at s1
      exact ⟨_, _, _, RunsTo.loop_out s1 (by simp) (by kernel_rfl) (by kernel_rfl), .inr ⟨rfl, rfl, bad_res rfl rfl k2⟩⟩
end Go.Proofs.Ytmhfkhlamnapdaa
end
section
open Go Go.HL
namespace Go.Proofs.Ytmhfkhlamnapdaa
theorem info24n : (Try.prog.info? 24).map (fun i => (i.size, i.bytes, nilZero i)) = some (1, 24, true) := by kernel_rfl
theorem sls_init (n : Nat) : (List.range n).map (fun j => HV.sl (1 + 1 + j) 0 0 none 0 1) = slsF (List.replicate n []) := by
  apply List.ext_getElem?
  intro i
  rw [slsF_get, List.getElem?_map, List.getElem?_replicate]
  by_cases h : i < n
  · rw [List.getElem?_range h, if_pos h]; rfl
  · rw [List.getElem?_eq_none (by simp; omega), if_neg h]; rfl
theorem makeRows {n : Nat} (hn : n ≤ 1000) (B0 : Blk) : makeV Try.prog true 55 (.int .i64 (n : Int)) (.int .i64 (n : Int)) [B0] = some (.sl 1 0 n (some n) n 1, [B0] ++ [.arr 1 (slsF (List.replicate n [])) true (1 + 1 + n)] ++ List.replicate n (bNs [])) := by
  have hu : Try.prog.underlying 55 = some (.slice 24) := u55b
  have hi := info24n
  cases hi2 : Try.prog.info? 24 with
  | none => rw [hi2] at hi; cases hi
  | some i =>
    rw [hi2] at hi
    simp only [Option.map_some, Option.some.injEq, Prod.mk.injEq] at hi
    obtain ⟨h1, h2, h3⟩ := hi
    have hz : tySize Try.prog 3 = some 1 := z3b
    have hu2 : Try.prog.underlying 24 = some (.slice 3) := u24b
    simp only [makeV, hu, hi2, hu2, hz, h1, h2, h3, Int.toNat_natCast, List.length_singleton, sls_init]
    rw [if_pos ⟨by omega, by omega, by rw [show roomMax = 70368744177664 from rfl]; omega⟩, if_pos ⟨trivial, trivial⟩]
    rfl
theorem ts_init {n : Nat} (hn : n ≤ 1000) : ∃ H0 H1 H2 H3, makeV Try.prog true 55 (.int .i64 (n : Int)) (.int .i64 (n : Int)) [Blk.arr 2 [Zt] true 0] = some (.sl 1 0 n (some n) n 1, H0) ∧ some (HV.map H0.length, H0 ++ [Blk.map [] [] 0]) = some (HV.map (n + 2), H1) ∧ some (newV Zt H1) = some (HV.ptr (n + 3) 0 0 1, H2) ∧ storeV Try.prog H2 72 (.ptr (n + 3) 0 0 1) (trV n) = some H3 ∧ TS n (List.replicate n []) H3 := by
  have l0 : ([Blk.arr 2 [Zt] true 0] ++ [Blk.arr 1 (slsF (List.replicate n [])) true (1 + 1 + n)] ++ List.replicate n (bNs [])).length = n + 2 := by rw [List.length_append, List.length_append, List.length_replicate]; simp only [List.length_singleton]; omega
  generalize hH0 : [Blk.arr 2 [Zt] true 0] ++ [Blk.arr 1 (slsF (List.replicate n [])) true (1 + 1 + n)] ++ List.replicate n (bNs []) = H0 at l0
  have k0 : H0[0]? = some (Blk.arr 2 [Zt] true 0) := by rw [← hH0]; rfl
  have k1 : H0[1]? = some (Blk.arr 1 (slsF (List.replicate n [])) true (1 + 1 + n)) := by rw [← hH0]; rfl
  have kr : ∀ j, j < n → H0[2 + j]? = some (bNs []) := fun j hj => by
    rw [← hH0, List.getElem?_append_right (by simp)]
    simp only [List.length_append, List.length_singleton]
    rw [List.getElem?_replicate, if_pos (by omega)]
  have rf0 : sameH H0 H0 = true := by
    rw [sameH_iff, ← hH0]
    intro B hB
    simp only [List.mem_append, List.mem_singleton, List.mem_replicate] at hB
    rcases hB with (rfl | rfl) | ⟨_, rfl⟩
    · rfl
    · exact same_sls _ _ _
    · exact same_N []
  have lH1 : (H0 ++ [Blk.map [] [] 0]).length = n + 3 := by simp [l0]
  have hb : ((H0 ++ [Blk.map [] [] 0]) ++ [Blk.arr 2 [Zt] true 0])[n + 3]? = some (Blk.arr 2 [Zt] true 0) := by rw [List.getElem?_append_right (by omega), lH1]; simp
  have hst : storeV Try.prog ((H0 ++ [Blk.map [] [] 0]) ++ [Blk.arr 2 [Zt] true 0]) 72 (.ptr (n + 3) 0 0 1) (trV n) = some (((H0 ++ [Blk.map [] [] 0]) ++ [Blk.arr 2 [Zt] true 0]).set (n + 3) (Blk.arr 2 [trV n] true (max 0 (bnd (trV n))))) := by
    have hz := s72
    simp only [storeV, hb, cellsOf, hz, List.length_singleton, List.length_cons, List.length_nil]
    rw [if_pos ⟨trivial, trivial⟩]
    rfl
  refine ⟨_, _, _, _, by rw [makeRows hn, hH0], by rw [l0], by rw [newV, lH1]; rfl, hst, ?_⟩
  have gk : ∀ k, k < n + 3 → (((H0 ++ [Blk.map [] [] 0]) ++ [Blk.arr 2 [Zt] true 0]).set (n + 3) (Blk.arr 2 [trV n] true (max 0 (bnd (trV n)))))[k]? = (H0 ++ [Blk.map [] [] 0])[k]? := fun k hk => by
    rw [List.getElem?_set_ne (by omega), List.getElem?_append_left (by omega)]
  have gk2 : ∀ k, k < n + 2 → (((H0 ++ [Blk.map [] [] 0]) ++ [Blk.arr 2 [Zt] true 0]).set (n + 3) (Blk.arr 2 [trV n] true (max 0 (bnd (trV n)))))[k]? = H0[k]? := fun k hk => by
    rw [gk k (by omega), List.getElem?_append_left (by omega)]
  refine ⟨by simp [l0], by rw [gk2 0 (by omega)]; exact k0, ⟨_, by rw [gk2 1 (by omega)]; exact k1⟩, fun j r hj => ?_, by rw [gk _ (by omega), List.getElem?_append_right (by omega), l0]; simp, ⟨_, by rw [List.getElem?_set_self (by simp [l0])]⟩, by simp, ?_⟩
  · rw [List.getElem?_replicate] at hj
    split at hj
    · rename_i h
      cases hj
      rw [gk2 _ (by omega)]; exact kr j h
    · cases hj
  · refine sameH_set (sameH_app (sameH_app rf0 rfl) rfl) ?_
    simp [sameH, sameL, same]
/-- What the tree is to a caller. -/
def rowO (r : List Nat) : HV := .imm .own 1 (r.map encN)
def treeV (adj : List (List Nat)) : HV := .agg [.own 1 (adj.map rowO), .omap [] []]
theorem toArg_nats (H : Heap) (d : Nat) : ∀ (q : List Nat), mapO (toArg H (d + 1)) (q.map encN) = some (q.map encN)
  | [] => rfl
  | a :: q => by
    have e : toArg H (d + 1) (encN a) = some (encN a) := rfl
    simp only [List.map_cons, mapO, e, toArg_nats H d q]
theorem toArg_row {n : Nat} {adj : List (List Nat)} {H : Heap} (h : TS n adj H) {j : Nat} {r : List Nat} (hj : adj[j]? = some r) (d : Nat) : toArg H (d + 2) (slOf j r) = some (encR r) := by
  have e : toArg H (d + 2) (slOf j r) = if r.length = 0 then some (.imm .arg 1 []) else match view H (2 + j) 0 r.length r.length 1 with | some l => (match mapO (toArg H (d + 1)) l with | some l => some (.imm .arg 1 l) | none => none) | none => none := rfl
  rw [e]
  split
  · rename_i h0
    rw [List.length_eq_zero_iff.1 h0]; rfl
  · have hv : view H (2 + j) 0 r.length r.length 1 = some (r.map encN) := by
      simp only [view, h.rows j r hj, List.length_map]
      rw [if_pos ⟨trivial, by omega, trivial⟩]
      simp [List.take_of_length_le]
    rw [hv]
    simp only [toArg_nats]
    rfl
theorem mapO_all {f : HV → Option HV} {g : List Nat → HV} : ∀ {l : List HV} {adj : List (List Nat)}, l.length = adj.length → (∀ (j : Nat) v r, l[j]? = some v → adj[j]? = some r → f v = some (g r)) → mapO f l = some (adj.map g)
  | [], [], _, _ => rfl
  | v :: l, r :: adj, hl, h => by
    have h0 := h 0 v r rfl rfl
    have ih := mapO_all (f := f) (g := g) (l := l) (adj := adj) (by simpa using hl) (fun j v r hv hr => h (j + 1) v r hv hr)
    simp only [mapO, h0, ih, List.map_cons]
structure TR (n : Nat) (adj : List (List Nat)) (H : Heap) : Prop where
  near : ∃ mx, H[1]? = some (.arr 1 (slsF adj) true mx)
  rows : ∀ j r, adj[j]? = some r → H[2 + j]? = some (bNs r)
  mp : H[n + 2]? = some (.map [] [] 0)
  al : adj.length = n
theorem TS.tr' {n : Nat} {adj : List (List Nat)} {H : Heap} (h : TS n adj H) : TR n adj H := ⟨h.near, h.rows, h.mp, h.al⟩
theorem TR.set0 {n : Nat} {adj : List (List Nat)} {H : Heap} (h : TR n adj H) (B : Blk) : TR n adj (H.set 0 B) := by
  obtain ⟨mx, h1⟩ := h.near
  exact ⟨⟨mx, by rw [List.getElem?_set_ne (by omega)]; exact h1⟩, fun j r hj => by rw [List.getElem?_set_ne (by omega)]; exact h.rows j r hj, by rw [List.getElem?_set_ne (by omega)]; exact h.mp, h.al⟩
theorem view_near {n : Nat} {adj : List (List Nat)} {H : Heap} (h : TR n adj H) : view H 1 0 n n 1 = some (slsF adj) := by
  obtain ⟨mx, h1⟩ := h.near
  simp only [view, h1, slsF_len, h.al]
  rw [if_pos ⟨trivial, by omega, trivial⟩, List.drop_zero, List.take_of_length_le (by rw [slsF_len, h.al]; omega)]
theorem toArg_tree {n : Nat} (h0 : 0 < n) {adj : List (List Nat)} {H : Heap} (h : TS n adj H) : toArg H 6 (trV n) = some (.agg [.imm .arg 1 (adj.map encR), .imap .arg [] []]) := by
  have e : toArg H 6 (trV n) = match mapO (toArg H 5) [.sl 1 0 n (some n) n 1, .map (n + 2)] with | some l => some (.agg l) | none => none := rfl
  have e1 : toArg H 5 (.sl 1 0 n (some n) n 1) = some (.imm .arg 1 (adj.map encR)) := by
    have e : toArg H 5 (.sl 1 0 n (some n) n 1) = if n = 0 then some (.imm .arg 1 []) else match view H 1 0 n n 1 with | some l => (match mapO (toArg H 4) l with | some l => some (.imm .arg 1 l) | none => none) | none => none := rfl
    rw [e, if_neg (by omega), view_near h.tr']
    have := mapO_all (f := toArg H 4) (g := encR) (l := slsF adj) (adj := adj) (slsF_len adj) (fun j v r hv hr => by
      rw [slsF_get, hr] at hv
      cases hv
      exact toArg_row h hr 2)
    simp only [this]
  have e2 : toArg H 5 (.map (n + 2)) = some (.imap .arg [] []) := by
    have e : toArg H 5 (.map (n + 2)) = match H[n + 2]? with | some (.map ks vs _) => (match mapO (toArg H 4) ks, mapO (toArg H 4) vs with | some ks, some vs => some (.imap .arg ks vs) | _, _ => none) | _ => none := rfl
    rw [e, h.mp]; rfl
  rw [e]
  simp only [mapO, e1, e2]
theorem toRes_tree {n : Nat} (h0 : 0 < n) {adj : List (List Nat)} {H : Heap} (h : TR n adj H) (b : Bool) : toRes H false (.tuple [trV n, .bool b]) = some (.tuple [treeV adj, .bool b]) := by
  obtain ⟨mx, h1⟩ := h.near
  have ho : ownedAll H false (.tuple [trV n, .bool b]) = [1, n + 2] := by
    simp only [ownedAll, List.flatMap_cons, List.flatMap_nil, cellsOf, owned, h1, h.mp]
    rfl
  have hr : resCell H [1, n + 2] false (.sl 1 0 n (some n) n 1) = some (.own 1 (adj.map rowO)) := by
    simp only [resCell, h1, if_true, view_near h]
    have := mapO_all (f := resElem H [1, n + 2] false) (g := rowO) (l := slsF adj) (adj := adj) (slsF_len adj) (fun j v r hv hr => by
      rw [slsF_get, hr] at hv
      cases hv
      have hjn : j < n := by have := lt_of_get hr; rw [h.al] at this; exact this
      have e : resElem H [1, n + 2] false (slOf j r) = if r.length = 0 then some (.imm .own 1 []) else if [1, n + 2].contains (2 + j) then none else match view H (2 + j) 0 r.length r.length 1 with | some l => (match mapO (frz H [1, n + 2] 3) l with | some l => some (.imm .own 1 l) | none => none) | none => none := rfl
      rw [e]
      split
      · rename_i h0
        rw [List.length_eq_zero_iff.1 h0]; rfl
      · have hc : [1, n + 2].contains (2 + j) = false := by simp; omega
        have hv : view H (2 + j) 0 r.length r.length 1 = some (r.map encN) := by
          simp only [view, h.rows j r hr, List.length_map]
          rw [if_pos ⟨trivial, by omega, trivial⟩]
          simp [List.take_of_length_le]
        rw [if_neg (by rw [hc]; simp), hv]
        have hf : mapO (frz H [1, n + 2] 3) (r.map encN) = some (r.map encN) := mapO_self (f := frz H [1, n + 2] 3) (g := encN) (fun k => frz_int 3 (k : Int)) r
        simp only [hf]
        rfl)
    simp only [this]
  have hm : resCell H [1, n + 2] false (.map (n + 2)) = some (.omap [] []) := by
    simp only [resCell, h.mp]; rfl
  have hnd : ([1, n + 2] : List Nat).Nodup := by simp
  simp only [toRes, ho, hnd, if_true]
  have e1 : resVal H [1, n + 2] false (trV n) = some (treeV adj) := by
    simp only [resVal, mapO, hr, hm]; rfl
  have e2 : resVal H [1, n + 2] false (.bool b) = some (.bool b) := rfl
  simp only [mapO, e1, e2]
end Go.Proofs.Ytmhfkhlamnapdaa
end
section
open Go Go.HL
namespace Go.Proofs.Ytmhfkhlamnapdaa
def reached (o : List Int) : Bool := o.all fun v => decide (0 ≤ v)
theorem bIn_len (c : Int) : ∀ (l : List Nat) (s : List Int × List Nat), (bIn c l s).1.length = s.1.length
  | [], _ => rfl
  | y :: l, s => by
    rw [bIn, bIn_len c l]
    split <;> simp
theorem bGo_len (nb : Nat → List Nat) : ∀ (d i : Nat) (s : List Int × List Nat), (bGo nb d i s).1.length = s.1.length
  | 0, _, _ => rfl
  | d + 1, i, s => by
    rw [bGo]
    split
    · rw [bGo_len nb d, bIn_len]
    · rfl
theorem bfs_len (nb : Nat → List Nat) (n x : Nat) : (bfs nb n x).length = n := by
  rw [bfs, bGo_len]; simp [bInit]
end Go.Proofs.Ytmhfkhlamnapdaa
end
section
open Go Go.HL
namespace Go.Proofs.Ytmhfkhlamnapdaa
theorem good_res {E : Env} {H : Heap} {b : Bool} {v : HV} (h4 : E.get 4 = .ptr 0 0 0 1) (h5 : E.get 5 = .bool b) (h : loadV Try.prog H 72 (.ptr 0 0 0 1) = some v) : resultsV Try.prog Try.f46 E H = some (.tuple [v, .bool b]) := by
  simp only [resultsV, res46, mapO, resultV, h4, h5, h]
def farOk (adj : List (List Nat)) : Bool := decide ((-1 : Int) ∉ farF adj 0)
/-- What newTree answers. -/
def newTreeF (n : Int) (l : List (Int × Int)) : HV :=
  if ((1 ≤ n ∧ n ≤ 30) ∧ (l.length : Int) = n - 1) ∧ l.all (validB n) = true then .tuple [treeV (adjOf n.toNat l), .bool (farOk (adjOf n.toNat l))] else .tuple [.agg [.own 0 [], .nilmap], .bool false]
def newTree46 : List HV → Option HV
  | [.int .i64 n, .imm .arg 2 lc] => match mapO decP lc with | some l => some (newTreeF n l) | none => none
  | _ => none
theorem ainv_ok {n k : Nat} (hk : k ≤ 1000) {adj : List (List Nat)} (h : AInv n k adj) : rowsOk adj = true := rowsOk_iff.2 fun r hr => by
  have := h.row r hr
  rw [h.len]
  exact ⟨by omega, this.2⟩
theorem m50 {n k : Nat} (h0 : 0 < n) (hn : n ≤ 1000) (hk : k ≤ 1000) {adj : List (List Nat)} {H : Heap} (hT : TS n adj H) (hA : AInv n k adj) : ∀ kf, callN Try.prog polM (kf + 1) 50 [trV n, .int .i64 0] H = some (.sl H.length 0 n none n 1, H ++ [bI (farF adj 0)]) := fun kf => by
  rw [prim_call (pol := polM) (g := 50) (F := far50) (by kernel_rfl) (rs := [.agg [.imm .arg 1 (adj.map encR), .imap .arg [] []], .int .i64 0]) (by simp only [mapO, toArg_tree h0 hT]; rfl) (res := .own 1 ((farF adj 0).map encI)) (by
    simp only [far50, mapO_map decR_enc]
    rw [if_pos ⟨⟨by rw [hA.len]; exact hn, ainv_ok hk hA⟩, by omega, by rw [hA.len]; omega⟩]; rfl)]
  have hno : ((farF adj 0).map encI).any isOwn = false := by
    rw [List.any_eq_false]
    intro v hv
    obtain ⟨k, _, rfl⟩ := List.mem_map.1 hv
    simp [encI, isOwn]
  have hlen : (farF adj 0).length = n := by rw [farF, bfs_len]; exact hA.len
  simp only [recv, recvVal, recvCell, hno, List.length_map, hlen]
  rfl
theorem m52 {n : Nat} (hn : n ≤ 1000) (o : List Int) (ho : o.length = n) (H : Heap) (q : Nat) (hq : H[q]? = some (bI o)) : ∀ kf, callN Try.prog polM (kf + 1) 52 [.sl q 0 n none n 1, .int .i64 (-1)] H = some (.bool (decide ((-1 : Int) ∈ o)), H) := fun kf => by
  have e : toArg H 6 (.sl q 0 n none n 1) = some (.imm .arg 1 (o.map encI)) := by
    have e : toArg H 6 (.sl q 0 n none n 1) = if n = 0 then some (.imm .arg 1 []) else match view H q 0 n n 1 with | some l => (match mapO (toArg H 5) l with | some l => some (.imm .arg 1 l) | none => none) | none => none := rfl
    rw [e]
    split
    · rename_i h0
      rw [h0] at ho
      rw [List.length_eq_zero_iff.1 ho]; rfl
    · have hv : view H q 0 n n 1 = some (o.map encI) := by
        simp only [view, hq, List.length_map, ho]
        rw [if_pos ⟨trivial, by omega, trivial⟩, List.drop_zero, List.take_of_length_le (by rw [List.length_map]; omega)]
      have hm : mapO (toArg H 5) (o.map encI) = some (o.map encI) := mapO_self (f := toArg H 5) (g := encI) (fun _ => rfl) o
      rw [hv]
      simp only [hm]
  rw [prim_call (pol := polM) (g := 52) (F := contains52) (by kernel_rfl) (rs := [.imm .arg 1 (o.map encI), .int .i64 (-1)]) (by simp only [mapO, e]; rfl) (res := .bool (decide ((-1 : Int) ∈ o))) (by simp only [contains52, mapO_map decI_enc]; rw [if_pos (by omega)])]; rfl
theorem newTree_ok : PrimOk Try.prog 46 newTree46 := by
  refine primOk_pure (pol := polM) (fn := Try.f46) (cd := B46) follows_mixed soundM (by kernel_rfl) (by kernel_rfl) (fnok polM.prim _ _ (by kernel_rfl)) (by kernel_rfl) ?_
  intro args res h
  unfold newTree46 at h
  split at h
  · rename_i n lc
    split at h
    · rename_i l hlc
      cases h
      rw [mapO_inv decP_inv hlc]
      have a1 := nt_a_0 n (l.map encP)
      have hml : ((l.map encP).length : Int) = (l.length : Int) := by simp
      have bad : ∀ E H, RunsTo Try.prog polM 46 (sub [1] B46) (env46 (.int .i64 n) (.imm .arg 2 (l.map encP)) (.ptr 0 0 0 1) (.bool false) .undef .undef .undef .undef .undef) [.arr 2 [Zt] true 0] .ret (polM.keys 46) E H → resultsV Try.prog Try.f46 E H = some (.tuple [Zt, .bool false]) →
          ¬ (((1 ≤ n ∧ n ≤ 30) ∧ (l.length : Int) = n - 1) ∧ l.all (validB n) = true) → ∃ x E H' v, RunsTo Try.prog polM 46 B46 (args0 [.int .i64 n, .imm .arg 2 (l.map encP)]) [] x (polM.keys 46) E H' ∧ (∀ i, x ≠ .exit i) ∧ resultsV Try.prog Try.f46 E H' = some v ∧ toRes H' (polM.deep 46) v = some (newTreeF n l) := by
        intro E H t hr hc
        refine ⟨_, _, _, _, RunsTo.seq a1 t (c := B46) (by kernel_rfl) (by kernel_rfl), by simp, hr, ?_⟩
        rw [newTreeF, if_neg hc]; rfl
      have lz : loadV Try.prog [.arr 2 [Zt] true 0] 72 (.ptr 0 0 0 1) = some Zt := load_agg (b := 0) rfl rfl rfl a72 s72
      by_cases c1 : 1 ≤ n ∧ n ≤ 30
      · by_cases c2 : (l.length : Int) = n - 1
        · obtain ⟨m, rfl⟩ : ∃ m : Nat, n = (m : Int) := ⟨n.toNat, by omega⟩
          have hw : IntKind.i64.wrap ((m : Int) - 1) = (m : Int) - 1 := by rw [wrapI64]; omega
          have b1 := nt_b_0 (m : Int) (l.map encP) (m49 _ _ _ true (decide_eq_true c1) _) (by rw [hml, hw]; exact c2)
          obtain ⟨H0, H1, H2, H3, g0, g1, g2, g3, hT⟩ := ts_init (n := m) (by omega)
          have d1 := nt_c_0 (m : Int) (l.map encP) m [.arr 2 [Zt] true 0] H0 H1 H2 H3 g0 g1 g2 g3
          have e1 := nt_d_0 (m : Int) (l.map encP) m H3
          rw [hml] at e1
          obtain ⟨x, E, H', r1, h1⟩ := nt_loop m (by omega) l (by omega) l.length 0 (List.replicate m []) H3 (by omega) hT (AInv.init m)
          rw [List.drop_zero] at h1
          rcases h1 with ⟨hv, rfl, rfl, hT2, hA2⟩ | ⟨hv, rfl, hres⟩
          · have t1 := RunsTo.seq e1 (RunsTo.block_exit (c := sub [1, 1, 1, 0, 1] B46) r1 (by kernel_rfl)) (c := sub [1, 1, 1, 0] B46) (by kernel_rfl) (by kernel_rfl)
            have hfl : (farF (adjGo l (List.replicate m [])) 0).length = m := by rw [farF, bfs_len]; exact hA2.len
            have c50 := m50 (by omega) (by omega) (by omega) hT2 hA2
            generalize hadj : adjGo l (List.replicate m []) = adj at hT2 hA2 hfl c50
            have hq : (H' ++ [bI (farF adj 0)])[H'.length]? = some (bI (farF adj 0)) := by simp
            have c52 := m52 (n := m) (by omega) (farF adj 0) hfl (H' ++ [bI (farF adj 0)]) H'.length hq
            have hlt : m + 4 ≤ H'.length := hT2.len
            have hT3 : TS m adj (H' ++ [bI (farF adj 0)]) := hT2.ext (fun k hk => by rw [List.getElem?_append_left (by omega)]) (by simp; omega) (sameH_app hT2.rf (same_arr fun v hv => by
              obtain ⟨k, _, rfl⟩ := List.mem_map.1 hv
              simp [encI, same]))
            have lt2 : ∀ {H : Heap}, TS m adj H → loadV Try.prog H 72 (.ptr (m + 3) 0 0 1) = some (trV m) := fun hT => by
              obtain ⟨mx, h2⟩ := hT.tr
              exact load_agg (b := m + 3) h2 rfl rfl a72 s72
            have hst : storeV Try.prog (H' ++ [bI (farF adj 0)]) 72 (.ptr 0 0 0 1) (trV m) = some ((H' ++ [bI (farF adj 0)]).set 0 (.arr 2 [trV m] true (max 0 (bnd (trV m))))) := by
              have hz := s72
              simp only [storeV, hT3.z, cellsOf, hz, List.length_singleton, List.length_cons, List.length_nil]
              rw [if_pos ⟨trivial, trivial⟩]
              rfl
            have l1 := lt2 hT2
            have l2 := lt2 hT3
            have sm : same (trV m) (trV m) = true := by simp [same, sameL]
            have gS : (recL ((loadV Try.prog H' 72 (.ptr (m + 3) 0 0 1)).map (fun v => (v, (H' : Heap)))) ((loadV Try.prog (H' ++ [bI (farF adj 0)]) 72 (.ptr (m + 3) 0 0 1)).map (fun v => (v, ((H' ++ [bI (farF adj 0)]) : Heap)))) H' (H' ++ [bI (farF adj 0)]) && (recL ((loadV Try.prog H' 72 (.ptr (m + 3) 0 0 1)).map (fun v => (v, (H' : Heap)))) ((loadV Try.prog (H' ++ [bI (farF adj 0)]) 72 (.ptr (m + 3) 0 0 1)).map (fun v => (v, ((H' ++ [bI (farF adj 0)]) : Heap)))) H' (H' ++ [bI (farF adj 0)]) && true)) = true := by
              have r1 := hT2.rf
              have r2 := hT3.rf
              simp only [l1, l2, Option.map, recL, sm, r1, r2, Bool.and_self]
            have up : ∀ E H, RunsTo Try.prog polM 46 (sub [1, 1, 1, 1] B46) (ntE (m : Int) (l.map encP) m (.imm .arg 2 (l.map encP)) (.int .i64 (l.length : Int)) (.int .i64 (l.length : Int))) H' .ret (polM.keys 46) E H → RunsTo Try.prog polM 46 B46 (args0 [.int .i64 (m : Int), .imm .arg 2 (l.map encP)]) [] .ret (polM.keys 46) E H := by
              intro E H t
              have t2 := RunsTo.seq t1 t (c := sub [1, 1, 1] B46) (by kernel_rfl) (by kernel_rfl)
              have t3 := RunsTo.seq d1 t2 (c := sub [1, 1] B46) (by kernel_rfl) (by kernel_rfl)
              have t4 := RunsTo.seq b1 t3 (c := sub [1] B46) (by kernel_rfl) (by kernel_rfl)
              exact RunsTo.seq a1 t4 (c := B46) (by kernel_rfl) (by kernel_rfl)
            have hF : newTreeF (m : Int) l = .tuple [treeV adj, .bool (farOk adj)] := by
              rw [newTreeF, if_pos ⟨⟨c1, c2⟩, hv⟩, Int.toNat_natCast, adjOf, hadj]
            have lz2 : loadV Try.prog ((H' ++ [bI (farF adj 0)]).set 0 (.arr 2 [trV m] true (max 0 (bnd (trV m))))) 72 (.ptr 0 0 0 1) = some (trV m) :=
              load_agg (b := 0) (by rw [List.getElem?_set_self (by simp)]) rfl rfl a72 s72
            have hTR := toRes_tree (by omega) (hT3.tr'.set0 (.arr 2 [trV m] true (max 0 (bnd (trV m)))))
            by_cases hin : (-1 : Int) ∈ farF adj 0
            · have z1 := nt_z_0 (m : Int) (l.map encP) m H' l.length _ _ _ _ l1 l1 c50 (by rw [decide_eq_true hin] at c52; exact c52) hst gS
              rw [hml] at z1
              refine ⟨_, _, _, _, up _ _ z1, by simp, good_res rfl rfl lz2, ?_⟩
              rw [hF, farOk, decide_eq_false (fun h => h hin)]
              exact hTR false
            · have z1 := nt_z_1 (m : Int) (l.map encP) m H' l.length _ _ _ _ l1 l1 c50 (by rw [decide_eq_false hin] at c52; exact c52) hst gS
              rw [hml] at z1
              refine ⟨_, _, _, _, up _ _ z1, by simp, good_res rfl rfl lz2, ?_⟩
              rw [hF, farOk, decide_eq_true hin]
              exact hTR true
          · have t1 := RunsTo.seq e1 (RunsTo.block_ret (i := 0) (c := sub [1, 1, 1, 0, 1] B46) r1 (by kernel_rfl)) (c := sub [1, 1, 1, 0] B46) (by kernel_rfl) (by kernel_rfl)
            have t2 := RunsTo.seq_out t1 (by simp) (c := sub [1, 1, 1] B46) (b := sub [1, 1, 1, 1] B46) (by kernel_rfl)
            have t3 := RunsTo.seq d1 t2 (c := sub [1, 1] B46) (by kernel_rfl) (by kernel_rfl)
            have t4 := RunsTo.seq b1 t3 (c := sub [1] B46) (by kernel_rfl) (by kernel_rfl)
            exact bad _ _ t4 hres (fun h => by rw [hv] at h; exact absurd h.2 (by simp))
        · have hw : IntKind.i64.wrap (n - 1) = n - 1 := by rw [wrapI64]; omega
          have b1 := nt_b_1 n (l.map encP) (m49 _ _ _ true (decide_eq_true c1) _) (by rw [hml, hw]; exact c2)
          exact bad _ _ (RunsTo.seq_out b1 (by simp) (c := sub [1] B46) (b := sub [1, 1] B46) (by kernel_rfl)) (bad_res rfl rfl lz) (fun h => c2 h.1.2)
      · have b1 := nt_b_2 n (l.map encP) (m49 _ _ _ false (decide_eq_false c1) _)
        exact bad _ _ (RunsTo.seq_out b1 (by simp) (c := sub [1] B46) (b := sub [1, 1] B46) (by kernel_rfl)) (bad_res rfl rfl lz) (fun h => c1 h.1.1)
    · cases h
  · cases h
end Go.Proofs.Ytmhfkhlamnapdaa
end
section
open Go Go.HL
namespace Go.Proofs.Ytmhfkhlamnapdaa
def ins (x : Int) (s : List Int) : List Int := if x ∈ s then s else s ++ [x]
abbrev mapB (ks : List Int) (mx : Nat) : Blk := .map (ks.map encI) (ks.map fun _ => .bool true) mx
end Go.Proofs.Ytmhfkhlamnapdaa
end
section
open Go Go.HL
namespace Go.Proofs.Ytmhfkhlamnapdaa
def rowI (r : List Nat) : List Int := r.map fun k : Nat => (k : Int)
theorem rowI_enc (r : List Nat) : r.map encN = (rowI r).map encI := by simp [rowI, encN]
structure CS (n : Nat) (adj : List (List Nat)) (kn : List Int) (H : Heap) : Prop where
  near : H[0]? = some (.arr 1 (adj.map rowO) true 0)
  tree : H[2]? = some (.arr 2 [.agg [.sl 0 0 n none n 1, .map 1]] true 2)
  known : ∃ mx, H[3]? = some (mapB kn mx)
theorem CS.ext {n : Nat} {adj : List (List Nat)} {kn : List Int} {H H' : Heap} (h : CS n adj kn H) (hk : ∀ k, k < 4 → H'[k]? = H[k]?) : CS n adj kn H' := by
  obtain ⟨mx, h1⟩ := h.known
  exact ⟨by rw [hk 0 (by omega)]; exact h.near, by rw [hk 2 (by omega)]; exact h.tree, ⟨mx, by rw [hk 3 (by omega)]; exact h1⟩⟩
theorem CS.four {n : Nat} {adj : List (List Nat)} {kn : List Int} {H : Heap} (h : CS n adj kn H) : 4 ≤ H.length := by
  obtain ⟨mx, h1⟩ := h.known
  have := lt_of_get h1; omega
end Go.Proofs.Ytmhfkhlamnapdaa
end
section
open Go Go.HL
namespace Go.Proofs.Ytmhfkhlamnapdaa
theorem adjGo_inv {n : Nat} : ∀ (l : List (Int × Int)) (k : Nat) (adj : List (List Nat)), (∀ p ∈ l, validB (n : Int) p = true) → AInv n k adj → AInv n (k + 2 * l.length) (adjGo l adj)
  | [], k, adj, _, h => by simpa [adjGo] using h
  | p :: l, k, adj, hv, h => by
    have h1 := hv p (by simp)
    rw [validB, decide_eq_true_eq] at h1
    have hA := (h.add (a := p.1.toNat) (b := p.2.toNat) (by omega) (by omega)).add (a := p.2.toNat) (b := p.1.toNat) (by omega) (by omega)
    have := adjGo_inv l (k + 1 + 1) (adjStep adj p) (fun q hq => hv q (by simp [hq])) hA
    have e : k + 1 + 1 + 2 * l.length = k + 2 * (p :: l).length := by simp; omega
    rw [e] at this
    exact this
theorem AInv.mono {n k k' : Nat} {adj : List (List Nat)} (h : AInv n k adj) (hk : k ≤ k') : AInv n k' adj := ⟨h.len, fun r hr => ⟨by have := (h.row r hr).1; omega, (h.row r hr).2⟩⟩
theorem adjOf_inv {n : Nat} {l : List (Int × Int)} (hv : ∀ p ∈ l, validB (n : Int) p = true) : AInv n (2 * l.length) (adjOf n l) := by
  have := adjGo_inv l 0 _ hv (AInv.init n)
  rw [Nat.zero_add] at this
  exact this
def treeOk (n : Int) (l : List (Int × Int)) : Bool := decide (((1 ≤ n ∧ n ≤ 30) ∧ (l.length : Int) = n - 1) ∧ l.all (validB n) = true) && farOk (adjOf n.toNat l)
theorem rowO_any (adj : List (List Nat)) : (adj.map rowO).any isOwn = false := by
  rw [List.any_eq_false]
  intro v hv
  obtain ⟨k, _, rfl⟩ := List.mem_map.1 hv
  simp [rowO, isOwn]
end Go.Proofs.Ytmhfkhlamnapdaa
end
section
open Go Go.HL
namespace Go.Proofs.Ytmhfkhlamnapdaa
set_option maxRecDepth 100000
def nan70 : List HV → Option HV | [.int .i64 _] => some (.bool false) | _ => none
def polNa : Pol := { pol with prim := fun g => if g == 70 then some nan70 else none }
noncomputable def B70 : Code := Try.f70.body.getD .skip
abbrev env70 (v0 v2 : HV) : Env := [(0, v0), (2, v2)]
theorem nan_0 (x : Int)  (g0 : x = x) : RunsTo Try.prog pol 70 (sub [] B70) [(0, .int .i64 x)] [] (.ret) (pol.keys 70) (env70 (.int .i64 x) (.bool false)) [] :=
  RunsTo.hint 1 60 [⟨1, 2, .bool false, []⟩] fun kf hk => by
    obtain ⟨kf, rfl⟩ : ∃ n, kf = n + 1 := ⟨kf - 1, by omega⟩
    exact ⟨[some (HV.bool (!decide (x = x)), ([] : Heap)) = some (.bool false, [])], by kernel_rfl, Obls.cons (hintB (congrArg not (decide_eq_true g0))) Obls.nil⟩
noncomputable def B68 : Code := Try.f68.body.getD .skip
abbrev env68 (v0 v1 v4 v5 v6 : HV) : Env := [(0, v0), (1, v1), (4, v4), (5, v5), (6, v6)]
theorem cmp_0 (x y : Int)  (g0 : ∀ kf, callN Try.prog polNa (kf + 1) 70 [.int .i64 x] [] = some (.bool false, [])) (g1 : ∀ kf, callN Try.prog polNa (kf + 1) 70 [.int .i64 y] [] = some (.bool false, [])) (g2 : x < y) : RunsTo Try.prog polNa 68 (sub [] B68) [(0, .int .i64 x), (1, .int .i64 y)] [] (.ret) (polNa.keys 68) (env68 (.int .i64 x) (.int .i64 y) (.int .i64 (-1)) (.bool false) (.bool false)) [] :=
  RunsTo.hint 1 60 [⟨1, 1, .bool false, []⟩, ⟨2, 1, .bool false, []⟩, ⟨9, 2, .bool true, []⟩] fun kf hk => by
    obtain ⟨kf, rfl⟩ : ∃ n, kf = n + 1 := ⟨kf - 1, by omega⟩
    exact ⟨[callN Try.prog polNa (kf + 1) 70 [.int .i64 x] [] = some (.bool false, []), callN Try.prog polNa (kf + 1) 70 [.int .i64 y] [] = some (.bool false, []), some (HV.bool (decide (x < y)), ([] : Heap)) = some (.bool true, [])], by kernel_rfl, Obls.cons (g0 kf) (Obls.cons (g1 kf) (Obls.cons (hintB (decide_eq_true g2)) Obls.nil))⟩
theorem cmp_1 (x y : Int)  (g0 : ∀ kf, callN Try.prog polNa (kf + 1) 70 [.int .i64 x] [] = some (.bool false, [])) (g1 : ∀ kf, callN Try.prog polNa (kf + 1) 70 [.int .i64 y] [] = some (.bool false, [])) (g2 : ¬ (x < y)) (g3 : y < x) : RunsTo Try.prog polNa 68 (sub [] B68) [(0, .int .i64 x), (1, .int .i64 y)] [] (.ret) (polNa.keys 68) (env68 (.int .i64 x) (.int .i64 y) (.int .i64 1) (.bool false) (.bool false)) [] :=
  RunsTo.hint 1 60 [⟨1, 1, .bool false, []⟩, ⟨2, 1, .bool false, []⟩, ⟨9, 2, .bool false, []⟩, ⟨11, 2, .bool true, []⟩] fun kf hk => by
    obtain ⟨kf, rfl⟩ : ∃ n, kf = n + 1 := ⟨kf - 1, by omega⟩
    exact ⟨[callN Try.prog polNa (kf + 1) 70 [.int .i64 x] [] = some (.bool false, []), callN Try.prog polNa (kf + 1) 70 [.int .i64 y] [] = some (.bool false, []), some (HV.bool (decide (x < y)), ([] : Heap)) = some (.bool false, []), some (HV.bool (decide (y < x)), ([] : Heap)) = some (.bool true, [])], by kernel_rfl, Obls.cons (g0 kf) (Obls.cons (g1 kf) (Obls.cons (hintB (decide_eq_false g2)) (Obls.cons (hintB (decide_eq_true g3)) Obls.nil)))⟩
theorem cmp_2 (x y : Int)  (g0 : ∀ kf, callN Try.prog polNa (kf + 1) 70 [.int .i64 x] [] = some (.bool false, [])) (g1 : ∀ kf, callN Try.prog polNa (kf + 1) 70 [.int .i64 y] [] = some (.bool false, [])) (g2 : ¬ (x < y)) (g3 : ¬ (y < x)) : RunsTo Try.prog polNa 68 (sub [] B68) [(0, .int .i64 x), (1, .int .i64 y)] [] (.ret) (polNa.keys 68) (env68 (.int .i64 x) (.int .i64 y) (.int .i64 0) (.bool false) (.bool false)) [] :=
  RunsTo.hint 1 60 [⟨1, 1, .bool false, []⟩, ⟨2, 1, .bool false, []⟩, ⟨9, 2, .bool false, []⟩, ⟨11, 2, .bool false, []⟩] fun kf hk => by
    obtain ⟨kf, rfl⟩ : ∃ n, kf = n + 1 := ⟨kf - 1, by omega⟩
    exact ⟨[callN Try.prog polNa (kf + 1) 70 [.int .i64 x] [] = some (.bool false, []), callN Try.prog polNa (kf + 1) 70 [.int .i64 y] [] = some (.bool false, []), some (HV.bool (decide (x < y)), ([] : Heap)) = some (.bool false, []), some (HV.bool (decide (y < x)), ([] : Heap)) = some (.bool false, [])], by kernel_rfl, Obls.cons (g0 kf) (Obls.cons (g1 kf) (Obls.cons (hintB (decide_eq_false g2)) (Obls.cons (hintB (decide_eq_false g3)) Obls.nil)))⟩
noncomputable def B61 : Code := Try.f61.body.getD .skip
abbrev env61 (v0 v2 : HV) : Env := [(0, v0), (2, v2)]
theorem cl_1 (l : List HV)  (g0 : nilTest Try.prog .eql 24 (.imm .arg 1 l) = some (.bool false)) (g1 : appV [] 1 8 (.imm .lit 1 []) l = some (.sl 0 0 l.length none l.length 1, [.arr 1 l true 0])) : RunsTo Try.prog pol 61 (sub [] B61) [(0, .imm .arg 1 l)] [] (.ret) (pol.keys 61) (env61 (.imm .arg 1 l) (.sl 0 0 l.length none l.length 1)) [.arr 1 l true 0] :=
  RunsTo.hint 1 60 [⟨1, 1, .bool false, []⟩, ⟨3, 2, .sl 0 0 l.length none l.length 1, [.arr 1 l true 0]⟩] fun kf hk => by
    obtain ⟨kf, rfl⟩ : ∃ n, kf = n + 1 := ⟨kf - 1, by omega⟩
    exact ⟨[(nilTest Try.prog .eql 24 (.imm .arg 1 l)).map (fun v => (v, ([] : Heap))) = some (.bool false, []), appV [] 1 8 (.imm .lit 1 []) l = some (.sl 0 0 l.length none l.length 1, [.arr 1 l true 0])], by kernel_rfl, Obls.cons (hintOp g0) (Obls.cons (g1) Obls.nil)⟩
end Go.Proofs.Ytmhfkhlamnapdaa
end
section
open Go Go.HL
namespace Go.Proofs.Ytmhfkhlamnapdaa
theorem res70 : Try.f70.results.toList = [.tmp 2] := by kernel_rfl
theorem res68 : Try.f68.results.toList = [.tmp 4] := by kernel_rfl
theorem res61 : Try.f61.results.toList = [.tmp 2] := by kernel_rfl
theorem nan_ok : PrimOk Try.prog 70 nan70 := by
  refine primOk_pure (pol := pol) (fn := Try.f70) (cd := B70) follows_mixed sound (by kernel_rfl) (by kernel_rfl) (fnok pol.prim _ _ (by kernel_rfl)) (by kernel_rfl) ?_
  intro args res h
  unfold nan70 at h
  split at h
  · rename_i x
    cases h
    exact ⟨_, _, _, _, nan_0 x rfl, by simp, by simp only [resultsV, res70]; rfl, rfl⟩
  · cases h
theorem soundNa (n : Nat) : CallSound Try.prog (callN Try.prog polNa n) := sound_prim _ (fun g f h => by
  split at h
  · rename_i hg
    cases h
    rw [eq_of_beq hg]
    exact nan_ok
  · cases h) n
def cmpI (x y : Int) : Int := if x < y then -1 else if y < x then 1 else 0
def compare68 : List HV → Option HV | [.int .i64 x, .int .i64 y] => some (.int .i64 (cmpI x y)) | _ => none
theorem compare_ok : PrimOk Try.prog 68 compare68 := by
  refine primOk_pure (pol := polNa) (fn := Try.f68) (cd := B68) follows_mixed soundNa (by kernel_rfl) (by kernel_rfl) (fnok polNa.prim _ _ (by kernel_rfl)) (by kernel_rfl) ?_
  intro args res h
  unfold compare68 at h
  split at h
  · rename_i x y
    cases h
    have c : ∀ x k, callN Try.prog polNa (k + 1) 70 [.int .i64 x] [] = some (.bool false, []) := fun x k => by
      rw [prim_call (pol := polNa) (g := 70) (F := nan70) (by kernel_rfl) (rs := [.int .i64 x]) rfl (res := .bool false) rfl]; rfl
    unfold cmpI
    by_cases h1 : x < y
    · rw [if_pos h1]
      exact ⟨_, _, _, _, cmp_0 x y (c x) (c y) h1, by simp, by simp only [resultsV, res68]; rfl, rfl⟩
    · rw [if_neg h1]
      by_cases h2 : y < x
      · rw [if_pos h2]
        exact ⟨_, _, _, _, cmp_1 x y (c x) (c y) h1 h2, by simp, by simp only [resultsV, res68]; rfl, rfl⟩
      · rw [if_neg h2]
        exact ⟨_, _, _, _, cmp_2 x y (c x) (c y) h1 h2, by simp, by simp only [resultsV, res68]; rfl, rfl⟩
  · cases h
def clone61 : List HV → Option HV
  | [.imm .arg 1 la] => (match mapO decI la with | some l => if l.length ≤ 1000 then some (.own 1 (l.map encI)) else none | none => none)
  | _ => none
theorem clone_run (v : Int) (l : List Int) (hl : (v :: l).length ≤ 1000) : ∃ k, callN Try.prog pol k 61 [.imm .arg 1 ((v :: l).map encI)] [] = some (.sl 0 0 (v :: l).length none (v :: l).length 1, [bI (v :: l)]) := by
  have hb : ∀ (l : List Int), bndL (l.map encI) = 0 := by
    intro l
    induction l with
    | nil => rfl
    | cons a l ih => simp only [List.map_cons, bndL, ih, encI, bnd]; rfl
  have hap : appV [] 1 8 (.imm .lit 1 []) ((v :: l).map encI) = some (.sl 0 0 ((v :: l).map encI).length none ((v :: l).map encI).length 1, [.arr 1 ((v :: l).map encI) true 0]) := by
    have hne : (v :: l).map encI ≠ [] := by simp
    simp only [appV, if_neg hne]
    rw [if_pos ⟨.inr trivial, by simp only [List.length_nil, List.length_map, roomMax]; omega⟩, hb]
    simp
  have hnt : nilTest Try.prog .eql 24 (.imm .arg 1 ((v :: l).map encI)) = some (.bool false) := by
    have hu : Try.prog.underlying 24 = some (.slice 3) := u24b
    simp only [nilTest, hu, knownNil, List.map_cons, nilOp]
  obtain ⟨m, h⟩ := cl_1 ((v :: l).map encI) hnt hap
  obtain ⟨e1, g1, g2⟩ := h m m (Nat.le_refl m) (Nat.le_refl m)
  refine ⟨m + 1, ?_⟩
  have hrc := resCell_sl (H := [bI (v :: l)]) (no := [0]) (b := 0) (k := 1) (m := (v :: l).length) (cap := none) (els := (v :: l).map encI) rfl (by simp) (mapO_self (fun r => frz_int 4 r) _)
  have hown : ownedAll [bI (v :: l)] false (.sl 0 0 (v :: l).length none (v :: l).length 1) = [0] := rfl
  have hpr : pureRun Try.prog pol (evC Try.prog pol (callN Try.prog pol m) m) 61 Try.f61 B61 [.imm .arg 1 ((v :: l).map encI)] = some (.own 1 ((v :: l).map encI)) := by
    unfold pureRun
    have hg1 : evC Try.prog pol (callN Try.prog pol m) m 61 B61 (args0 [.imm .arg 1 ((v :: l).map encI)]) [] = some (.ret, e1, [bI (v :: l)]) := g1
    rw [hg1]
    have hres : resultsV Try.prog Try.f61 e1 [bI (v :: l)] = some (.sl 0 0 (v :: l).length none (v :: l).length 1) := by
      have := resultsV_restr (P := Try.prog) (fn := Try.f61) (K := pol.keys 61) (e := e1) (H := [bI (v :: l)]) (by kernel_rfl)
      rw [← this, g2]
      simp only [resultsV, res61, mapO, resultV]
      simp [Env.get]
    simp only [hres]
    show toRes _ false _ = _
    simp only [toRes, hown, List.nodup_cons, List.not_mem_nil, not_false_eq_true, List.nodup_nil, and_self, if_true, resVal, hrc]
  have hp : pol.prim 61 = none := by kernel_rfl
  have hs : pol.shared 61 = false := by kernel_rfl
  have hf : Try.prog.funcs[61]? = some Try.f61 := by kernel_rfl
  have hbd : Try.f61.body = some B61 := by kernel_rfl
  have ha : toArg [] 6 (.imm .arg 1 ((v :: l).map encI)) = some (.imm .arg 1 ((v :: l).map encI)) := by
    show argP (.imm .arg 1 ((v :: l).map encI)) = _
    simp only [argP, argP_ints']
  have hno : ((v :: l).map encI).any isOwn = false := by
    rw [List.any_eq_false]
    intro v hv
    obtain ⟨k, _, rfl⟩ := List.mem_map.1 hv
    simp [encI, isOwn]
  simp only [callN, doCall, hp, hf, hbd, hs, Bool.false_eq_true, if_false, mapO, ha]
  have hpc : pureCall Try.prog pol (evC Try.prog pol (callN Try.prog pol m) m) 61 Try.f61 B61 [.imm .arg 1 ((v :: l).map encI)] = some (.own 1 ((v :: l).map encI)) := by
    unfold pureCall
    rw [if_pos (by kernel_rfl)]
    simp only [List.map_cons] at hpr ⊢
    exact hpr
  rw [hpc]
  simp only [recv, recvVal, recvCell, hno, List.length_map]
  rfl
theorem clone_ok : PrimOk Try.prog 61 clone61 := by
  refine primOk_of (pol := pol) sound (by kernel_rfl) fun args res h => ?_
  unfold clone61 at h
  split at h
  · rename_i la
    split at h
    · rename_i l hla
      split at h
      · rename_i hl
        cases h
        rw [mapO_inv decI_inv hla]
        cases l with
        | nil => exact ⟨30, .sl 0 0 0 none 0 1, [.arr 1 [] true 0], false, by kernel_rfl, rfl⟩
        | cons v l =>
          obtain ⟨k, hk⟩ := clone_run v l hl
          refine ⟨k, _, _, false, hk, ?_⟩
          have hrc := resCell_sl (H := [bI (v :: l)]) (no := [0]) (b := 0) (k := 1) (m := (v :: l).length) (cap := none) (els := (v :: l).map encI) rfl (by simp) (mapO_self (fun r => frz_int 4 r) _)
          have hown : ownedAll [bI (v :: l)] false (.sl 0 0 (v :: l).length none (v :: l).length 1) = [0] := rfl
          simp only [toRes, hown, List.nodup_cons, List.not_mem_nil, not_false_eq_true, List.nodup_nil, and_self, if_true, resVal, hrc]
      · cases h
    · cases h
  · cases h
end Go.Proofs.Ytmhfkhlamnapdaa
end
section
open Go Go.HL
namespace Go.Proofs.Ytmhfkhlamnapdaa
/-- The policy under which the tree's times are told: the functions on shared memory run under it. -/
def primS (g : FuncId) : Option (List HV → Option HV) :=
  if g == 49 then some withinF else if g == 46 then some newTree46 else if g == 50 then some far50 else if g == 52 then some contains52 else if g == 61 then some clone61 else if g == 68 then some compare68 else none
def polS : Pol := { pol with prim := primS }
theorem primS_ok (g : FuncId) (f : List HV → Option HV) (h : primS g = some f) : PrimOk Try.prog g f := by
  unfold primS at h
  split at h
  · rename_i hg; cases h; rw [eq_of_beq hg]; exact within_ok
  split at h
  · rename_i hg; cases h; rw [eq_of_beq hg]; exact newTree_ok
  split at h
  · rename_i hg; cases h; rw [eq_of_beq hg]; exact far_ok
  split at h
  · rename_i hg; cases h; rw [eq_of_beq hg]; exact contains_ok
  split at h
  · rename_i hg; cases h; rw [eq_of_beq hg]; exact clone_ok
  split at h
  · rename_i hg; cases h; rw [eq_of_beq hg]; exact compare_ok
  · cases h
theorem soundS (n : Nat) : CallSound Try.prog (callN Try.prog polS n) := sound_prim primS primS_ok n
abbrev Cl (g : FuncId) (args : List HV) (H : Heap) (r : HV) (H' : Heap) : Prop := CallsTo (P := Try.prog) (pol := polS) g args H r H'
/-- A call of a function on shared memory. -/
theorem CallsTo.shared {P : Program} {pol : Pol} {g : FuncId} {fn : Func} {cd : Code} {args : List HV} {x : X} {E : Env} {H H' : Heap} {v : HV} (hp : pol.prim g = none) (hf : P.funcs[g]? = some fn) (hb : fn.body = some cd) (hs : pol.shared g = true)
    (hrun : RunsTo P pol g cd (args0 args) H x (pol.keys g) E H') (hres : (fn.results.toList.all fun r => match r with | .tmp t => (pol.keys g).contains t | .cell t _ => (pol.keys g).contains t) = true) (hx : ∀ i, x ≠ .exit i) (hv : resultsV P fn E H' = some v) :
    CallsTo (P := P) (pol := pol) g args H v (gc H.length (bnd v) H') := by
  obtain ⟨m, h⟩ := hrun
  refine ⟨m + 1, fun k hk => ?_⟩
  obtain ⟨k, rfl⟩ : ∃ n', k = n' + 1 := ⟨k - 1, by omega⟩
  obtain ⟨e1, g1, g2⟩ := h k k (by omega) (by omega)
  subst g2
  rw [resultsV_restr hres] at hv
  simp only [callN, doCall, hp, hf, hb, hs, if_true, sharedCall, g1]
  cases x with
  | exit i => exact absurd rfl (hx i)
  | normal => simp only [hv]
  | ret => simp only [hv]
theorem Cl.from {g : FuncId} {args : List HV} {H H' : Heap} {r : HV} (h : Cl g args H r H') : ∃ N, ∀ kf, N ≤ kf → callN Try.prog polS (kf + 1) g args H = some (r, H') := by
  obtain ⟨m, h⟩ := h
  exact ⟨m, fun kf hk => h (kf + 1) (by omega)⟩
/-- All but the map's block is as it was. -/
structure Fr (H H' : Heap) : Prop where
  len : H'.length = H.length
  same : ∀ k, k ≠ 1 → H'[k]? = H[k]?
theorem Fr.refl (H : Heap) : Fr H H := ⟨rfl, fun _ _ => rfl⟩
theorem Fr.trans {H H' H'' : Heap} (h : Fr H H') (h' : Fr H' H'') : Fr H H'' := ⟨h'.len.trans h.len, fun k hk => (h'.same k hk).trans (h.same k hk)⟩
/-- All but the map's block and the list's is as it was. -/
structure Fd (db : Nat) (H H' : Heap) : Prop where
  len : H'.length = H.length
  same : ∀ k, k ≠ 1 → k ≠ db → H'[k]? = H[k]?
theorem Fd.refl (db : Nat) (H : Heap) : Fd db H H := ⟨rfl, fun _ _ _ => rfl⟩
theorem Fd.trans {db : Nat} {H H' H'' : Heap} (h : Fd db H H') (h' : Fd db H' H'') : Fd db H H'' := ⟨h'.len.trans h.len, fun k hk hd => (h'.same k hk hd).trans (h.same k hk hd)⟩
theorem Fr.fd {db : Nat} {H H' : Heap} (h : Fr H H') : Fd db H H' := ⟨h.len, fun k hk _ => h.same k hk⟩
/-- What compares: on memory of which K holds; greater numbers come first; the list's block does not matter to K. -/
structure Cmp (db : Nat) (cp : HV) (f : Int → Int) (dom : Int → Prop) (K : Heap → Prop) : Prop where
  one : db ≠ 1
  call : ∀ H x y, K H → dom x → dom y → ∃ c H', Cl 67 [.int .i64 x, .int .i64 y, cp] H (.int .i64 c) H' ∧ (c < 0 ↔ f y < f x) ∧ K H' ∧ Fr H H'
  put : ∀ H (l l' : List Int), K H → H[db]? = some (bI l) → l'.length = l.length → K (H.set db (bI l'))
/-- The list in its block. -/
structure Ls (db : Nat) (K : Heap → Prop) (dom : Int → Prop) (l : List Int) (H : Heap) : Prop where
  blk : H[db]? = some (bI l)
  ok : K H
  all : ∀ v ∈ l, dom v
theorem Ls.fr {db : Nat} {K : Heap → Prop} {dom : Int → Prop} {l : List Int} {H H' : Heap} (h : Ls db K dom l H) (h1 : db ≠ 1) (hK : K H') (hf : Fr H H') : Ls db K dom l H' := ⟨by rw [hf.same db h1]; exact h.blk, hK, h.all⟩
def swp (l : List Int) (i j : Nat) : List Int := (l.set i (l.getD j 0)).set j (l.getD i 0)
theorem swp_len (l : List Int) (i j : Nat) : (swp l i j).length = l.length := by simp [swp]
theorem swp_perm {l : List Int} {i j : Nat} (hi : i < l.length) (hj : j < l.length) : (swp l i j).Perm l := by
  have h := Array.swap_perm (xs := l.toArray) (i := i) (j := j) (by simpa using hi) (by simpa using hj)
  have h2 := h.toList
  rw [Array.toList_swap] at h2
  simpa [swp, List.getD, List.getElem?_eq_getElem hi, List.getElem?_eq_getElem hj] using h2
theorem swp_get {l : List Int} {i j : Nat} (hi : i < l.length) (hj : j < l.length) (k : Nat) : (swp l i j).getD k 0 = if k = j then l.getD i 0 else if k = i then l.getD j 0 else l.getD k 0 := by
  unfold swp
  rw [getD_set _ _ _ _ (by simpa using hj), getD_set _ _ _ _ hi]
  by_cases e : j = k
  · subst e; simp
  · have e' : ¬ k = j := fun h => e h.symm
    rw [if_neg e, if_neg e']
    by_cases e2 : i = k
    · subst e2; simp
    · rw [if_neg e2, if_neg (fun h => e2 h.symm)]
theorem Ls.swp_ {db : Nat} {K : Heap → Prop} {dom : Int → Prop} {l : List Int} {H : Heap} {cp : HV} {f : Int → Int} (h : Ls db K dom l H) (hc : Cmp db cp f dom K) {i j : Nat} (hi : i < l.length) (hj : j < l.length) :
    storeV Try.prog H 3 (.ptr db i 0 l.length) (.int .i64 (l.getD j 0)) = some (H.set db (bI (l.set i (l.getD j 0)))) ∧
    storeV Try.prog (H.set db (bI (l.set i (l.getD j 0)))) 3 (.ptr db j 0 l.length) (.int .i64 (l.getD i 0)) = some (H.set db (bI (swp l i j))) ∧ Ls db K dom (swp l i j) (H.set db (bI (swp l i j))) ∧ Fd db H (H.set db (bI (swp l i j))) := by
  have hlt : db < H.length := lt_of_get h.blk
  have h1 := store_out h.blk hi (l.getD j 0)
  have hb : (H.set db (bI (l.set i (l.getD j 0))))[db]? = some (bI (l.set i (l.getD j 0))) := List.getElem?_set_self hlt
  have h2 := store_out hb (y := j) (by simpa using hj) (l.getD i 0)
  rw [List.length_set, List.set_set] at h2
  refine ⟨h1, h2, ⟨List.getElem?_set_self hlt, hc.put H l _ h.ok h.blk (swp_len l i j), fun v hv => h.all v ?_⟩, by simp, fun k _ hd => by rw [List.getElem?_set_ne (fun e => hd e.symm)]⟩
  exact (swp_perm hi hj).mem_iff.1 hv
theorem Ls.load {db : Nat} {K : Heap → Prop} {dom : Int → Prop} {l : List Int} {H : Heap} (h : Ls db K dom l H) {i : Nat} (hi : i < l.length) : loadV Try.prog H 3 (.ptr db i 0 l.length) = some (.int .i64 (l.getD i 0)) := load_out h.blk hi
theorem Ls.dom_ {db : Nat} {K : Heap → Prop} {dom : Int → Prop} {l : List Int} {H : Heap} (h : Ls db K dom l H) {i : Nat} (hi : i < l.length) : dom (l.getD i 0) := by
  have : l.getD i 0 = l[i] := by simp [List.getD, List.getElem?_eq_getElem hi]
  rw [this]; exact h.all _ (List.getElem_mem hi)
theorem gc_eq {H H' : Heap} (r : Nat) (h : H'.length = H.length) : gc H.length r H' = H' := gc_same (by omega)
end Go.Proofs.Ytmhfkhlamnapdaa
end
section
open Go Go.HL
namespace Go.Proofs.Ytmhfkhlamnapdaa
set_option maxRecDepth 100000
noncomputable def B69 : Code := Try.f69.body.getD .skip
abbrev env69 (v0 v1 v2 v6 v7 v8 v9 : HV) : Env := [(0, v0), (1, v1), (2, v2), (6, v6), (7, v7), (8, v8), (9, v9)]
theorem st_a_0 (N : Nat) (db n : Nat) (m : Int) (cp : HV) (H : Heap)   : RunsTo Try.prog polS 69 (sub [0] B69) [(0, .sl db 0 n none n 1), (1, .int .i64 m), (2, .func 67 [] [cp])] H (.normal) (polS.keys 69) (env69 (.sl db 0 n none n 1) (.int .i64 m) (.func 67 [] [cp]) (.int .i64 20) .undef .undef .undef) H :=
  RunsTo.hint (N + 1) 60 [] fun kf hk => by
    obtain ⟨kf, rfl⟩ : ∃ n, kf = n + 1 := ⟨kf - 1, by omega⟩
    exact ⟨[], by kernel_rfl, Obls.nil⟩
theorem st_b_0 (N : Nat) (db n : Nat) (m : Int) (cp : HV) (H : Heap) (w : Int)   : RunsTo Try.prog polS 69 (sub [1, 0] B69) (env69 (.sl db 0 n none n 1) (.int .i64 m) (.func 67 [] [cp]) (.int .i64 w) .undef .undef .undef) H (.normal) (polS.keys 69) (env69 (.sl db 0 n none n 1) (.int .i64 m) (.func 67 [] [cp]) (.int .i64 w) (.int .i64 0) (.int .i64 w) .undef) H :=
  RunsTo.hint (N + 1) 60 [] fun kf hk => by
    obtain ⟨kf, rfl⟩ : ∃ n, kf = n + 1 := ⟨kf - 1, by omega⟩
    exact ⟨[], by kernel_rfl, Obls.nil⟩
theorem st_c_0 (N : Nat) (db n : Nat) (m : Int) (cp : HV) (H : Heap) (w a b : Int) (H0 : Heap) (g0 : b ≤ m) (g1 : ∀ kf, N ≤ kf → callN Try.prog polS (kf + 1) 71 [.sl db 0 n none n 1, .int .i64 a, .int .i64 b, .func 67 [] [cp]] H = some (.tuple [], H0)) : RunsTo Try.prog polS 69 (sub [1, 1, 0, 0, 0] B69) (env69 (.sl db 0 n none n 1) (.int .i64 m) (.func 67 [] [cp]) (.int .i64 w) (.int .i64 a) (.int .i64 b) .undef) H (.normal) (polS.keys 69) (env69 (.sl db 0 n none n 1) (.int .i64 m) (.func 67 [] [cp]) (.int .i64 w) (.int .i64 b) (.int .i64 (IntKind.i64.wrap (b + w))) .undef) H0 :=
  RunsTo.hint (N + 1) 60 [⟨2, 2, .bool true, H⟩, ⟨3, 4, .tuple [], H0⟩] fun kf hk => by
    obtain ⟨kf, rfl⟩ : ∃ n, kf = n + 1 := ⟨kf - 1, by omega⟩
    exact ⟨[some (HV.bool (decide (b ≤ m)), (H : Heap)) = some (.bool true, H), callN Try.prog polS (kf + 1) 71 [.sl db 0 n none n 1, .int .i64 a, .int .i64 b, .func 67 [] [cp]] H = some (.tuple [], H0)], by kernel_rfl, Obls.cons (hintB (decide_eq_true g0)) (Obls.cons (g1 kf (by omega)) Obls.nil)⟩
theorem st_c_1 (N : Nat) (db n : Nat) (m : Int) (cp : HV) (H : Heap) (w a b : Int)  (g0 : ¬ (b ≤ m)) : RunsTo Try.prog polS 69 (sub [1, 1, 0, 0, 0] B69) (env69 (.sl db 0 n none n 1) (.int .i64 m) (.func 67 [] [cp]) (.int .i64 w) (.int .i64 a) (.int .i64 b) .undef) H (.exit 0) (polS.keys 69) (env69 (.sl db 0 n none n 1) (.int .i64 m) (.func 67 [] [cp]) (.int .i64 w) (.int .i64 a) (.int .i64 b) .undef) H :=
  RunsTo.hint (N + 1) 60 [⟨2, 2, .bool false, H⟩] fun kf hk => by
    obtain ⟨kf, rfl⟩ : ∃ n, kf = n + 1 := ⟨kf - 1, by omega⟩
    exact ⟨[some (HV.bool (decide (b ≤ m)), (H : Heap)) = some (.bool false, H)], by kernel_rfl, Obls.cons (hintB (decide_eq_false g0)) Obls.nil⟩
theorem st_d_0 (N : Nat) (db n : Nat) (m : Int) (cp : HV) (H : Heap) (w a b : Int) (H0 : Heap) (g0 : ∀ kf, N ≤ kf → callN Try.prog polS (kf + 1) 71 [.sl db 0 n none n 1, .int .i64 a, .int .i64 m, .func 67 [] [cp]] H = some (.tuple [], H0)) : RunsTo Try.prog polS 69 (sub [1, 1, 1, 0] B69) (env69 (.sl db 0 n none n 1) (.int .i64 m) (.func 67 [] [cp]) (.int .i64 w) (.int .i64 a) (.int .i64 b) .undef) H (.normal) (polS.keys 69) (env69 (.sl db 0 n none n 1) (.int .i64 m) (.func 67 [] [cp]) (.int .i64 w) (.int .i64 a) (.int .i64 b) .undef) H0 :=
  RunsTo.hint (N + 1) 60 [⟨6, 4, .tuple [], H0⟩] fun kf hk => by
    obtain ⟨kf, rfl⟩ : ∃ n, kf = n + 1 := ⟨kf - 1, by omega⟩
    exact ⟨[callN Try.prog polS (kf + 1) 71 [.sl db 0 n none n 1, .int .i64 a, .int .i64 m, .func 67 [] [cp]] H = some (.tuple [], H0)], by kernel_rfl, Obls.cons (g0 kf (by omega)) Obls.nil⟩
theorem st_e_0 (N : Nat) (db n : Nat) (m : Int) (cp : HV) (H : Heap) (w : Int) (v7 v8 : HV)  (g0 : w < m) : RunsTo Try.prog polS 69 (sub [1, 1, 1, 1, 0, 0, 0] B69) (env69 (.sl db 0 n none n 1) (.int .i64 m) (.func 67 [] [cp]) (.int .i64 w) v7 v8 .undef) H (.normal) (polS.keys 69) (env69 (.sl db 0 n none n 1) (.int .i64 m) (.func 67 [] [cp]) (.int .i64 w) v7 v8 .undef) H :=
  RunsTo.hint (N + 1) 60 [⟨7, 2, .bool true, H⟩] fun kf hk => by
    obtain ⟨kf, rfl⟩ : ∃ n, kf = n + 1 := ⟨kf - 1, by omega⟩
    exact ⟨[some (HV.bool (decide (w < m)), (H : Heap)) = some (.bool true, H)], by kernel_rfl, Obls.cons (hintB (decide_eq_true g0)) Obls.nil⟩
theorem st_e_1 (N : Nat) (db n : Nat) (m : Int) (cp : HV) (H : Heap) (w : Int) (v7 v8 : HV)  (g0 : ¬ (w < m)) : RunsTo Try.prog polS 69 (sub [1, 1, 1, 1, 0, 0, 0] B69) (env69 (.sl db 0 n none n 1) (.int .i64 m) (.func 67 [] [cp]) (.int .i64 w) v7 v8 .undef) H (.exit 2) (polS.keys 69) (env69 (.sl db 0 n none n 1) (.int .i64 m) (.func 67 [] [cp]) (.int .i64 w) v7 v8 .undef) H :=
  RunsTo.hint (N + 1) 60 [⟨7, 2, .bool false, H⟩] fun kf hk => by
    obtain ⟨kf, rfl⟩ : ∃ n, kf = n + 1 := ⟨kf - 1, by omega⟩
    exact ⟨[some (HV.bool (decide (w < m)), (H : Heap)) = some (.bool false, H)], by kernel_rfl, Obls.cons (hintB (decide_eq_false g0)) Obls.nil⟩
theorem st_f_0 (N : Nat) (db n : Nat) (m : Int) (cp : HV) (H : Heap) (w : Int) (v7 v8 : HV)   : RunsTo Try.prog polS 69 (sub [1, 1, 1, 1, 0, 0, 1, 0, 0] B69) (env69 (.sl db 0 n none n 1) (.int .i64 m) (.func 67 [] [cp]) (.int .i64 w) v7 v8 .undef) H (.normal) (polS.keys 69) (env69 (.sl db 0 n none n 1) (.int .i64 m) (.func 67 [] [cp]) (.int .i64 w) (.int .i64 0) (.int .i64 (IntKind.i64.wrap (2 * w))) .undef) H :=
  RunsTo.hint (N + 1) 60 [] fun kf hk => by
    obtain ⟨kf, rfl⟩ : ∃ n, kf = n + 1 := ⟨kf - 1, by omega⟩
    exact ⟨[], by kernel_rfl, Obls.nil⟩
theorem st_g_1 (N : Nat) (db n : Nat) (m : Int) (cp : HV) (H : Heap) (w a b : Int)  (g0 : ¬ (b ≤ m)) : RunsTo Try.prog polS 69 (sub [1, 1, 1, 1, 0, 0, 1, 0, 1, 0, 0, 0] B69) (env69 (.sl db 0 n none n 1) (.int .i64 m) (.func 67 [] [cp]) (.int .i64 w) (.int .i64 a) (.int .i64 b) .undef) H (.exit 4) (polS.keys 69) (env69 (.sl db 0 n none n 1) (.int .i64 m) (.func 67 [] [cp]) (.int .i64 w) (.int .i64 a) (.int .i64 b) .undef) H :=
  RunsTo.hint (N + 1) 60 [⟨9, 2, .bool false, H⟩] fun kf hk => by
    obtain ⟨kf, rfl⟩ : ∃ n, kf = n + 1 := ⟨kf - 1, by omega⟩
    exact ⟨[some (HV.bool (decide (b ≤ m)), (H : Heap)) = some (.bool false, H)], by kernel_rfl, Obls.cons (hintB (decide_eq_false g0)) Obls.nil⟩
theorem st_h_0 (N : Nat) (db n : Nat) (m : Int) (cp : HV) (H : Heap) (w a b : Int) (H0 : Heap) (g0 : IntKind.i64.wrap (a + w) < m) (g1 : ∀ kf, N ≤ kf → callN Try.prog polS (kf + 1) 72 [.sl db 0 n none n 1, .int .i64 a, .int .i64 (IntKind.i64.wrap (a + w)), .int .i64 m, .func 67 [] [cp]] H = some (.tuple [], H0)) : RunsTo Try.prog polS 69 (sub [1, 1, 1, 1, 0, 0, 1, 0, 1, 1] B69) (env69 (.sl db 0 n none n 1) (.int .i64 m) (.func 67 [] [cp]) (.int .i64 w) (.int .i64 a) (.int .i64 b) .undef) H (.normal) (polS.keys 69) (env69 (.sl db 0 n none n 1) (.int .i64 m) (.func 67 [] [cp]) (.int .i64 (IntKind.i64.wrap (w * 2))) (.int .i64 a) (.int .i64 b) (.int .i64 (IntKind.i64.wrap (a + w)))) H0 :=
  RunsTo.hint (N + 1) 60 [⟨14, 2, .bool true, H⟩, ⟨15, 5, .tuple [], H0⟩] fun kf hk => by
    obtain ⟨kf, rfl⟩ : ∃ n, kf = n + 1 := ⟨kf - 1, by omega⟩
    exact ⟨[some (HV.bool (decide (IntKind.i64.wrap (a + w) < m)), (H : Heap)) = some (.bool true, H), callN Try.prog polS (kf + 1) 72 [.sl db 0 n none n 1, .int .i64 a, .int .i64 (IntKind.i64.wrap (a + w)), .int .i64 m, .func 67 [] [cp]] H = some (.tuple [], H0)], by kernel_rfl, Obls.cons (hintB (decide_eq_true g0)) (Obls.cons (g1 kf (by omega)) Obls.nil)⟩
end Go.Proofs.Ytmhfkhlamnapdaa
end
section
open Go Go.HL
namespace Go.Proofs.Ytmhfkhlamnapdaa
set_option maxRecDepth 100000
noncomputable def B66 : Code := Try.f66.body.getD .skip
abbrev env66 (v0 v1 : HV) : Env := [(0, v0), (1, v1)]
theorem so_a_0 (N : Nat) (db n : Nat) (cp : HV) (H : Heap) (H0 : Heap) (g0 : ∀ kf, N ≤ kf → callN Try.prog polS (kf + 1) 69 [.sl db 0 n none n 1, .int .i64 (n : Int), .func 67 [] [cp]] H = some (.tuple [], H0)) : RunsTo Try.prog polS 66 (sub [] B66) (env66 (.sl db 0 n none n 1) (.func 67 [] [cp])) H (.normal) (polS.keys 66) (env66 (.sl db 0 n none n 1) (.func 67 [] [cp])) H0 :=
  RunsTo.hint (N + 1) 60 [⟨0, 4, .tuple [], H0⟩] fun kf hk => by
    obtain ⟨kf, rfl⟩ : ∃ n, kf = n + 1 := ⟨kf - 1, by omega⟩
    exact ⟨[callN Try.prog polS (kf + 1) 69 [.sl db 0 n none n 1, .int .i64 (n : Int), .func 67 [] [cp]] H = some (.tuple [], H0)], by kernel_rfl, Obls.cons (g0 kf (by omega)) Obls.nil⟩
end Go.Proofs.Ytmhfkhlamnapdaa
end
section
open Go Go.HL
namespace Go.Proofs.Ytmhfkhlamnapdaa
set_option maxRecDepth 100000
noncomputable def B72 : Code := Try.f72.body.getD .skip
abbrev env72 (v0 v1 v2 v3 v4 v10 v11 v12 v13 v14 v15 v16 v17 v18 v19 v20 v21 v22 v23 v24 : HV) : Env := [(0, v0), (1, v1), (2, v2), (3, v3), (4, v4), (10, v10), (11, v11), (12, v12), (13, v13), (14, v14), (15, v15), (16, v16), (17, v17), (18, v18), (19, v19), (20, v20), (21, v21), (22, v22), (23, v23), (24, v24)]
theorem sy_a_0 (N : Nat) (db n : Nat) (a m b : Int) (cp : HV) (H : Heap)  (g0 : IntKind.i64.wrap (m - a) = 1) : RunsTo Try.prog polS 72 (sub [0, 0] B72) [(0, .sl db 0 n none n 1), (1, .int .i64 a), (2, .int .i64 m), (3, .int .i64 b), (4, .func 67 [] [cp])] H (.normal) [0, 1, 2, 3, 4, 10, 11, 12, 13, 14, 15, 16, 17, 18, 19, 20, 21, 22, 23, 24, 28] [(0, .sl db 0 n none n 1), (1, .int .i64 a), (2, .int .i64 m), (3, .int .i64 b), (4, .func 67 [] [cp]), (10, .undef), (11, .undef), (12, .undef), (13, .undef), (14, .undef), (15, .undef), (16, .undef), (17, .undef), (18, .undef), (19, .undef), (20, .undef), (21, .undef), (22, .undef), (23, .undef), (24, .undef), (28, .bool true)] H :=
  RunsTo.hint (N + 1) 60 [⟨0, 3, .bool true, H⟩] fun kf hk => by
    obtain ⟨kf, rfl⟩ : ∃ n, kf = n + 1 := ⟨kf - 1, by omega⟩
    exact ⟨[some (HV.bool (decide (IntKind.i64.wrap (m - a) = 1)), (H : Heap)) = some (.bool true, H)], by kernel_rfl, Obls.cons (hintB (decide_eq_true g0)) Obls.nil⟩
theorem sy_a_1 (N : Nat) (db n : Nat) (a m b : Int) (cp : HV) (H : Heap)  (g0 : ¬ (IntKind.i64.wrap (m - a) = 1)) : RunsTo Try.prog polS 72 (sub [0, 0] B72) [(0, .sl db 0 n none n 1), (1, .int .i64 a), (2, .int .i64 m), (3, .int .i64 b), (4, .func 67 [] [cp])] H (.normal) [0, 1, 2, 3, 4, 10, 11, 12, 13, 14, 15, 16, 17, 18, 19, 20, 21, 22, 23, 24, 28] [(0, .sl db 0 n none n 1), (1, .int .i64 a), (2, .int .i64 m), (3, .int .i64 b), (4, .func 67 [] [cp]), (10, .undef), (11, .undef), (12, .undef), (13, .undef), (14, .undef), (15, .undef), (16, .undef), (17, .undef), (18, .undef), (19, .undef), (20, .undef), (21, .undef), (22, .undef), (23, .undef), (24, .undef), (28, .bool false)] H :=
  RunsTo.hint (N + 1) 60 [⟨0, 3, .bool false, H⟩] fun kf hk => by
    obtain ⟨kf, rfl⟩ : ∃ n, kf = n + 1 := ⟨kf - 1, by omega⟩
    exact ⟨[some (HV.bool (decide (IntKind.i64.wrap (m - a) = 1)), (H : Heap)) = some (.bool false, H)], by kernel_rfl, Obls.cons (hintB (decide_eq_false g0)) Obls.nil⟩
theorem sy_b_0 (N : Nat) (db n : Nat) (a m b : Int) (cp : HV) (H : Heap)   : RunsTo Try.prog polS 72 (sub [0, 1, 0, 0] B72) (env72 (.sl db 0 n none n 1) (.int .i64 a) (.int .i64 m) (.int .i64 b) (.func 67 [] [cp]) .undef .undef .undef .undef .undef .undef .undef .undef .undef .undef .undef .undef .undef .undef .undef) H (.normal) (polS.keys 72) (env72 (.sl db 0 n none n 1) (.int .i64 a) (.int .i64 m) (.int .i64 b) (.func 67 [] [cp]) (.int .i64 m) .undef .undef .undef .undef .undef .undef .undef .undef .undef .undef .undef .undef .undef .undef) H :=
  RunsTo.hint (N + 1) 60 [] fun kf hk => by
    obtain ⟨kf, rfl⟩ : ∃ n, kf = n + 1 := ⟨kf - 1, by omega⟩
    exact ⟨[], by kernel_rfl, Obls.nil⟩
theorem sy_c_0 (N : Nat) (db n : Nat) (a m b : Int) (cp : HV) (H : Heap) (i : Int)   : RunsTo Try.prog polS 72 (sub [0, 1, 0, 1, 0] B72) (env72 (.sl db 0 n none n 1) (.int .i64 a) (.int .i64 m) (.int .i64 b) (.func 67 [] [cp]) (.int .i64 i) .undef .undef .undef .undef .undef .undef .undef .undef .undef .undef .undef .undef .undef .undef) H (.normal) (polS.keys 72) (env72 (.sl db 0 n none n 1) (.int .i64 a) (.int .i64 m) (.int .i64 b) (.func 67 [] [cp]) (.int .i64 i) (.int .i64 b) .undef .undef .undef .undef .undef .undef .undef .undef .undef .undef .undef .undef .undef) H :=
  RunsTo.hint (N + 1) 60 [] fun kf hk => by
    obtain ⟨kf, rfl⟩ : ∃ n, kf = n + 1 := ⟨kf - 1, by omega⟩
    exact ⟨[], by kernel_rfl, Obls.nil⟩
theorem sy_d_0 (N : Nat) (db n : Nat) (a m b : Int) (cp : HV) (H : Heap) (i j : Int) (h0 : Int) (x0 : Int) (x1 : Int) (c0 : Int) (H0 : Heap) (g0 : i < j) (g1 : binV Try.prog .shr 76 (.int .u64 (IntKind.u64.wrap (IntKind.i64.wrap (i + j)))) (.int .u64 1) = some (.int .u64 h0)) (g2 : idxV Try.prog 24 (.sl db 0 n none n 1) (.int .i64 (IntKind.i64.wrap h0)) = some (.ptr db ((IntKind.i64.wrap h0).toNat) 0 n)) (g3 : loadV Try.prog H 3 (.ptr db ((IntKind.i64.wrap h0).toNat) 0 n) = some (.int .i64 x0)) (g4 : idxV Try.prog 24 (.sl db 0 n none n 1) (.int .i64 a) = some (.ptr db ((a).toNat) 0 n)) (g5 : loadV Try.prog H 3 (.ptr db ((a).toNat) 0 n) = some (.int .i64 x1)) (g6 : ∀ kf, N ≤ kf → callN Try.prog polS (kf + 1) 67 [.int .i64 x0, .int .i64 x1, cp] H = some (.int .i64 c0, H0)) (g7 : c0 < 0) : RunsTo Try.prog polS 72 (sub [0, 1, 0, 1, 1, 0, 0, 0] B72) (env72 (.sl db 0 n none n 1) (.int .i64 a) (.int .i64 m) (.int .i64 b) (.func 67 [] [cp]) (.int .i64 i) (.int .i64 j) .undef .undef .undef .undef .undef .undef .undef .undef .undef .undef .undef .undef .undef) H (.normal) (polS.keys 72) (env72 (.sl db 0 n none n 1) (.int .i64 a) (.int .i64 m) (.int .i64 b) (.func 67 [] [cp]) (.int .i64 (IntKind.i64.wrap (IntKind.i64.wrap h0 + 1))) (.int .i64 j) (.int .i64 (IntKind.i64.wrap h0)) .undef .undef .undef .undef .undef .undef .undef .undef .undef .undef .undef .undef) H0 :=
  RunsTo.hint (N + 1) 60 [⟨3, 2, .bool true, H⟩, ⟨4, 4, .int .u64 h0, H⟩, ⟨5, 3, .ptr db ((IntKind.i64.wrap h0).toNat) 0 n, H⟩, ⟨5, 4, .int .i64 x0, H⟩, ⟨5, 7, .ptr db ((a).toNat) 0 n, H⟩, ⟨5, 8, .int .i64 x1, H⟩, ⟨5, 9, .int .i64 c0, H0⟩, ⟨5, 10, .bool true, H0⟩] fun kf hk => by
    obtain ⟨kf, rfl⟩ : ∃ n, kf = n + 1 := ⟨kf - 1, by omega⟩
    exact ⟨[some (HV.bool (decide (i < j)), (H : Heap)) = some (.bool true, H), (binV Try.prog .shr 76 (.int .u64 (IntKind.u64.wrap (IntKind.i64.wrap (i + j)))) (.int .u64 1)).map (fun v => (v, (H : Heap))) = some (.int .u64 h0, H), (idxV Try.prog 24 (.sl db 0 n none n 1) (.int .i64 (IntKind.i64.wrap h0))).map (fun v => (v, (H : Heap))) = some (.ptr db ((IntKind.i64.wrap h0).toNat) 0 n, H), (loadV Try.prog H 3 (.ptr db ((IntKind.i64.wrap h0).toNat) 0 n)).map (fun v => (v, (H : Heap))) = some (.int .i64 x0, H), (idxV Try.prog 24 (.sl db 0 n none n 1) (.int .i64 a)).map (fun v => (v, (H : Heap))) = some (.ptr db ((a).toNat) 0 n, H), (loadV Try.prog H 3 (.ptr db ((a).toNat) 0 n)).map (fun v => (v, (H : Heap))) = some (.int .i64 x1, H), callN Try.prog polS (kf + 1) 67 [.int .i64 x0, .int .i64 x1, cp] H = some (.int .i64 c0, H0), some (HV.bool (decide (c0 < 0)), (H0 : Heap)) = some (.bool true, H0)], by kernel_rfl, Obls.cons (hintB (decide_eq_true g0)) (Obls.cons (hintOp g1) (Obls.cons (hintOp g2) (Obls.cons (hintOp g3) (Obls.cons (hintOp g4) (Obls.cons (hintOp g5) (Obls.cons (g6 kf (by omega)) (Obls.cons (hintB (decide_eq_true g7)) Obls.nil)))))))⟩
theorem sy_d_1 (N : Nat) (db n : Nat) (a m b : Int) (cp : HV) (H : Heap) (i j : Int) (h0 : Int) (x0 : Int) (x1 : Int) (c0 : Int) (H0 : Heap) (g0 : i < j) (g1 : binV Try.prog .shr 76 (.int .u64 (IntKind.u64.wrap (IntKind.i64.wrap (i + j)))) (.int .u64 1) = some (.int .u64 h0)) (g2 : idxV Try.prog 24 (.sl db 0 n none n 1) (.int .i64 (IntKind.i64.wrap h0)) = some (.ptr db ((IntKind.i64.wrap h0).toNat) 0 n)) (g3 : loadV Try.prog H 3 (.ptr db ((IntKind.i64.wrap h0).toNat) 0 n) = some (.int .i64 x0)) (g4 : idxV Try.prog 24 (.sl db 0 n none n 1) (.int .i64 a) = some (.ptr db ((a).toNat) 0 n)) (g5 : loadV Try.prog H 3 (.ptr db ((a).toNat) 0 n) = some (.int .i64 x1)) (g6 : ∀ kf, N ≤ kf → callN Try.prog polS (kf + 1) 67 [.int .i64 x0, .int .i64 x1, cp] H = some (.int .i64 c0, H0)) (g7 : ¬ (c0 < 0)) : RunsTo Try.prog polS 72 (sub [0, 1, 0, 1, 1, 0, 0, 0] B72) (env72 (.sl db 0 n none n 1) (.int .i64 a) (.int .i64 m) (.int .i64 b) (.func 67 [] [cp]) (.int .i64 i) (.int .i64 j) .undef .undef .undef .undef .undef .undef .undef .undef .undef .undef .undef .undef .undef) H (.normal) (polS.keys 72) (env72 (.sl db 0 n none n 1) (.int .i64 a) (.int .i64 m) (.int .i64 b) (.func 67 [] [cp]) (.int .i64 i) (.int .i64 (IntKind.i64.wrap h0)) (.int .i64 (IntKind.i64.wrap h0)) .undef .undef .undef .undef .undef .undef .undef .undef .undef .undef .undef .undef) H0 :=
  RunsTo.hint (N + 1) 60 [⟨3, 2, .bool true, H⟩, ⟨4, 4, .int .u64 h0, H⟩, ⟨5, 3, .ptr db ((IntKind.i64.wrap h0).toNat) 0 n, H⟩, ⟨5, 4, .int .i64 x0, H⟩, ⟨5, 7, .ptr db ((a).toNat) 0 n, H⟩, ⟨5, 8, .int .i64 x1, H⟩, ⟨5, 9, .int .i64 c0, H0⟩, ⟨5, 10, .bool false, H0⟩] fun kf hk => by
    obtain ⟨kf, rfl⟩ : ∃ n, kf = n + 1 := ⟨kf - 1, by omega⟩
    exact ⟨[some (HV.bool (decide (i < j)), (H : Heap)) = some (.bool true, H), (binV Try.prog .shr 76 (.int .u64 (IntKind.u64.wrap (IntKind.i64.wrap (i + j)))) (.int .u64 1)).map (fun v => (v, (H : Heap))) = some (.int .u64 h0, H), (idxV Try.prog 24 (.sl db 0 n none n 1) (.int .i64 (IntKind.i64.wrap h0))).map (fun v => (v, (H : Heap))) = some (.ptr db ((IntKind.i64.wrap h0).toNat) 0 n, H), (loadV Try.prog H 3 (.ptr db ((IntKind.i64.wrap h0).toNat) 0 n)).map (fun v => (v, (H : Heap))) = some (.int .i64 x0, H), (idxV Try.prog 24 (.sl db 0 n none n 1) (.int .i64 a)).map (fun v => (v, (H : Heap))) = some (.ptr db ((a).toNat) 0 n, H), (loadV Try.prog H 3 (.ptr db ((a).toNat) 0 n)).map (fun v => (v, (H : Heap))) = some (.int .i64 x1, H), callN Try.prog polS (kf + 1) 67 [.int .i64 x0, .int .i64 x1, cp] H = some (.int .i64 c0, H0), some (HV.bool (decide (c0 < 0)), (H0 : Heap)) = some (.bool false, H0)], by kernel_rfl, Obls.cons (hintB (decide_eq_true g0)) (Obls.cons (hintOp g1) (Obls.cons (hintOp g2) (Obls.cons (hintOp g3) (Obls.cons (hintOp g4) (Obls.cons (hintOp g5) (Obls.cons (g6 kf (by omega)) (Obls.cons (hintB (decide_eq_false g7)) Obls.nil)))))))⟩
theorem sy_d_2 (N : Nat) (db n : Nat) (a m b : Int) (cp : HV) (H : Heap) (i j : Int)  (g0 : ¬ (i < j)) : RunsTo Try.prog polS 72 (sub [0, 1, 0, 1, 1, 0, 0, 0] B72) (env72 (.sl db 0 n none n 1) (.int .i64 a) (.int .i64 m) (.int .i64 b) (.func 67 [] [cp]) (.int .i64 i) (.int .i64 j) .undef .undef .undef .undef .undef .undef .undef .undef .undef .undef .undef .undef .undef) H (.exit 0) (polS.keys 72) (env72 (.sl db 0 n none n 1) (.int .i64 a) (.int .i64 m) (.int .i64 b) (.func 67 [] [cp]) (.int .i64 i) (.int .i64 j) .undef .undef .undef .undef .undef .undef .undef .undef .undef .undef .undef .undef .undef) H :=
  RunsTo.hint (N + 1) 60 [⟨3, 2, .bool false, H⟩] fun kf hk => by
    obtain ⟨kf, rfl⟩ : ∃ n, kf = n + 1 := ⟨kf - 1, by omega⟩
    exact ⟨[some (HV.bool (decide (i < j)), (H : Heap)) = some (.bool false, H)], by kernel_rfl, Obls.cons (hintB (decide_eq_false g0)) Obls.nil⟩
theorem sy_e_0 (N : Nat) (db n : Nat) (a m b : Int) (cp : HV) (H : Heap) (i j : Int) (v12 : HV)   : RunsTo Try.prog polS 72 (sub [0, 1, 0, 1, 1, 1, 0, 0] B72) (env72 (.sl db 0 n none n 1) (.int .i64 a) (.int .i64 m) (.int .i64 b) (.func 67 [] [cp]) (.int .i64 i) (.int .i64 j) v12 .undef .undef .undef .undef .undef .undef .undef .undef .undef .undef .undef .undef) H (.normal) (polS.keys 72) (env72 (.sl db 0 n none n 1) (.int .i64 a) (.int .i64 m) (.int .i64 b) (.func 67 [] [cp]) (.int .i64 i) (.int .i64 j) v12 (.int .i64 a) .undef .undef .undef .undef .undef .undef .undef .undef .undef .undef .undef) H :=
  RunsTo.hint (N + 1) 60 [] fun kf hk => by
    obtain ⟨kf, rfl⟩ : ∃ n, kf = n + 1 := ⟨kf - 1, by omega⟩
    exact ⟨[], by kernel_rfl, Obls.nil⟩
theorem sy_f_0 (N : Nat) (db n : Nat) (a m b : Int) (cp : HV) (H : Heap) (i k : Int) (x0 : Int) (x1 : Int) (H0 : Heap) (H1 : Heap) (g0 : k < IntKind.i64.wrap (i - 1)) (g1 : idxV Try.prog 24 (.sl db 0 n none n 1) (.int .i64 (IntKind.i64.wrap (k + 1))) = some (.ptr db ((IntKind.i64.wrap (k + 1)).toNat) 0 n)) (g2 : loadV Try.prog H 3 (.ptr db ((IntKind.i64.wrap (k + 1)).toNat) 0 n) = some (.int .i64 x0)) (g3 : idxV Try.prog 24 (.sl db 0 n none n 1) (.int .i64 k) = some (.ptr db ((k).toNat) 0 n)) (g4 : loadV Try.prog H 3 (.ptr db ((k).toNat) 0 n) = some (.int .i64 x1)) (g5 : idxV Try.prog 24 (.sl db 0 n none n 1) (.int .i64 k) = some (.ptr db ((k).toNat) 0 n)) (g6 : storeV Try.prog H 3 (.ptr db ((k).toNat) 0 n) (.int .i64 x0) = some H0) (g7 : idxV Try.prog 24 (.sl db 0 n none n 1) (.int .i64 (IntKind.i64.wrap (k + 1))) = some (.ptr db ((IntKind.i64.wrap (k + 1)).toNat) 0 n)) (g8 : storeV Try.prog H0 3 (.ptr db ((IntKind.i64.wrap (k + 1)).toNat) 0 n) (.int .i64 x1) = some H1) : RunsTo Try.prog polS 72 (sub [0, 1, 0, 1, 1, 1, 0, 1, 0, 0] B72) (env72 (.sl db 0 n none n 1) (.int .i64 a) (.int .i64 m) (.int .i64 b) (.func 67 [] [cp]) (.int .i64 i) .undef .undef (.int .i64 k) .undef .undef .undef .undef .undef .undef .undef .undef .undef .undef .undef) H (.normal) (polS.keys 72) (env72 (.sl db 0 n none n 1) (.int .i64 a) (.int .i64 m) (.int .i64 b) (.func 67 [] [cp]) (.int .i64 i) .undef .undef (.int .i64 (IntKind.i64.wrap (k + 1))) .undef .undef .undef .undef .undef .undef .undef .undef .undef .undef .undef) H1 :=
  RunsTo.hint (N + 1) 60 [⟨9, 3, .bool true, H⟩, ⟨11, 8, .ptr db ((IntKind.i64.wrap (k + 1)).toNat) 0 n, H⟩, ⟨11, 9, .int .i64 x0, H⟩, ⟨11, 12, .ptr db ((k).toNat) 0 n, H⟩, ⟨11, 13, .int .i64 x1, H⟩, ⟨11, 14, .ptr db ((k).toNat) 0 n, H⟩, ⟨11, 15, .tuple [], H0⟩, ⟨11, 16, .ptr db ((IntKind.i64.wrap (k + 1)).toNat) 0 n, H0⟩, ⟨11, 17, .tuple [], H1⟩] fun kf hk => by
    obtain ⟨kf, rfl⟩ : ∃ n, kf = n + 1 := ⟨kf - 1, by omega⟩
    exact ⟨[some (HV.bool (decide (k < IntKind.i64.wrap (i - 1))), (H : Heap)) = some (.bool true, H), (idxV Try.prog 24 (.sl db 0 n none n 1) (.int .i64 (IntKind.i64.wrap (k + 1)))).map (fun v => (v, (H : Heap))) = some (.ptr db ((IntKind.i64.wrap (k + 1)).toNat) 0 n, H), (loadV Try.prog H 3 (.ptr db ((IntKind.i64.wrap (k + 1)).toNat) 0 n)).map (fun v => (v, (H : Heap))) = some (.int .i64 x0, H), (idxV Try.prog 24 (.sl db 0 n none n 1) (.int .i64 k)).map (fun v => (v, (H : Heap))) = some (.ptr db ((k).toNat) 0 n, H), (loadV Try.prog H 3 (.ptr db ((k).toNat) 0 n)).map (fun v => (v, (H : Heap))) = some (.int .i64 x1, H), (idxV Try.prog 24 (.sl db 0 n none n 1) (.int .i64 k)).map (fun v => (v, (H : Heap))) = some (.ptr db ((k).toNat) 0 n, H), (storeV Try.prog H 3 (.ptr db ((k).toNat) 0 n) (.int .i64 x0)).map (fun H => (HV.tuple [], H)) = some (.tuple [], H0), (idxV Try.prog 24 (.sl db 0 n none n 1) (.int .i64 (IntKind.i64.wrap (k + 1)))).map (fun v => (v, (H0 : Heap))) = some (.ptr db ((IntKind.i64.wrap (k + 1)).toNat) 0 n, H0), (storeV Try.prog H0 3 (.ptr db ((IntKind.i64.wrap (k + 1)).toNat) 0 n) (.int .i64 x1)).map (fun H => (HV.tuple [], H)) = some (.tuple [], H1)], by kernel_rfl, Obls.cons (hintB (decide_eq_true g0)) (Obls.cons (hintOp g1) (Obls.cons (hintOp g2) (Obls.cons (hintOp g3) (Obls.cons (hintOp g4) (Obls.cons (hintOp g5) (Obls.cons (hintSt g6) (Obls.cons (hintOp g7) (Obls.cons (hintSt g8) Obls.nil))))))))⟩
theorem sy_f_1 (N : Nat) (db n : Nat) (a m b : Int) (cp : HV) (H : Heap) (i k : Int)  (g0 : ¬ (k < IntKind.i64.wrap (i - 1))) : RunsTo Try.prog polS 72 (sub [0, 1, 0, 1, 1, 1, 0, 1, 0, 0] B72) (env72 (.sl db 0 n none n 1) (.int .i64 a) (.int .i64 m) (.int .i64 b) (.func 67 [] [cp]) (.int .i64 i) .undef .undef (.int .i64 k) .undef .undef .undef .undef .undef .undef .undef .undef .undef .undef .undef) H (.exit 2) (polS.keys 72) (env72 (.sl db 0 n none n 1) (.int .i64 a) (.int .i64 m) (.int .i64 b) (.func 67 [] [cp]) (.int .i64 i) .undef .undef (.int .i64 k) .undef .undef .undef .undef .undef .undef .undef .undef .undef .undef .undef) H :=
  RunsTo.hint (N + 1) 60 [⟨9, 3, .bool false, H⟩] fun kf hk => by
    obtain ⟨kf, rfl⟩ : ∃ n, kf = n + 1 := ⟨kf - 1, by omega⟩
    exact ⟨[some (HV.bool (decide (k < IntKind.i64.wrap (i - 1))), (H : Heap)) = some (.bool false, H)], by kernel_rfl, Obls.cons (hintB (decide_eq_false g0)) Obls.nil⟩
theorem sy_g_0 (N : Nat) (db n : Nat) (a m b : Int) (cp : HV) (H : Heap) (i k : Int)   : RunsTo Try.prog polS 72 (sub [0, 1, 0, 1, 1, 1, 1] B72) (env72 (.sl db 0 n none n 1) (.int .i64 a) (.int .i64 m) (.int .i64 b) (.func 67 [] [cp]) (.int .i64 i) .undef .undef (.int .i64 k) .undef .undef .undef .undef .undef .undef .undef .undef .undef .undef .undef) H (.ret) (polS.keys 72) (env72 (.sl db 0 n none n 1) (.int .i64 a) (.int .i64 m) (.int .i64 b) (.func 67 [] [cp]) (.int .i64 i) .undef .undef (.int .i64 k) .undef .undef .undef .undef .undef .undef .undef .undef .undef .undef .undef) H :=
  RunsTo.hint (N + 1) 60 [] fun kf hk => by
    obtain ⟨kf, rfl⟩ : ∃ n, kf = n + 1 := ⟨kf - 1, by omega⟩
    exact ⟨[], by kernel_rfl, Obls.nil⟩
theorem sy_h_0 (N : Nat) (db n : Nat) (a m b : Int) (cp : HV) (H : Heap)  (g0 : IntKind.i64.wrap (b - m) = 1) : RunsTo Try.prog polS 72 (sub [1, 0, 0] B72) (env72 (.sl db 0 n none n 1) (.int .i64 a) (.int .i64 m) (.int .i64 b) (.func 67 [] [cp]) .undef .undef .undef .undef .undef .undef .undef .undef .undef .undef .undef .undef .undef .undef .undef) H (.normal) [0, 1, 2, 3, 4, 10, 11, 12, 13, 14, 15, 16, 17, 18, 19, 20, 21, 22, 23, 24, 80] [(0, .sl db 0 n none n 1), (1, .int .i64 a), (2, .int .i64 m), (3, .int .i64 b), (4, .func 67 [] [cp]), (10, .undef), (11, .undef), (12, .undef), (13, .undef), (14, .undef), (15, .undef), (16, .undef), (17, .undef), (18, .undef), (19, .undef), (20, .undef), (21, .undef), (22, .undef), (23, .undef), (24, .undef), (80, .bool true)] H :=
  RunsTo.hint (N + 1) 60 [⟨12, 3, .bool true, H⟩] fun kf hk => by
    obtain ⟨kf, rfl⟩ : ∃ n, kf = n + 1 := ⟨kf - 1, by omega⟩
    exact ⟨[some (HV.bool (decide (IntKind.i64.wrap (b - m) = 1)), (H : Heap)) = some (.bool true, H)], by kernel_rfl, Obls.cons (hintB (decide_eq_true g0)) Obls.nil⟩
theorem sy_h_1 (N : Nat) (db n : Nat) (a m b : Int) (cp : HV) (H : Heap)  (g0 : ¬ (IntKind.i64.wrap (b - m) = 1)) : RunsTo Try.prog polS 72 (sub [1, 0, 0] B72) (env72 (.sl db 0 n none n 1) (.int .i64 a) (.int .i64 m) (.int .i64 b) (.func 67 [] [cp]) .undef .undef .undef .undef .undef .undef .undef .undef .undef .undef .undef .undef .undef .undef .undef) H (.normal) [0, 1, 2, 3, 4, 10, 11, 12, 13, 14, 15, 16, 17, 18, 19, 20, 21, 22, 23, 24, 80] [(0, .sl db 0 n none n 1), (1, .int .i64 a), (2, .int .i64 m), (3, .int .i64 b), (4, .func 67 [] [cp]), (10, .undef), (11, .undef), (12, .undef), (13, .undef), (14, .undef), (15, .undef), (16, .undef), (17, .undef), (18, .undef), (19, .undef), (20, .undef), (21, .undef), (22, .undef), (23, .undef), (24, .undef), (80, .bool false)] H :=
  RunsTo.hint (N + 1) 60 [⟨12, 3, .bool false, H⟩] fun kf hk => by
    obtain ⟨kf, rfl⟩ : ∃ n, kf = n + 1 := ⟨kf - 1, by omega⟩
    exact ⟨[some (HV.bool (decide (IntKind.i64.wrap (b - m) = 1)), (H : Heap)) = some (.bool false, H)], by kernel_rfl, Obls.cons (hintB (decide_eq_false g0)) Obls.nil⟩
theorem sy_i_0 (N : Nat) (db n : Nat) (a m b : Int) (cp : HV) (H : Heap)   : RunsTo Try.prog polS 72 (sub [1, 0, 1, 0, 0] B72) (env72 (.sl db 0 n none n 1) (.int .i64 a) (.int .i64 m) (.int .i64 b) (.func 67 [] [cp]) .undef .undef .undef .undef .undef .undef .undef .undef .undef .undef .undef .undef .undef .undef .undef) H (.normal) (polS.keys 72) (env72 (.sl db 0 n none n 1) (.int .i64 a) (.int .i64 m) (.int .i64 b) (.func 67 [] [cp]) .undef .undef .undef .undef (.int .i64 a) .undef .undef .undef .undef .undef .undef .undef .undef .undef .undef) H :=
  RunsTo.hint (N + 1) 60 [] fun kf hk => by
    obtain ⟨kf, rfl⟩ : ∃ n, kf = n + 1 := ⟨kf - 1, by omega⟩
    exact ⟨[], by kernel_rfl, Obls.nil⟩
theorem sy_j_0 (N : Nat) (db n : Nat) (a m b : Int) (cp : HV) (H : Heap) (i : Int)   : RunsTo Try.prog polS 72 (sub [1, 0, 1, 0, 1, 0] B72) (env72 (.sl db 0 n none n 1) (.int .i64 a) (.int .i64 m) (.int .i64 b) (.func 67 [] [cp]) .undef .undef .undef .undef (.int .i64 i) .undef .undef .undef .undef .undef .undef .undef .undef .undef .undef) H (.normal) (polS.keys 72) (env72 (.sl db 0 n none n 1) (.int .i64 a) (.int .i64 m) (.int .i64 b) (.func 67 [] [cp]) .undef .undef .undef .undef (.int .i64 i) (.int .i64 m) .undef .undef .undef .undef .undef .undef .undef .undef .undef) H :=
  RunsTo.hint (N + 1) 60 [] fun kf hk => by
    obtain ⟨kf, rfl⟩ : ∃ n, kf = n + 1 := ⟨kf - 1, by omega⟩
    exact ⟨[], by kernel_rfl, Obls.nil⟩
theorem sy_k_0 (N : Nat) (db n : Nat) (a m b : Int) (cp : HV) (H : Heap) (i j : Int) (h0 : Int) (x0 : Int) (x1 : Int) (c0 : Int) (H0 : Heap) (g0 : i < j) (g1 : binV Try.prog .shr 76 (.int .u64 (IntKind.u64.wrap (IntKind.i64.wrap (i + j)))) (.int .u64 1) = some (.int .u64 h0)) (g2 : idxV Try.prog 24 (.sl db 0 n none n 1) (.int .i64 m) = some (.ptr db ((m).toNat) 0 n)) (g3 : loadV Try.prog H 3 (.ptr db ((m).toNat) 0 n) = some (.int .i64 x0)) (g4 : idxV Try.prog 24 (.sl db 0 n none n 1) (.int .i64 (IntKind.i64.wrap h0)) = some (.ptr db ((IntKind.i64.wrap h0).toNat) 0 n)) (g5 : loadV Try.prog H 3 (.ptr db ((IntKind.i64.wrap h0).toNat) 0 n) = some (.int .i64 x1)) (g6 : ∀ kf, N ≤ kf → callN Try.prog polS (kf + 1) 67 [.int .i64 x0, .int .i64 x1, cp] H = some (.int .i64 c0, H0)) (g7 : c0 < 0) : RunsTo Try.prog polS 72 (sub [1, 0, 1, 0, 1, 1, 0, 0, 0] B72) (env72 (.sl db 0 n none n 1) (.int .i64 a) (.int .i64 m) (.int .i64 b) (.func 67 [] [cp]) .undef .undef .undef .undef (.int .i64 i) (.int .i64 j) .undef .undef .undef .undef .undef .undef .undef .undef .undef) H (.normal) (polS.keys 72) (env72 (.sl db 0 n none n 1) (.int .i64 a) (.int .i64 m) (.int .i64 b) (.func 67 [] [cp]) .undef .undef .undef .undef (.int .i64 i) (.int .i64 (IntKind.i64.wrap h0)) (.int .i64 (IntKind.i64.wrap h0)) .undef .undef .undef .undef .undef .undef .undef .undef) H0 :=
  RunsTo.hint (N + 1) 60 [⟨15, 2, .bool true, H⟩, ⟨16, 4, .int .u64 h0, H⟩, ⟨17, 3, .ptr db ((m).toNat) 0 n, H⟩, ⟨17, 4, .int .i64 x0, H⟩, ⟨17, 7, .ptr db ((IntKind.i64.wrap h0).toNat) 0 n, H⟩, ⟨17, 8, .int .i64 x1, H⟩, ⟨17, 9, .int .i64 c0, H0⟩, ⟨17, 10, .bool true, H0⟩] fun kf hk => by
    obtain ⟨kf, rfl⟩ : ∃ n, kf = n + 1 := ⟨kf - 1, by omega⟩
    exact ⟨[some (HV.bool (decide (i < j)), (H : Heap)) = some (.bool true, H), (binV Try.prog .shr 76 (.int .u64 (IntKind.u64.wrap (IntKind.i64.wrap (i + j)))) (.int .u64 1)).map (fun v => (v, (H : Heap))) = some (.int .u64 h0, H), (idxV Try.prog 24 (.sl db 0 n none n 1) (.int .i64 m)).map (fun v => (v, (H : Heap))) = some (.ptr db ((m).toNat) 0 n, H), (loadV Try.prog H 3 (.ptr db ((m).toNat) 0 n)).map (fun v => (v, (H : Heap))) = some (.int .i64 x0, H), (idxV Try.prog 24 (.sl db 0 n none n 1) (.int .i64 (IntKind.i64.wrap h0))).map (fun v => (v, (H : Heap))) = some (.ptr db ((IntKind.i64.wrap h0).toNat) 0 n, H), (loadV Try.prog H 3 (.ptr db ((IntKind.i64.wrap h0).toNat) 0 n)).map (fun v => (v, (H : Heap))) = some (.int .i64 x1, H), callN Try.prog polS (kf + 1) 67 [.int .i64 x0, .int .i64 x1, cp] H = some (.int .i64 c0, H0), some (HV.bool (decide (c0 < 0)), (H0 : Heap)) = some (.bool true, H0)], by kernel_rfl, Obls.cons (hintB (decide_eq_true g0)) (Obls.cons (hintOp g1) (Obls.cons (hintOp g2) (Obls.cons (hintOp g3) (Obls.cons (hintOp g4) (Obls.cons (hintOp g5) (Obls.cons (g6 kf (by omega)) (Obls.cons (hintB (decide_eq_true g7)) Obls.nil)))))))⟩
theorem sy_k_1 (N : Nat) (db n : Nat) (a m b : Int) (cp : HV) (H : Heap) (i j : Int) (h0 : Int) (x0 : Int) (x1 : Int) (c0 : Int) (H0 : Heap) (g0 : i < j) (g1 : binV Try.prog .shr 76 (.int .u64 (IntKind.u64.wrap (IntKind.i64.wrap (i + j)))) (.int .u64 1) = some (.int .u64 h0)) (g2 : idxV Try.prog 24 (.sl db 0 n none n 1) (.int .i64 m) = some (.ptr db ((m).toNat) 0 n)) (g3 : loadV Try.prog H 3 (.ptr db ((m).toNat) 0 n) = some (.int .i64 x0)) (g4 : idxV Try.prog 24 (.sl db 0 n none n 1) (.int .i64 (IntKind.i64.wrap h0)) = some (.ptr db ((IntKind.i64.wrap h0).toNat) 0 n)) (g5 : loadV Try.prog H 3 (.ptr db ((IntKind.i64.wrap h0).toNat) 0 n) = some (.int .i64 x1)) (g6 : ∀ kf, N ≤ kf → callN Try.prog polS (kf + 1) 67 [.int .i64 x0, .int .i64 x1, cp] H = some (.int .i64 c0, H0)) (g7 : ¬ (c0 < 0)) : RunsTo Try.prog polS 72 (sub [1, 0, 1, 0, 1, 1, 0, 0, 0] B72) (env72 (.sl db 0 n none n 1) (.int .i64 a) (.int .i64 m) (.int .i64 b) (.func 67 [] [cp]) .undef .undef .undef .undef (.int .i64 i) (.int .i64 j) .undef .undef .undef .undef .undef .undef .undef .undef .undef) H (.normal) (polS.keys 72) (env72 (.sl db 0 n none n 1) (.int .i64 a) (.int .i64 m) (.int .i64 b) (.func 67 [] [cp]) .undef .undef .undef .undef (.int .i64 (IntKind.i64.wrap (IntKind.i64.wrap h0 + 1))) (.int .i64 j) (.int .i64 (IntKind.i64.wrap h0)) .undef .undef .undef .undef .undef .undef .undef .undef) H0 :=
  RunsTo.hint (N + 1) 60 [⟨15, 2, .bool true, H⟩, ⟨16, 4, .int .u64 h0, H⟩, ⟨17, 3, .ptr db ((m).toNat) 0 n, H⟩, ⟨17, 4, .int .i64 x0, H⟩, ⟨17, 7, .ptr db ((IntKind.i64.wrap h0).toNat) 0 n, H⟩, ⟨17, 8, .int .i64 x1, H⟩, ⟨17, 9, .int .i64 c0, H0⟩, ⟨17, 10, .bool false, H0⟩] fun kf hk => by
    obtain ⟨kf, rfl⟩ : ∃ n, kf = n + 1 := ⟨kf - 1, by omega⟩
    exact ⟨[some (HV.bool (decide (i < j)), (H : Heap)) = some (.bool true, H), (binV Try.prog .shr 76 (.int .u64 (IntKind.u64.wrap (IntKind.i64.wrap (i + j)))) (.int .u64 1)).map (fun v => (v, (H : Heap))) = some (.int .u64 h0, H), (idxV Try.prog 24 (.sl db 0 n none n 1) (.int .i64 m)).map (fun v => (v, (H : Heap))) = some (.ptr db ((m).toNat) 0 n, H), (loadV Try.prog H 3 (.ptr db ((m).toNat) 0 n)).map (fun v => (v, (H : Heap))) = some (.int .i64 x0, H), (idxV Try.prog 24 (.sl db 0 n none n 1) (.int .i64 (IntKind.i64.wrap h0))).map (fun v => (v, (H : Heap))) = some (.ptr db ((IntKind.i64.wrap h0).toNat) 0 n, H), (loadV Try.prog H 3 (.ptr db ((IntKind.i64.wrap h0).toNat) 0 n)).map (fun v => (v, (H : Heap))) = some (.int .i64 x1, H), callN Try.prog polS (kf + 1) 67 [.int .i64 x0, .int .i64 x1, cp] H = some (.int .i64 c0, H0), some (HV.bool (decide (c0 < 0)), (H0 : Heap)) = some (.bool false, H0)], by kernel_rfl, Obls.cons (hintB (decide_eq_true g0)) (Obls.cons (hintOp g1) (Obls.cons (hintOp g2) (Obls.cons (hintOp g3) (Obls.cons (hintOp g4) (Obls.cons (hintOp g5) (Obls.cons (g6 kf (by omega)) (Obls.cons (hintB (decide_eq_false g7)) Obls.nil)))))))⟩
theorem sy_k_2 (N : Nat) (db n : Nat) (a m b : Int) (cp : HV) (H : Heap) (i j : Int)  (g0 : ¬ (i < j)) : RunsTo Try.prog polS 72 (sub [1, 0, 1, 0, 1, 1, 0, 0, 0] B72) (env72 (.sl db 0 n none n 1) (.int .i64 a) (.int .i64 m) (.int .i64 b) (.func 67 [] [cp]) .undef .undef .undef .undef (.int .i64 i) (.int .i64 j) .undef .undef .undef .undef .undef .undef .undef .undef .undef) H (.exit 4) (polS.keys 72) (env72 (.sl db 0 n none n 1) (.int .i64 a) (.int .i64 m) (.int .i64 b) (.func 67 [] [cp]) .undef .undef .undef .undef (.int .i64 i) (.int .i64 j) .undef .undef .undef .undef .undef .undef .undef .undef .undef) H :=
  RunsTo.hint (N + 1) 60 [⟨15, 2, .bool false, H⟩] fun kf hk => by
    obtain ⟨kf, rfl⟩ : ∃ n, kf = n + 1 := ⟨kf - 1, by omega⟩
    exact ⟨[some (HV.bool (decide (i < j)), (H : Heap)) = some (.bool false, H)], by kernel_rfl, Obls.cons (hintB (decide_eq_false g0)) Obls.nil⟩
theorem sy_l_0 (N : Nat) (db n : Nat) (a m b : Int) (cp : HV) (H : Heap) (i j : Int) (v16 : HV)   : RunsTo Try.prog polS 72 (sub [1, 0, 1, 0, 1, 1, 1, 0, 0] B72) (env72 (.sl db 0 n none n 1) (.int .i64 a) (.int .i64 m) (.int .i64 b) (.func 67 [] [cp]) .undef .undef .undef .undef (.int .i64 i) (.int .i64 j) v16 .undef .undef .undef .undef .undef .undef .undef .undef) H (.normal) (polS.keys 72) (env72 (.sl db 0 n none n 1) (.int .i64 a) (.int .i64 m) (.int .i64 b) (.func 67 [] [cp]) .undef .undef .undef .undef (.int .i64 i) (.int .i64 j) v16 (.int .i64 m) .undef .undef .undef .undef .undef .undef .undef) H :=
  RunsTo.hint (N + 1) 60 [] fun kf hk => by
    obtain ⟨kf, rfl⟩ : ∃ n, kf = n + 1 := ⟨kf - 1, by omega⟩
    exact ⟨[], by kernel_rfl, Obls.nil⟩
theorem sy_m_0 (N : Nat) (db n : Nat) (a m b : Int) (cp : HV) (H : Heap) (i k : Int) (x0 : Int) (x1 : Int) (H0 : Heap) (H1 : Heap) (g0 : i < k) (g1 : idxV Try.prog 24 (.sl db 0 n none n 1) (.int .i64 (IntKind.i64.wrap (k - 1))) = some (.ptr db ((IntKind.i64.wrap (k - 1)).toNat) 0 n)) (g2 : loadV Try.prog H 3 (.ptr db ((IntKind.i64.wrap (k - 1)).toNat) 0 n) = some (.int .i64 x0)) (g3 : idxV Try.prog 24 (.sl db 0 n none n 1) (.int .i64 k) = some (.ptr db ((k).toNat) 0 n)) (g4 : loadV Try.prog H 3 (.ptr db ((k).toNat) 0 n) = some (.int .i64 x1)) (g5 : idxV Try.prog 24 (.sl db 0 n none n 1) (.int .i64 k) = some (.ptr db ((k).toNat) 0 n)) (g6 : storeV Try.prog H 3 (.ptr db ((k).toNat) 0 n) (.int .i64 x0) = some H0) (g7 : idxV Try.prog 24 (.sl db 0 n none n 1) (.int .i64 (IntKind.i64.wrap (k - 1))) = some (.ptr db ((IntKind.i64.wrap (k - 1)).toNat) 0 n)) (g8 : storeV Try.prog H0 3 (.ptr db ((IntKind.i64.wrap (k - 1)).toNat) 0 n) (.int .i64 x1) = some H1) : RunsTo Try.prog polS 72 (sub [1, 0, 1, 0, 1, 1, 1, 0, 1, 0, 0] B72) (env72 (.sl db 0 n none n 1) (.int .i64 a) (.int .i64 m) (.int .i64 b) (.func 67 [] [cp]) .undef .undef .undef .undef (.int .i64 i) .undef .undef (.int .i64 k) .undef .undef .undef .undef .undef .undef .undef) H (.normal) (polS.keys 72) (env72 (.sl db 0 n none n 1) (.int .i64 a) (.int .i64 m) (.int .i64 b) (.func 67 [] [cp]) .undef .undef .undef .undef (.int .i64 i) .undef .undef (.int .i64 (IntKind.i64.wrap (k - 1))) .undef .undef .undef .undef .undef .undef .undef) H1 :=
  RunsTo.hint (N + 1) 60 [⟨21, 2, .bool true, H⟩, ⟨23, 8, .ptr db ((IntKind.i64.wrap (k - 1)).toNat) 0 n, H⟩, ⟨23, 9, .int .i64 x0, H⟩, ⟨23, 12, .ptr db ((k).toNat) 0 n, H⟩, ⟨23, 13, .int .i64 x1, H⟩, ⟨23, 14, .ptr db ((k).toNat) 0 n, H⟩, ⟨23, 15, .tuple [], H0⟩, ⟨23, 16, .ptr db ((IntKind.i64.wrap (k - 1)).toNat) 0 n, H0⟩, ⟨23, 17, .tuple [], H1⟩] fun kf hk => by
    obtain ⟨kf, rfl⟩ : ∃ n, kf = n + 1 := ⟨kf - 1, by omega⟩
    exact ⟨[some (HV.bool (decide (i < k)), (H : Heap)) = some (.bool true, H), (idxV Try.prog 24 (.sl db 0 n none n 1) (.int .i64 (IntKind.i64.wrap (k - 1)))).map (fun v => (v, (H : Heap))) = some (.ptr db ((IntKind.i64.wrap (k - 1)).toNat) 0 n, H), (loadV Try.prog H 3 (.ptr db ((IntKind.i64.wrap (k - 1)).toNat) 0 n)).map (fun v => (v, (H : Heap))) = some (.int .i64 x0, H), (idxV Try.prog 24 (.sl db 0 n none n 1) (.int .i64 k)).map (fun v => (v, (H : Heap))) = some (.ptr db ((k).toNat) 0 n, H), (loadV Try.prog H 3 (.ptr db ((k).toNat) 0 n)).map (fun v => (v, (H : Heap))) = some (.int .i64 x1, H), (idxV Try.prog 24 (.sl db 0 n none n 1) (.int .i64 k)).map (fun v => (v, (H : Heap))) = some (.ptr db ((k).toNat) 0 n, H), (storeV Try.prog H 3 (.ptr db ((k).toNat) 0 n) (.int .i64 x0)).map (fun H => (HV.tuple [], H)) = some (.tuple [], H0), (idxV Try.prog 24 (.sl db 0 n none n 1) (.int .i64 (IntKind.i64.wrap (k - 1)))).map (fun v => (v, (H0 : Heap))) = some (.ptr db ((IntKind.i64.wrap (k - 1)).toNat) 0 n, H0), (storeV Try.prog H0 3 (.ptr db ((IntKind.i64.wrap (k - 1)).toNat) 0 n) (.int .i64 x1)).map (fun H => (HV.tuple [], H)) = some (.tuple [], H1)], by kernel_rfl, Obls.cons (hintB (decide_eq_true g0)) (Obls.cons (hintOp g1) (Obls.cons (hintOp g2) (Obls.cons (hintOp g3) (Obls.cons (hintOp g4) (Obls.cons (hintOp g5) (Obls.cons (hintSt g6) (Obls.cons (hintOp g7) (Obls.cons (hintSt g8) Obls.nil))))))))⟩
theorem sy_m_1 (N : Nat) (db n : Nat) (a m b : Int) (cp : HV) (H : Heap) (i k : Int)  (g0 : ¬ (i < k)) : RunsTo Try.prog polS 72 (sub [1, 0, 1, 0, 1, 1, 1, 0, 1, 0, 0] B72) (env72 (.sl db 0 n none n 1) (.int .i64 a) (.int .i64 m) (.int .i64 b) (.func 67 [] [cp]) .undef .undef .undef .undef (.int .i64 i) .undef .undef (.int .i64 k) .undef .undef .undef .undef .undef .undef .undef) H (.exit 6) (polS.keys 72) (env72 (.sl db 0 n none n 1) (.int .i64 a) (.int .i64 m) (.int .i64 b) (.func 67 [] [cp]) .undef .undef .undef .undef (.int .i64 i) .undef .undef (.int .i64 k) .undef .undef .undef .undef .undef .undef .undef) H :=
  RunsTo.hint (N + 1) 60 [⟨21, 2, .bool false, H⟩] fun kf hk => by
    obtain ⟨kf, rfl⟩ : ∃ n, kf = n + 1 := ⟨kf - 1, by omega⟩
    exact ⟨[some (HV.bool (decide (i < k)), (H : Heap)) = some (.bool false, H)], by kernel_rfl, Obls.cons (hintB (decide_eq_false g0)) Obls.nil⟩
theorem sy_n_0 (N : Nat) (db n : Nat) (a m b : Int) (cp : HV) (H : Heap) (i k : Int)   : RunsTo Try.prog polS 72 (sub [1, 0, 1, 0, 1, 1, 1, 1] B72) (env72 (.sl db 0 n none n 1) (.int .i64 a) (.int .i64 m) (.int .i64 b) (.func 67 [] [cp]) .undef .undef .undef .undef (.int .i64 i) .undef .undef (.int .i64 k) .undef .undef .undef .undef .undef .undef .undef) H (.ret) (polS.keys 72) (env72 (.sl db 0 n none n 1) (.int .i64 a) (.int .i64 m) (.int .i64 b) (.func 67 [] [cp]) .undef .undef .undef .undef (.int .i64 i) .undef .undef (.int .i64 k) .undef .undef .undef .undef .undef .undef .undef) H :=
  RunsTo.hint (N + 1) 60 [] fun kf hk => by
    obtain ⟨kf, rfl⟩ : ∃ n, kf = n + 1 := ⟨kf - 1, by omega⟩
    exact ⟨[], by kernel_rfl, Obls.nil⟩
theorem sy_o_0 (N : Nat) (db n : Nat) (a m b : Int) (cp : HV) (H : Heap) (h0 : Int) (g0 : binV Try.prog .shr 76 (.int .u64 (IntKind.u64.wrap (IntKind.i64.wrap (a + b)))) (.int .u64 1) = some (.int .u64 h0)) : RunsTo Try.prog polS 72 (sub [1, 1, 0] B72) (env72 (.sl db 0 n none n 1) (.int .i64 a) (.int .i64 m) (.int .i64 b) (.func 67 [] [cp]) .undef .undef .undef .undef .undef .undef .undef .undef .undef .undef .undef .undef .undef .undef .undef) H (.normal) (polS.keys 72) (env72 (.sl db 0 n none n 1) (.int .i64 a) (.int .i64 m) (.int .i64 b) (.func 67 [] [cp]) .undef .undef .undef .undef .undef .undef .undef .undef (.int .i64 (IntKind.i64.wrap h0)) .undef .undef .undef .undef .undef .undef) H :=
  RunsTo.hint (N + 1) 60 [⟨24, 4, .int .u64 h0, H⟩] fun kf hk => by
    obtain ⟨kf, rfl⟩ : ∃ n, kf = n + 1 := ⟨kf - 1, by omega⟩
    exact ⟨[(binV Try.prog .shr 76 (.int .u64 (IntKind.u64.wrap (IntKind.i64.wrap (a + b)))) (.int .u64 1)).map (fun v => (v, (H : Heap))) = some (.int .u64 h0, H)], by kernel_rfl, Obls.cons (hintOp g0) Obls.nil⟩
theorem sy_p_0 (N : Nat) (db n : Nat) (a m b : Int) (cp : HV) (H : Heap) (mid : Int)   : RunsTo Try.prog polS 72 (sub [1, 1, 1, 0] B72) (env72 (.sl db 0 n none n 1) (.int .i64 a) (.int .i64 m) (.int .i64 b) (.func 67 [] [cp]) .undef .undef .undef .undef .undef .undef .undef .undef (.int .i64 mid) .undef .undef .undef .undef .undef .undef) H (.normal) (polS.keys 72) (env72 (.sl db 0 n none n 1) (.int .i64 a) (.int .i64 m) (.int .i64 b) (.func 67 [] [cp]) .undef .undef .undef .undef .undef .undef .undef .undef (.int .i64 mid) (.int .i64 (IntKind.i64.wrap (mid + m))) .undef .undef .undef .undef .undef) H :=
  RunsTo.hint (N + 1) 60 [] fun kf hk => by
    obtain ⟨kf, rfl⟩ : ∃ n, kf = n + 1 := ⟨kf - 1, by omega⟩
    exact ⟨[], by kernel_rfl, Obls.nil⟩
theorem sy_q_0 (N : Nat) (db n : Nat) (a m b : Int) (cp : HV) (H : Heap) (mid : Int) (nn : Int)   : RunsTo Try.prog polS 72 (sub [1, 1, 1, 1, 0] B72) (env72 (.sl db 0 n none n 1) (.int .i64 a) (.int .i64 m) (.int .i64 b) (.func 67 [] [cp]) .undef .undef .undef .undef .undef .undef .undef .undef (.int .i64 mid) (.int .i64 nn) .undef .undef .undef .undef .undef) H (.normal) (polS.keys 72) (env72 (.sl db 0 n none n 1) (.int .i64 a) (.int .i64 m) (.int .i64 b) (.func 67 [] [cp]) .undef .undef .undef .undef .undef .undef .undef .undef (.int .i64 mid) (.int .i64 nn) (.int .i64 0) (.int .i64 0) .undef .undef .undef) H :=
  RunsTo.hint (N + 1) 60 [] fun kf hk => by
    obtain ⟨kf, rfl⟩ : ∃ n, kf = n + 1 := ⟨kf - 1, by omega⟩
    exact ⟨[], by kernel_rfl, Obls.nil⟩
theorem sy_r_0 (N : Nat) (db n : Nat) (a m b : Int) (cp : HV) (H : Heap) (mid : Int) (nn : Int)  (g0 : mid < m) : RunsTo Try.prog polS 72 (sub [1, 1, 1, 1, 1, 0] B72) (env72 (.sl db 0 n none n 1) (.int .i64 a) (.int .i64 m) (.int .i64 b) (.func 67 [] [cp]) .undef .undef .undef .undef .undef .undef .undef .undef (.int .i64 mid) (.int .i64 nn) (.int .i64 0) (.int .i64 0) .undef .undef .undef) H (.normal) (polS.keys 72) (env72 (.sl db 0 n none n 1) (.int .i64 a) (.int .i64 m) (.int .i64 b) (.func 67 [] [cp]) .undef .undef .undef .undef .undef .undef .undef .undef (.int .i64 mid) (.int .i64 nn) (.int .i64 (IntKind.i64.wrap (nn - b))) (.int .i64 mid) .undef .undef .undef) H :=
  RunsTo.hint (N + 1) 60 [⟨27, 2, .bool true, H⟩] fun kf hk => by
    obtain ⟨kf, rfl⟩ : ∃ n, kf = n + 1 := ⟨kf - 1, by omega⟩
    exact ⟨[some (HV.bool (decide (mid < m)), (H : Heap)) = some (.bool true, H)], by kernel_rfl, Obls.cons (hintB (decide_eq_true g0)) Obls.nil⟩
theorem sy_r_1 (N : Nat) (db n : Nat) (a m b : Int) (cp : HV) (H : Heap) (mid : Int) (nn : Int)  (g0 : ¬ (mid < m)) : RunsTo Try.prog polS 72 (sub [1, 1, 1, 1, 1, 0] B72) (env72 (.sl db 0 n none n 1) (.int .i64 a) (.int .i64 m) (.int .i64 b) (.func 67 [] [cp]) .undef .undef .undef .undef .undef .undef .undef .undef (.int .i64 mid) (.int .i64 nn) (.int .i64 0) (.int .i64 0) .undef .undef .undef) H (.normal) (polS.keys 72) (env72 (.sl db 0 n none n 1) (.int .i64 a) (.int .i64 m) (.int .i64 b) (.func 67 [] [cp]) .undef .undef .undef .undef .undef .undef .undef .undef (.int .i64 mid) (.int .i64 nn) (.int .i64 a) (.int .i64 m) .undef .undef .undef) H :=
  RunsTo.hint (N + 1) 60 [⟨27, 2, .bool false, H⟩] fun kf hk => by
    obtain ⟨kf, rfl⟩ : ∃ n, kf = n + 1 := ⟨kf - 1, by omega⟩
    exact ⟨[some (HV.bool (decide (mid < m)), (H : Heap)) = some (.bool false, H)], by kernel_rfl, Obls.cons (hintB (decide_eq_false g0)) Obls.nil⟩
theorem sy_s_0 (N : Nat) (db n : Nat) (a m b : Int) (cp : HV) (H : Heap) (mid : Int) (nn : Int) (s r : Int)   : RunsTo Try.prog polS 72 (sub [1, 1, 1, 1, 1, 1, 0] B72) (env72 (.sl db 0 n none n 1) (.int .i64 a) (.int .i64 m) (.int .i64 b) (.func 67 [] [cp]) .undef .undef .undef .undef .undef .undef .undef .undef (.int .i64 mid) (.int .i64 nn) (.int .i64 s) (.int .i64 r) .undef .undef .undef) H (.normal) (polS.keys 72) (env72 (.sl db 0 n none n 1) (.int .i64 a) (.int .i64 m) (.int .i64 b) (.func 67 [] [cp]) .undef .undef .undef .undef .undef .undef .undef .undef (.int .i64 mid) (.int .i64 nn) (.int .i64 s) (.int .i64 r) (.int .i64 (IntKind.i64.wrap (nn - 1))) .undef .undef) H :=
  RunsTo.hint (N + 1) 60 [] fun kf hk => by
    obtain ⟨kf, rfl⟩ : ∃ n, kf = n + 1 := ⟨kf - 1, by omega⟩
    exact ⟨[], by kernel_rfl, Obls.nil⟩
theorem sy_t_0 (N : Nat) (db n : Nat) (a m b : Int) (cp : HV) (H : Heap) (mid : Int) (nn : Int) (s r : Int) (p : Int) (h0 : Int) (x0 : Int) (x1 : Int) (c0 : Int) (H0 : Heap) (g0 : s < r) (g1 : binV Try.prog .shr 76 (.int .u64 (IntKind.u64.wrap (IntKind.i64.wrap (s + r)))) (.int .u64 1) = some (.int .u64 h0)) (g2 : idxV Try.prog 24 (.sl db 0 n none n 1) (.int .i64 (IntKind.i64.wrap (p - IntKind.i64.wrap h0))) = some (.ptr db ((IntKind.i64.wrap (p - IntKind.i64.wrap h0)).toNat) 0 n)) (g3 : loadV Try.prog H 3 (.ptr db ((IntKind.i64.wrap (p - IntKind.i64.wrap h0)).toNat) 0 n) = some (.int .i64 x0)) (g4 : idxV Try.prog 24 (.sl db 0 n none n 1) (.int .i64 (IntKind.i64.wrap h0)) = some (.ptr db ((IntKind.i64.wrap h0).toNat) 0 n)) (g5 : loadV Try.prog H 3 (.ptr db ((IntKind.i64.wrap h0).toNat) 0 n) = some (.int .i64 x1)) (g6 : ∀ kf, N ≤ kf → callN Try.prog polS (kf + 1) 67 [.int .i64 x0, .int .i64 x1, cp] H = some (.int .i64 c0, H0)) (g7 : c0 < 0) : RunsTo Try.prog polS 72 (sub [1, 1, 1, 1, 1, 1, 1, 0, 0, 0] B72) (env72 (.sl db 0 n none n 1) (.int .i64 a) (.int .i64 m) (.int .i64 b) (.func 67 [] [cp]) .undef .undef .undef .undef .undef .undef .undef .undef (.int .i64 mid) (.int .i64 nn) (.int .i64 s) (.int .i64 r) (.int .i64 p) .undef .undef) H (.normal) (polS.keys 72) (env72 (.sl db 0 n none n 1) (.int .i64 a) (.int .i64 m) (.int .i64 b) (.func 67 [] [cp]) .undef .undef .undef .undef .undef .undef .undef .undef (.int .i64 mid) (.int .i64 nn) (.int .i64 s) (.int .i64 (IntKind.i64.wrap h0)) (.int .i64 p) (.int .i64 (IntKind.i64.wrap h0)) .undef) H0 :=
  RunsTo.hint (N + 1) 60 [⟨33, 2, .bool true, H⟩, ⟨34, 4, .int .u64 h0, H⟩, ⟨35, 5, .ptr db ((IntKind.i64.wrap (p - IntKind.i64.wrap h0)).toNat) 0 n, H⟩, ⟨35, 6, .int .i64 x0, H⟩, ⟨35, 9, .ptr db ((IntKind.i64.wrap h0).toNat) 0 n, H⟩, ⟨35, 10, .int .i64 x1, H⟩, ⟨35, 11, .int .i64 c0, H0⟩, ⟨35, 12, .bool true, H0⟩] fun kf hk => by
    obtain ⟨kf, rfl⟩ : ∃ n, kf = n + 1 := ⟨kf - 1, by omega⟩
    exact ⟨[some (HV.bool (decide (s < r)), (H : Heap)) = some (.bool true, H), (binV Try.prog .shr 76 (.int .u64 (IntKind.u64.wrap (IntKind.i64.wrap (s + r)))) (.int .u64 1)).map (fun v => (v, (H : Heap))) = some (.int .u64 h0, H), (idxV Try.prog 24 (.sl db 0 n none n 1) (.int .i64 (IntKind.i64.wrap (p - IntKind.i64.wrap h0)))).map (fun v => (v, (H : Heap))) = some (.ptr db ((IntKind.i64.wrap (p - IntKind.i64.wrap h0)).toNat) 0 n, H), (loadV Try.prog H 3 (.ptr db ((IntKind.i64.wrap (p - IntKind.i64.wrap h0)).toNat) 0 n)).map (fun v => (v, (H : Heap))) = some (.int .i64 x0, H), (idxV Try.prog 24 (.sl db 0 n none n 1) (.int .i64 (IntKind.i64.wrap h0))).map (fun v => (v, (H : Heap))) = some (.ptr db ((IntKind.i64.wrap h0).toNat) 0 n, H), (loadV Try.prog H 3 (.ptr db ((IntKind.i64.wrap h0).toNat) 0 n)).map (fun v => (v, (H : Heap))) = some (.int .i64 x1, H), callN Try.prog polS (kf + 1) 67 [.int .i64 x0, .int .i64 x1, cp] H = some (.int .i64 c0, H0), some (HV.bool (decide (c0 < 0)), (H0 : Heap)) = some (.bool true, H0)], by kernel_rfl, Obls.cons (hintB (decide_eq_true g0)) (Obls.cons (hintOp g1) (Obls.cons (hintOp g2) (Obls.cons (hintOp g3) (Obls.cons (hintOp g4) (Obls.cons (hintOp g5) (Obls.cons (g6 kf (by omega)) (Obls.cons (hintB (decide_eq_true g7)) Obls.nil)))))))⟩
theorem sy_t_1 (N : Nat) (db n : Nat) (a m b : Int) (cp : HV) (H : Heap) (mid : Int) (nn : Int) (s r : Int) (p : Int) (h0 : Int) (x0 : Int) (x1 : Int) (c0 : Int) (H0 : Heap) (g0 : s < r) (g1 : binV Try.prog .shr 76 (.int .u64 (IntKind.u64.wrap (IntKind.i64.wrap (s + r)))) (.int .u64 1) = some (.int .u64 h0)) (g2 : idxV Try.prog 24 (.sl db 0 n none n 1) (.int .i64 (IntKind.i64.wrap (p - IntKind.i64.wrap h0))) = some (.ptr db ((IntKind.i64.wrap (p - IntKind.i64.wrap h0)).toNat) 0 n)) (g3 : loadV Try.prog H 3 (.ptr db ((IntKind.i64.wrap (p - IntKind.i64.wrap h0)).toNat) 0 n) = some (.int .i64 x0)) (g4 : idxV Try.prog 24 (.sl db 0 n none n 1) (.int .i64 (IntKind.i64.wrap h0)) = some (.ptr db ((IntKind.i64.wrap h0).toNat) 0 n)) (g5 : loadV Try.prog H 3 (.ptr db ((IntKind.i64.wrap h0).toNat) 0 n) = some (.int .i64 x1)) (g6 : ∀ kf, N ≤ kf → callN Try.prog polS (kf + 1) 67 [.int .i64 x0, .int .i64 x1, cp] H = some (.int .i64 c0, H0)) (g7 : ¬ (c0 < 0)) : RunsTo Try.prog polS 72 (sub [1, 1, 1, 1, 1, 1, 1, 0, 0, 0] B72) (env72 (.sl db 0 n none n 1) (.int .i64 a) (.int .i64 m) (.int .i64 b) (.func 67 [] [cp]) .undef .undef .undef .undef .undef .undef .undef .undef (.int .i64 mid) (.int .i64 nn) (.int .i64 s) (.int .i64 r) (.int .i64 p) .undef .undef) H (.normal) (polS.keys 72) (env72 (.sl db 0 n none n 1) (.int .i64 a) (.int .i64 m) (.int .i64 b) (.func 67 [] [cp]) .undef .undef .undef .undef .undef .undef .undef .undef (.int .i64 mid) (.int .i64 nn) (.int .i64 (IntKind.i64.wrap (IntKind.i64.wrap h0 + 1))) (.int .i64 r) (.int .i64 p) (.int .i64 (IntKind.i64.wrap h0)) .undef) H0 :=
  RunsTo.hint (N + 1) 60 [⟨33, 2, .bool true, H⟩, ⟨34, 4, .int .u64 h0, H⟩, ⟨35, 5, .ptr db ((IntKind.i64.wrap (p - IntKind.i64.wrap h0)).toNat) 0 n, H⟩, ⟨35, 6, .int .i64 x0, H⟩, ⟨35, 9, .ptr db ((IntKind.i64.wrap h0).toNat) 0 n, H⟩, ⟨35, 10, .int .i64 x1, H⟩, ⟨35, 11, .int .i64 c0, H0⟩, ⟨35, 12, .bool false, H0⟩] fun kf hk => by
    obtain ⟨kf, rfl⟩ : ∃ n, kf = n + 1 := ⟨kf - 1, by omega⟩
    exact ⟨[some (HV.bool (decide (s < r)), (H : Heap)) = some (.bool true, H), (binV Try.prog .shr 76 (.int .u64 (IntKind.u64.wrap (IntKind.i64.wrap (s + r)))) (.int .u64 1)).map (fun v => (v, (H : Heap))) = some (.int .u64 h0, H), (idxV Try.prog 24 (.sl db 0 n none n 1) (.int .i64 (IntKind.i64.wrap (p - IntKind.i64.wrap h0)))).map (fun v => (v, (H : Heap))) = some (.ptr db ((IntKind.i64.wrap (p - IntKind.i64.wrap h0)).toNat) 0 n, H), (loadV Try.prog H 3 (.ptr db ((IntKind.i64.wrap (p - IntKind.i64.wrap h0)).toNat) 0 n)).map (fun v => (v, (H : Heap))) = some (.int .i64 x0, H), (idxV Try.prog 24 (.sl db 0 n none n 1) (.int .i64 (IntKind.i64.wrap h0))).map (fun v => (v, (H : Heap))) = some (.ptr db ((IntKind.i64.wrap h0).toNat) 0 n, H), (loadV Try.prog H 3 (.ptr db ((IntKind.i64.wrap h0).toNat) 0 n)).map (fun v => (v, (H : Heap))) = some (.int .i64 x1, H), callN Try.prog polS (kf + 1) 67 [.int .i64 x0, .int .i64 x1, cp] H = some (.int .i64 c0, H0), some (HV.bool (decide (c0 < 0)), (H0 : Heap)) = some (.bool false, H0)], by kernel_rfl, Obls.cons (hintB (decide_eq_true g0)) (Obls.cons (hintOp g1) (Obls.cons (hintOp g2) (Obls.cons (hintOp g3) (Obls.cons (hintOp g4) (Obls.cons (hintOp g5) (Obls.cons (g6 kf (by omega)) (Obls.cons (hintB (decide_eq_false g7)) Obls.nil)))))))⟩
theorem sy_t_2 (N : Nat) (db n : Nat) (a m b : Int) (cp : HV) (H : Heap) (mid : Int) (nn : Int) (s r : Int) (p : Int)  (g0 : ¬ (s < r)) : RunsTo Try.prog polS 72 (sub [1, 1, 1, 1, 1, 1, 1, 0, 0, 0] B72) (env72 (.sl db 0 n none n 1) (.int .i64 a) (.int .i64 m) (.int .i64 b) (.func 67 [] [cp]) .undef .undef .undef .undef .undef .undef .undef .undef (.int .i64 mid) (.int .i64 nn) (.int .i64 s) (.int .i64 r) (.int .i64 p) .undef .undef) H (.exit 8) (polS.keys 72) (env72 (.sl db 0 n none n 1) (.int .i64 a) (.int .i64 m) (.int .i64 b) (.func 67 [] [cp]) .undef .undef .undef .undef .undef .undef .undef .undef (.int .i64 mid) (.int .i64 nn) (.int .i64 s) (.int .i64 r) (.int .i64 p) .undef .undef) H :=
  RunsTo.hint (N + 1) 60 [⟨33, 2, .bool false, H⟩] fun kf hk => by
    obtain ⟨kf, rfl⟩ : ∃ n, kf = n + 1 := ⟨kf - 1, by omega⟩
    exact ⟨[some (HV.bool (decide (s < r)), (H : Heap)) = some (.bool false, H)], by kernel_rfl, Obls.cons (hintB (decide_eq_false g0)) Obls.nil⟩
theorem sy_u_0 (N : Nat) (db n : Nat) (a m b : Int) (cp : HV) (H : Heap) (mid : Int) (nn : Int) (s r : Int) (p : Int) (v23 : HV)   : RunsTo Try.prog polS 72 (sub [1, 1, 1, 1, 1, 1, 1, 1, 0] B72) (env72 (.sl db 0 n none n 1) (.int .i64 a) (.int .i64 m) (.int .i64 b) (.func 67 [] [cp]) .undef .undef .undef .undef .undef .undef .undef .undef (.int .i64 mid) (.int .i64 nn) (.int .i64 s) (.int .i64 r) (.int .i64 p) v23 .undef) H (.normal) (polS.keys 72) (env72 (.sl db 0 n none n 1) (.int .i64 a) (.int .i64 m) (.int .i64 b) (.func 67 [] [cp]) .undef .undef .undef .undef .undef .undef .undef .undef (.int .i64 mid) (.int .i64 nn) (.int .i64 s) (.int .i64 r) (.int .i64 p) v23 (.int .i64 (IntKind.i64.wrap (nn - s)))) H :=
  RunsTo.hint (N + 1) 60 [] fun kf hk => by
    obtain ⟨kf, rfl⟩ : ∃ n, kf = n + 1 := ⟨kf - 1, by omega⟩
    exact ⟨[], by kernel_rfl, Obls.nil⟩
theorem sy_v_0 (N : Nat) (db n : Nat) (a m b : Int) (cp : HV) (H : Heap) (mid : Int) (nn : Int) (s r : Int) (p : Int) (v23 : HV) (e : Int) (H0 : Heap) (g0 : s < m) (g1 : m < e) (g2 : ∀ kf, N ≤ kf → callN Try.prog polS (kf + 1) 73 [.sl db 0 n none n 1, .int .i64 s, .int .i64 m, .int .i64 e, .func 67 [] [cp]] H = some (.tuple [], H0)) : RunsTo Try.prog polS 72 (sub [1, 1, 1, 1, 1, 1, 1, 1, 1, 0] B72) (env72 (.sl db 0 n none n 1) (.int .i64 a) (.int .i64 m) (.int .i64 b) (.func 67 [] [cp]) .undef .undef .undef .undef .undef .undef .undef .undef (.int .i64 mid) (.int .i64 nn) (.int .i64 s) (.int .i64 r) (.int .i64 p) v23 (.int .i64 e)) H (.normal) (polS.keys 72) (env72 (.sl db 0 n none n 1) (.int .i64 a) (.int .i64 m) (.int .i64 b) (.func 67 [] [cp]) .undef .undef .undef .undef .undef .undef .undef .undef (.int .i64 mid) (.int .i64 nn) (.int .i64 s) (.int .i64 r) (.int .i64 p) v23 (.int .i64 e)) H0 :=
  RunsTo.hint (N + 1) 60 [⟨39, 2, .bool true, H⟩, ⟨39, 6, .bool true, H⟩, ⟨40, 5, .tuple [], H0⟩] fun kf hk => by
    obtain ⟨kf, rfl⟩ : ∃ n, kf = n + 1 := ⟨kf - 1, by omega⟩
    exact ⟨[some (HV.bool (decide (s < m)), (H : Heap)) = some (.bool true, H), some (HV.bool (decide (m < e)), (H : Heap)) = some (.bool true, H), callN Try.prog polS (kf + 1) 73 [.sl db 0 n none n 1, .int .i64 s, .int .i64 m, .int .i64 e, .func 67 [] [cp]] H = some (.tuple [], H0)], by kernel_rfl, Obls.cons (hintB (decide_eq_true g0)) (Obls.cons (hintB (decide_eq_true g1)) (Obls.cons (g2 kf (by omega)) Obls.nil))⟩
theorem sy_v_1 (N : Nat) (db n : Nat) (a m b : Int) (cp : HV) (H : Heap) (mid : Int) (nn : Int) (s r : Int) (p : Int) (v23 : HV) (e : Int)  (g0 : s < m) (g1 : ¬ (m < e)) : RunsTo Try.prog polS 72 (sub [1, 1, 1, 1, 1, 1, 1, 1, 1, 0] B72) (env72 (.sl db 0 n none n 1) (.int .i64 a) (.int .i64 m) (.int .i64 b) (.func 67 [] [cp]) .undef .undef .undef .undef .undef .undef .undef .undef (.int .i64 mid) (.int .i64 nn) (.int .i64 s) (.int .i64 r) (.int .i64 p) v23 (.int .i64 e)) H (.normal) (polS.keys 72) (env72 (.sl db 0 n none n 1) (.int .i64 a) (.int .i64 m) (.int .i64 b) (.func 67 [] [cp]) .undef .undef .undef .undef .undef .undef .undef .undef (.int .i64 mid) (.int .i64 nn) (.int .i64 s) (.int .i64 r) (.int .i64 p) v23 (.int .i64 e)) H :=
  RunsTo.hint (N + 1) 60 [⟨39, 2, .bool true, H⟩, ⟨39, 6, .bool false, H⟩] fun kf hk => by
    obtain ⟨kf, rfl⟩ : ∃ n, kf = n + 1 := ⟨kf - 1, by omega⟩
    exact ⟨[some (HV.bool (decide (s < m)), (H : Heap)) = some (.bool true, H), some (HV.bool (decide (m < e)), (H : Heap)) = some (.bool false, H)], by kernel_rfl, Obls.cons (hintB (decide_eq_true g0)) (Obls.cons (hintB (decide_eq_false g1)) Obls.nil)⟩
theorem sy_v_2 (N : Nat) (db n : Nat) (a m b : Int) (cp : HV) (H : Heap) (mid : Int) (nn : Int) (s r : Int) (p : Int) (v23 : HV) (e : Int)  (g0 : ¬ (s < m)) : RunsTo Try.prog polS 72 (sub [1, 1, 1, 1, 1, 1, 1, 1, 1, 0] B72) (env72 (.sl db 0 n none n 1) (.int .i64 a) (.int .i64 m) (.int .i64 b) (.func 67 [] [cp]) .undef .undef .undef .undef .undef .undef .undef .undef (.int .i64 mid) (.int .i64 nn) (.int .i64 s) (.int .i64 r) (.int .i64 p) v23 (.int .i64 e)) H (.normal) (polS.keys 72) (env72 (.sl db 0 n none n 1) (.int .i64 a) (.int .i64 m) (.int .i64 b) (.func 67 [] [cp]) .undef .undef .undef .undef .undef .undef .undef .undef (.int .i64 mid) (.int .i64 nn) (.int .i64 s) (.int .i64 r) (.int .i64 p) v23 (.int .i64 e)) H :=
  RunsTo.hint (N + 1) 60 [⟨39, 2, .bool false, H⟩] fun kf hk => by
    obtain ⟨kf, rfl⟩ : ∃ n, kf = n + 1 := ⟨kf - 1, by omega⟩
    exact ⟨[some (HV.bool (decide (s < m)), (H : Heap)) = some (.bool false, H)], by kernel_rfl, Obls.cons (hintB (decide_eq_false g0)) Obls.nil⟩
theorem sy_w_0 (N : Nat) (db n : Nat) (a m b : Int) (cp : HV) (H : Heap) (mid : Int) (nn : Int) (s r : Int) (p : Int) (v23 : HV) (e : Int) (H0 : Heap) (g0 : a < s) (g1 : s < mid) (g2 : ∀ kf, N ≤ kf → callN Try.prog polS (kf + 1) 72 [.sl db 0 n none n 1, .int .i64 a, .int .i64 s, .int .i64 mid, .func 67 [] [cp]] H = some (.tuple [], H0)) : RunsTo Try.prog polS 72 (sub [1, 1, 1, 1, 1, 1, 1, 1, 1, 1, 0] B72) (env72 (.sl db 0 n none n 1) (.int .i64 a) (.int .i64 m) (.int .i64 b) (.func 67 [] [cp]) .undef .undef .undef .undef .undef .undef .undef .undef (.int .i64 mid) (.int .i64 nn) (.int .i64 s) (.int .i64 r) (.int .i64 p) v23 (.int .i64 e)) H (.normal) (polS.keys 72) (env72 (.sl db 0 n none n 1) (.int .i64 a) (.int .i64 m) (.int .i64 b) (.func 67 [] [cp]) .undef .undef .undef .undef .undef .undef .undef .undef (.int .i64 mid) (.int .i64 nn) (.int .i64 s) (.int .i64 r) (.int .i64 p) v23 (.int .i64 e)) H0 :=
  RunsTo.hint (N + 1) 60 [⟨41, 2, .bool true, H⟩, ⟨41, 6, .bool true, H⟩, ⟨42, 5, .tuple [], H0⟩] fun kf hk => by
    obtain ⟨kf, rfl⟩ : ∃ n, kf = n + 1 := ⟨kf - 1, by omega⟩
    exact ⟨[some (HV.bool (decide (a < s)), (H : Heap)) = some (.bool true, H), some (HV.bool (decide (s < mid)), (H : Heap)) = some (.bool true, H), callN Try.prog polS (kf + 1) 72 [.sl db 0 n none n 1, .int .i64 a, .int .i64 s, .int .i64 mid, .func 67 [] [cp]] H = some (.tuple [], H0)], by kernel_rfl, Obls.cons (hintB (decide_eq_true g0)) (Obls.cons (hintB (decide_eq_true g1)) (Obls.cons (g2 kf (by omega)) Obls.nil))⟩
theorem sy_w_1 (N : Nat) (db n : Nat) (a m b : Int) (cp : HV) (H : Heap) (mid : Int) (nn : Int) (s r : Int) (p : Int) (v23 : HV) (e : Int)  (g0 : a < s) (g1 : ¬ (s < mid)) : RunsTo Try.prog polS 72 (sub [1, 1, 1, 1, 1, 1, 1, 1, 1, 1, 0] B72) (env72 (.sl db 0 n none n 1) (.int .i64 a) (.int .i64 m) (.int .i64 b) (.func 67 [] [cp]) .undef .undef .undef .undef .undef .undef .undef .undef (.int .i64 mid) (.int .i64 nn) (.int .i64 s) (.int .i64 r) (.int .i64 p) v23 (.int .i64 e)) H (.normal) (polS.keys 72) (env72 (.sl db 0 n none n 1) (.int .i64 a) (.int .i64 m) (.int .i64 b) (.func 67 [] [cp]) .undef .undef .undef .undef .undef .undef .undef .undef (.int .i64 mid) (.int .i64 nn) (.int .i64 s) (.int .i64 r) (.int .i64 p) v23 (.int .i64 e)) H :=
  RunsTo.hint (N + 1) 60 [⟨41, 2, .bool true, H⟩, ⟨41, 6, .bool false, H⟩] fun kf hk => by
    obtain ⟨kf, rfl⟩ : ∃ n, kf = n + 1 := ⟨kf - 1, by omega⟩
    exact ⟨[some (HV.bool (decide (a < s)), (H : Heap)) = some (.bool true, H), some (HV.bool (decide (s < mid)), (H : Heap)) = some (.bool false, H)], by kernel_rfl, Obls.cons (hintB (decide_eq_true g0)) (Obls.cons (hintB (decide_eq_false g1)) Obls.nil)⟩
theorem sy_w_2 (N : Nat) (db n : Nat) (a m b : Int) (cp : HV) (H : Heap) (mid : Int) (nn : Int) (s r : Int) (p : Int) (v23 : HV) (e : Int)  (g0 : ¬ (a < s)) : RunsTo Try.prog polS 72 (sub [1, 1, 1, 1, 1, 1, 1, 1, 1, 1, 0] B72) (env72 (.sl db 0 n none n 1) (.int .i64 a) (.int .i64 m) (.int .i64 b) (.func 67 [] [cp]) .undef .undef .undef .undef .undef .undef .undef .undef (.int .i64 mid) (.int .i64 nn) (.int .i64 s) (.int .i64 r) (.int .i64 p) v23 (.int .i64 e)) H (.normal) (polS.keys 72) (env72 (.sl db 0 n none n 1) (.int .i64 a) (.int .i64 m) (.int .i64 b) (.func 67 [] [cp]) .undef .undef .undef .undef .undef .undef .undef .undef (.int .i64 mid) (.int .i64 nn) (.int .i64 s) (.int .i64 r) (.int .i64 p) v23 (.int .i64 e)) H :=
  RunsTo.hint (N + 1) 60 [⟨41, 2, .bool false, H⟩] fun kf hk => by
    obtain ⟨kf, rfl⟩ : ∃ n, kf = n + 1 := ⟨kf - 1, by omega⟩
    exact ⟨[some (HV.bool (decide (a < s)), (H : Heap)) = some (.bool false, H)], by kernel_rfl, Obls.cons (hintB (decide_eq_false g0)) Obls.nil⟩
theorem sy_x_0 (N : Nat) (db n : Nat) (a m b : Int) (cp : HV) (H : Heap) (mid : Int) (nn : Int) (s r : Int) (p : Int) (v23 : HV) (e : Int) (H0 : Heap) (g0 : mid < e) (g1 : e < b) (g2 : ∀ kf, N ≤ kf → callN Try.prog polS (kf + 1) 72 [.sl db 0 n none n 1, .int .i64 mid, .int .i64 e, .int .i64 b, .func 67 [] [cp]] H = some (.tuple [], H0)) : RunsTo Try.prog polS 72 (sub [1, 1, 1, 1, 1, 1, 1, 1, 1, 1, 1] B72) (env72 (.sl db 0 n none n 1) (.int .i64 a) (.int .i64 m) (.int .i64 b) (.func 67 [] [cp]) .undef .undef .undef .undef .undef .undef .undef .undef (.int .i64 mid) (.int .i64 nn) (.int .i64 s) (.int .i64 r) (.int .i64 p) v23 (.int .i64 e)) H (.normal) (polS.keys 72) (env72 (.sl db 0 n none n 1) (.int .i64 a) (.int .i64 m) (.int .i64 b) (.func 67 [] [cp]) .undef .undef .undef .undef .undef .undef .undef .undef (.int .i64 mid) (.int .i64 nn) (.int .i64 s) (.int .i64 r) (.int .i64 p) v23 (.int .i64 e)) H0 :=
  RunsTo.hint (N + 1) 60 [⟨43, 2, .bool true, H⟩, ⟨43, 6, .bool true, H⟩, ⟨44, 5, .tuple [], H0⟩] fun kf hk => by
    obtain ⟨kf, rfl⟩ : ∃ n, kf = n + 1 := ⟨kf - 1, by omega⟩
    exact ⟨[some (HV.bool (decide (mid < e)), (H : Heap)) = some (.bool true, H), some (HV.bool (decide (e < b)), (H : Heap)) = some (.bool true, H), callN Try.prog polS (kf + 1) 72 [.sl db 0 n none n 1, .int .i64 mid, .int .i64 e, .int .i64 b, .func 67 [] [cp]] H = some (.tuple [], H0)], by kernel_rfl, Obls.cons (hintB (decide_eq_true g0)) (Obls.cons (hintB (decide_eq_true g1)) (Obls.cons (g2 kf (by omega)) Obls.nil))⟩
theorem sy_x_1 (N : Nat) (db n : Nat) (a m b : Int) (cp : HV) (H : Heap) (mid : Int) (nn : Int) (s r : Int) (p : Int) (v23 : HV) (e : Int)  (g0 : mid < e) (g1 : ¬ (e < b)) : RunsTo Try.prog polS 72 (sub [1, 1, 1, 1, 1, 1, 1, 1, 1, 1, 1] B72) (env72 (.sl db 0 n none n 1) (.int .i64 a) (.int .i64 m) (.int .i64 b) (.func 67 [] [cp]) .undef .undef .undef .undef .undef .undef .undef .undef (.int .i64 mid) (.int .i64 nn) (.int .i64 s) (.int .i64 r) (.int .i64 p) v23 (.int .i64 e)) H (.normal) (polS.keys 72) (env72 (.sl db 0 n none n 1) (.int .i64 a) (.int .i64 m) (.int .i64 b) (.func 67 [] [cp]) .undef .undef .undef .undef .undef .undef .undef .undef (.int .i64 mid) (.int .i64 nn) (.int .i64 s) (.int .i64 r) (.int .i64 p) v23 (.int .i64 e)) H :=
  RunsTo.hint (N + 1) 60 [⟨43, 2, .bool true, H⟩, ⟨43, 6, .bool false, H⟩] fun kf hk => by
    obtain ⟨kf, rfl⟩ : ∃ n, kf = n + 1 := ⟨kf - 1, by omega⟩
    exact ⟨[some (HV.bool (decide (mid < e)), (H : Heap)) = some (.bool true, H), some (HV.bool (decide (e < b)), (H : Heap)) = some (.bool false, H)], by kernel_rfl, Obls.cons (hintB (decide_eq_true g0)) (Obls.cons (hintB (decide_eq_false g1)) Obls.nil)⟩
theorem sy_x_2 (N : Nat) (db n : Nat) (a m b : Int) (cp : HV) (H : Heap) (mid : Int) (nn : Int) (s r : Int) (p : Int) (v23 : HV) (e : Int)  (g0 : ¬ (mid < e)) : RunsTo Try.prog polS 72 (sub [1, 1, 1, 1, 1, 1, 1, 1, 1, 1, 1] B72) (env72 (.sl db 0 n none n 1) (.int .i64 a) (.int .i64 m) (.int .i64 b) (.func 67 [] [cp]) .undef .undef .undef .undef .undef .undef .undef .undef (.int .i64 mid) (.int .i64 nn) (.int .i64 s) (.int .i64 r) (.int .i64 p) v23 (.int .i64 e)) H (.normal) (polS.keys 72) (env72 (.sl db 0 n none n 1) (.int .i64 a) (.int .i64 m) (.int .i64 b) (.func 67 [] [cp]) .undef .undef .undef .undef .undef .undef .undef .undef (.int .i64 mid) (.int .i64 nn) (.int .i64 s) (.int .i64 r) (.int .i64 p) v23 (.int .i64 e)) H :=
  RunsTo.hint (N + 1) 60 [⟨43, 2, .bool false, H⟩] fun kf hk => by
    obtain ⟨kf, rfl⟩ : ∃ n, kf = n + 1 := ⟨kf - 1, by omega⟩
    exact ⟨[some (HV.bool (decide (mid < e)), (H : Heap)) = some (.bool false, H)], by kernel_rfl, Obls.cons (hintB (decide_eq_false g0)) Obls.nil⟩
end Go.Proofs.Ytmhfkhlamnapdaa
end
section
open Go Go.HL
namespace Go.Proofs.Ytmhfkhlamnapdaa
set_option maxRecDepth 100000
noncomputable def B74 : Code := Try.f74.body.getD .skip
abbrev env74 (v0 v1 v2 v3 v10 : HV) : Env := [(0, v0), (1, v1), (2, v2), (3, v3), (10, v10)]
theorem sw_a_0 (N : Nat) (db n : Nat) (a b m : Int) (cp : HV) (H : Heap)   : RunsTo Try.prog polS 74 (sub [0] B74) [(0, .sl db 0 n none n 1), (1, .int .i64 a), (2, .int .i64 b), (3, .int .i64 m), (4, .func 67 [] [cp])] H (.normal) (polS.keys 74) (env74 (.sl db 0 n none n 1) (.int .i64 a) (.int .i64 b) (.int .i64 m) (.int .i64 0)) H :=
  RunsTo.hint (N + 1) 60 [] fun kf hk => by
    obtain ⟨kf, rfl⟩ : ∃ n, kf = n + 1 := ⟨kf - 1, by omega⟩
    exact ⟨[], by kernel_rfl, Obls.nil⟩
theorem sw_l_0 (N : Nat) (db n : Nat) (a b m : Int) (H : Heap) (i : Int) (x0 : Int) (x1 : Int) (H0 : Heap) (H1 : Heap) (g0 : i < m) (g1 : idxV Try.prog 24 (.sl db 0 n none n 1) (.int .i64 (IntKind.i64.wrap (b + i))) = some (.ptr db ((IntKind.i64.wrap (b + i)).toNat) 0 n)) (g2 : loadV Try.prog H 3 (.ptr db ((IntKind.i64.wrap (b + i)).toNat) 0 n) = some (.int .i64 x0)) (g3 : idxV Try.prog 24 (.sl db 0 n none n 1) (.int .i64 (IntKind.i64.wrap (a + i))) = some (.ptr db ((IntKind.i64.wrap (a + i)).toNat) 0 n)) (g4 : loadV Try.prog H 3 (.ptr db ((IntKind.i64.wrap (a + i)).toNat) 0 n) = some (.int .i64 x1)) (g5 : idxV Try.prog 24 (.sl db 0 n none n 1) (.int .i64 (IntKind.i64.wrap (a + i))) = some (.ptr db ((IntKind.i64.wrap (a + i)).toNat) 0 n)) (g6 : storeV Try.prog H 3 (.ptr db ((IntKind.i64.wrap (a + i)).toNat) 0 n) (.int .i64 x0) = some H0) (g7 : idxV Try.prog 24 (.sl db 0 n none n 1) (.int .i64 (IntKind.i64.wrap (b + i))) = some (.ptr db ((IntKind.i64.wrap (b + i)).toNat) 0 n)) (g8 : storeV Try.prog H0 3 (.ptr db ((IntKind.i64.wrap (b + i)).toNat) 0 n) (.int .i64 x1) = some H1) : RunsTo Try.prog polS 74 (sub [1, 0, 0] B74) (env74 (.sl db 0 n none n 1) (.int .i64 a) (.int .i64 b) (.int .i64 m) (.int .i64 i)) H (.normal) (polS.keys 74) (env74 (.sl db 0 n none n 1) (.int .i64 a) (.int .i64 b) (.int .i64 m) (.int .i64 (IntKind.i64.wrap (i + 1)))) H1 :=
  RunsTo.hint (N + 1) 60 [⟨1, 2, .bool true, H⟩, ⟨3, 12, .ptr db ((IntKind.i64.wrap (b + i)).toNat) 0 n, H⟩, ⟨3, 13, .int .i64 x0, H⟩, ⟨3, 18, .ptr db ((IntKind.i64.wrap (a + i)).toNat) 0 n, H⟩, ⟨3, 19, .int .i64 x1, H⟩, ⟨3, 20, .ptr db ((IntKind.i64.wrap (a + i)).toNat) 0 n, H⟩, ⟨3, 21, .tuple [], H0⟩, ⟨3, 22, .ptr db ((IntKind.i64.wrap (b + i)).toNat) 0 n, H0⟩, ⟨3, 23, .tuple [], H1⟩] fun kf hk => by
    obtain ⟨kf, rfl⟩ : ∃ n, kf = n + 1 := ⟨kf - 1, by omega⟩
    exact ⟨[some (HV.bool (decide (i < m)), (H : Heap)) = some (.bool true, H), (idxV Try.prog 24 (.sl db 0 n none n 1) (.int .i64 (IntKind.i64.wrap (b + i)))).map (fun v => (v, (H : Heap))) = some (.ptr db ((IntKind.i64.wrap (b + i)).toNat) 0 n, H), (loadV Try.prog H 3 (.ptr db ((IntKind.i64.wrap (b + i)).toNat) 0 n)).map (fun v => (v, (H : Heap))) = some (.int .i64 x0, H), (idxV Try.prog 24 (.sl db 0 n none n 1) (.int .i64 (IntKind.i64.wrap (a + i)))).map (fun v => (v, (H : Heap))) = some (.ptr db ((IntKind.i64.wrap (a + i)).toNat) 0 n, H), (loadV Try.prog H 3 (.ptr db ((IntKind.i64.wrap (a + i)).toNat) 0 n)).map (fun v => (v, (H : Heap))) = some (.int .i64 x1, H), (idxV Try.prog 24 (.sl db 0 n none n 1) (.int .i64 (IntKind.i64.wrap (a + i)))).map (fun v => (v, (H : Heap))) = some (.ptr db ((IntKind.i64.wrap (a + i)).toNat) 0 n, H), (storeV Try.prog H 3 (.ptr db ((IntKind.i64.wrap (a + i)).toNat) 0 n) (.int .i64 x0)).map (fun H => (HV.tuple [], H)) = some (.tuple [], H0), (idxV Try.prog 24 (.sl db 0 n none n 1) (.int .i64 (IntKind.i64.wrap (b + i)))).map (fun v => (v, (H0 : Heap))) = some (.ptr db ((IntKind.i64.wrap (b + i)).toNat) 0 n, H0), (storeV Try.prog H0 3 (.ptr db ((IntKind.i64.wrap (b + i)).toNat) 0 n) (.int .i64 x1)).map (fun H => (HV.tuple [], H)) = some (.tuple [], H1)], by kernel_rfl, Obls.cons (hintB (decide_eq_true g0)) (Obls.cons (hintOp g1) (Obls.cons (hintOp g2) (Obls.cons (hintOp g3) (Obls.cons (hintOp g4) (Obls.cons (hintOp g5) (Obls.cons (hintSt g6) (Obls.cons (hintOp g7) (Obls.cons (hintSt g8) Obls.nil))))))))⟩
theorem sw_l_1 (N : Nat) (db n : Nat) (a b m : Int) (H : Heap) (i : Int)  (g0 : ¬ (i < m)) : RunsTo Try.prog polS 74 (sub [1, 0, 0] B74) (env74 (.sl db 0 n none n 1) (.int .i64 a) (.int .i64 b) (.int .i64 m) (.int .i64 i)) H (.exit 0) (polS.keys 74) (env74 (.sl db 0 n none n 1) (.int .i64 a) (.int .i64 b) (.int .i64 m) (.int .i64 i)) H :=
  RunsTo.hint (N + 1) 60 [⟨1, 2, .bool false, H⟩] fun kf hk => by
    obtain ⟨kf, rfl⟩ : ∃ n, kf = n + 1 := ⟨kf - 1, by omega⟩
    exact ⟨[some (HV.bool (decide (i < m)), (H : Heap)) = some (.bool false, H)], by kernel_rfl, Obls.cons (hintB (decide_eq_false g0)) Obls.nil⟩
end Go.Proofs.Ytmhfkhlamnapdaa
end
section
open Go Go.HL
namespace Go.Proofs.Ytmhfkhlamnapdaa
set_option maxRecDepth 100000
noncomputable def B73 : Code := Try.f73.body.getD .skip
abbrev env73 (v0 v1 v2 v3 v4 v10 v11 : HV) : Env := [(0, v0), (1, v1), (2, v2), (3, v3), (4, v4), (10, v10), (11, v11)]
theorem ro_a_0 (N : Nat) (db n : Nat) (a m b : Int) (cp : HV) (H : Heap)   : RunsTo Try.prog polS 73 (sub [0] B73) [(0, .sl db 0 n none n 1), (1, .int .i64 a), (2, .int .i64 m), (3, .int .i64 b), (4, .func 67 [] [cp])] H (.normal) (polS.keys 73) (env73 (.sl db 0 n none n 1) (.int .i64 a) (.int .i64 m) (.int .i64 b) (.func 67 [] [cp]) (.int .i64 (IntKind.i64.wrap (m - a))) .undef) H :=
  RunsTo.hint (N + 1) 60 [] fun kf hk => by
    obtain ⟨kf, rfl⟩ : ∃ n, kf = n + 1 := ⟨kf - 1, by omega⟩
    exact ⟨[], by kernel_rfl, Obls.nil⟩
theorem ro_b_0 (N : Nat) (db n : Nat) (a m b : Int) (cp : HV) (H : Heap) (i : Int)   : RunsTo Try.prog polS 73 (sub [1, 0] B73) (env73 (.sl db 0 n none n 1) (.int .i64 a) (.int .i64 m) (.int .i64 b) (.func 67 [] [cp]) (.int .i64 i) .undef) H (.normal) (polS.keys 73) (env73 (.sl db 0 n none n 1) (.int .i64 a) (.int .i64 m) (.int .i64 b) (.func 67 [] [cp]) (.int .i64 i) (.int .i64 (IntKind.i64.wrap (b - m)))) H :=
  RunsTo.hint (N + 1) 60 [] fun kf hk => by
    obtain ⟨kf, rfl⟩ : ∃ n, kf = n + 1 := ⟨kf - 1, by omega⟩
    exact ⟨[], by kernel_rfl, Obls.nil⟩
theorem ro_l_0 (N : Nat) (db n : Nat) (a m b : Int) (cp : HV) (H : Heap) (i j : Int)  (g0 : i = j) : RunsTo Try.prog polS 73 (sub [1, 1, 0, 0, 0] B73) (env73 (.sl db 0 n none n 1) (.int .i64 a) (.int .i64 m) (.int .i64 b) (.func 67 [] [cp]) (.int .i64 i) (.int .i64 j)) H (.exit 0) (polS.keys 73) (env73 (.sl db 0 n none n 1) (.int .i64 a) (.int .i64 m) (.int .i64 b) (.func 67 [] [cp]) (.int .i64 i) (.int .i64 j)) H :=
  RunsTo.hint (N + 1) 60 [⟨2, 2, .bool false, H⟩] fun kf hk => by
    obtain ⟨kf, rfl⟩ : ∃ n, kf = n + 1 := ⟨kf - 1, by omega⟩
    exact ⟨[some (HV.bool (!decide (i = j)), (H : Heap)) = some (.bool false, H)], by kernel_rfl, Obls.cons (hintB (congrArg not (decide_eq_true g0))) Obls.nil⟩
theorem ro_l_1 (N : Nat) (db n : Nat) (a m b : Int) (cp : HV) (H : Heap) (i j : Int) (H0 : Heap) (g0 : ¬ (i = j)) (g1 : j < i) (g2 : ∀ kf, N ≤ kf → callN Try.prog polS (kf + 1) 74 [.sl db 0 n none n 1, .int .i64 (IntKind.i64.wrap (m - i)), .int .i64 m, .int .i64 j, .func 67 [] [cp]] H = some (.tuple [], H0)) : RunsTo Try.prog polS 73 (sub [1, 1, 0, 0, 0] B73) (env73 (.sl db 0 n none n 1) (.int .i64 a) (.int .i64 m) (.int .i64 b) (.func 67 [] [cp]) (.int .i64 i) (.int .i64 j)) H (.normal) (polS.keys 73) (env73 (.sl db 0 n none n 1) (.int .i64 a) (.int .i64 m) (.int .i64 b) (.func 67 [] [cp]) (.int .i64 (IntKind.i64.wrap (i - j))) (.int .i64 j)) H0 :=
  RunsTo.hint (N + 1) 60 [⟨2, 2, .bool true, H⟩, ⟨3, 2, .bool true, H⟩, ⟨4, 7, .tuple [], H0⟩] fun kf hk => by
    obtain ⟨kf, rfl⟩ : ∃ n, kf = n + 1 := ⟨kf - 1, by omega⟩
    exact ⟨[some (HV.bool (!decide (i = j)), (H : Heap)) = some (.bool true, H), some (HV.bool (decide (j < i)), (H : Heap)) = some (.bool true, H), callN Try.prog polS (kf + 1) 74 [.sl db 0 n none n 1, .int .i64 (IntKind.i64.wrap (m - i)), .int .i64 m, .int .i64 j, .func 67 [] [cp]] H = some (.tuple [], H0)], by kernel_rfl, Obls.cons (hintB (congrArg not (decide_eq_false g0))) (Obls.cons (hintB (decide_eq_true g1)) (Obls.cons (g2 kf (by omega)) Obls.nil))⟩
theorem ro_l_2 (N : Nat) (db n : Nat) (a m b : Int) (cp : HV) (H : Heap) (i j : Int) (H0 : Heap) (g0 : ¬ (i = j)) (g1 : ¬ (j < i)) (g2 : ∀ kf, N ≤ kf → callN Try.prog polS (kf + 1) 74 [.sl db 0 n none n 1, .int .i64 (IntKind.i64.wrap (m - i)), .int .i64 (IntKind.i64.wrap (IntKind.i64.wrap (m + j) - i)), .int .i64 i, .func 67 [] [cp]] H = some (.tuple [], H0)) : RunsTo Try.prog polS 73 (sub [1, 1, 0, 0, 0] B73) (env73 (.sl db 0 n none n 1) (.int .i64 a) (.int .i64 m) (.int .i64 b) (.func 67 [] [cp]) (.int .i64 i) (.int .i64 j)) H (.normal) (polS.keys 73) (env73 (.sl db 0 n none n 1) (.int .i64 a) (.int .i64 m) (.int .i64 b) (.func 67 [] [cp]) (.int .i64 i) (.int .i64 (IntKind.i64.wrap (j - i)))) H0 :=
  RunsTo.hint (N + 1) 60 [⟨2, 2, .bool true, H⟩, ⟨3, 2, .bool false, H⟩, ⟨6, 11, .tuple [], H0⟩] fun kf hk => by
    obtain ⟨kf, rfl⟩ : ∃ n, kf = n + 1 := ⟨kf - 1, by omega⟩
    exact ⟨[some (HV.bool (!decide (i = j)), (H : Heap)) = some (.bool true, H), some (HV.bool (decide (j < i)), (H : Heap)) = some (.bool false, H), callN Try.prog polS (kf + 1) 74 [.sl db 0 n none n 1, .int .i64 (IntKind.i64.wrap (m - i)), .int .i64 (IntKind.i64.wrap (IntKind.i64.wrap (m + j) - i)), .int .i64 i, .func 67 [] [cp]] H = some (.tuple [], H0)], by kernel_rfl, Obls.cons (hintB (congrArg not (decide_eq_false g0))) (Obls.cons (hintB (decide_eq_false g1)) (Obls.cons (g2 kf (by omega)) Obls.nil))⟩
theorem ro_z_0 (N : Nat) (db n : Nat) (a m b : Int) (cp : HV) (H : Heap) (i j : Int) (H0 : Heap) (g0 : ∀ kf, N ≤ kf → callN Try.prog polS (kf + 1) 74 [.sl db 0 n none n 1, .int .i64 (IntKind.i64.wrap (m - i)), .int .i64 m, .int .i64 i, .func 67 [] [cp]] H = some (.tuple [], H0)) : RunsTo Try.prog polS 73 (sub [1, 1, 1] B73) (env73 (.sl db 0 n none n 1) (.int .i64 a) (.int .i64 m) (.int .i64 b) (.func 67 [] [cp]) (.int .i64 i) (.int .i64 j)) H (.normal) (polS.keys 73) (env73 (.sl db 0 n none n 1) (.int .i64 a) (.int .i64 m) (.int .i64 b) (.func 67 [] [cp]) (.int .i64 i) (.int .i64 j)) H0 :=
  RunsTo.hint (N + 1) 60 [⟨8, 7, .tuple [], H0⟩] fun kf hk => by
    obtain ⟨kf, rfl⟩ : ∃ n, kf = n + 1 := ⟨kf - 1, by omega⟩
    exact ⟨[callN Try.prog polS (kf + 1) 74 [.sl db 0 n none n 1, .int .i64 (IntKind.i64.wrap (m - i)), .int .i64 m, .int .i64 i, .func 67 [] [cp]] H = some (.tuple [], H0)], by kernel_rfl, Obls.cons (g0 kf (by omega)) Obls.nil⟩
end Go.Proofs.Ytmhfkhlamnapdaa
end
section
open Go Go.HL
namespace Go.Proofs.Ytmhfkhlamnapdaa
set_option maxRecDepth 100000
noncomputable def B71 : Code := Try.f71.body.getD .skip
abbrev env71 (v0 v1 v2 v3 v8 v9 : HV) : Env := [(0, v0), (1, v1), (2, v2), (3, v3), (8, v8), (9, v9)]
theorem is_a_0 (N : Nat) (db n : Nat) (a b : Int) (cp : HV) (H : Heap)   : RunsTo Try.prog polS 71 (sub [0] B71) [(0, .sl db 0 n none n 1), (1, .int .i64 a), (2, .int .i64 b), (3, .func 67 [] [cp])] H (.normal) (polS.keys 71) (env71 (.sl db 0 n none n 1) (.int .i64 a) (.int .i64 b) (.func 67 [] [cp]) (.int .i64 (IntKind.i64.wrap (a + 1))) .undef) H :=
  RunsTo.hint (N + 1) 60 [] fun kf hk => by
    obtain ⟨kf, rfl⟩ : ∃ n, kf = n + 1 := ⟨kf - 1, by omega⟩
    exact ⟨[], by kernel_rfl, Obls.nil⟩
theorem is_h_0 (N : Nat) (db n : Nat) (a b : Int) (cp : HV) (H : Heap) (i : Int)  (g0 : i < b) : RunsTo Try.prog polS 71 (sub [1, 0, 0, 0] B71) (env71 (.sl db 0 n none n 1) (.int .i64 a) (.int .i64 b) (.func 67 [] [cp]) (.int .i64 i) .undef) H (.normal) (polS.keys 71) (env71 (.sl db 0 n none n 1) (.int .i64 a) (.int .i64 b) (.func 67 [] [cp]) (.int .i64 i) .undef) H :=
  RunsTo.hint (N + 1) 60 [⟨1, 2, .bool true, H⟩] fun kf hk => by
    obtain ⟨kf, rfl⟩ : ∃ n, kf = n + 1 := ⟨kf - 1, by omega⟩
    exact ⟨[some (HV.bool (decide (i < b)), (H : Heap)) = some (.bool true, H)], by kernel_rfl, Obls.cons (hintB (decide_eq_true g0)) Obls.nil⟩
theorem is_h_1 (N : Nat) (db n : Nat) (a b : Int) (cp : HV) (H : Heap) (i : Int)  (g0 : ¬ (i < b)) : RunsTo Try.prog polS 71 (sub [1, 0, 0, 0] B71) (env71 (.sl db 0 n none n 1) (.int .i64 a) (.int .i64 b) (.func 67 [] [cp]) (.int .i64 i) .undef) H (.exit 0) (polS.keys 71) (env71 (.sl db 0 n none n 1) (.int .i64 a) (.int .i64 b) (.func 67 [] [cp]) (.int .i64 i) .undef) H :=
  RunsTo.hint (N + 1) 60 [⟨1, 2, .bool false, H⟩] fun kf hk => by
    obtain ⟨kf, rfl⟩ : ∃ n, kf = n + 1 := ⟨kf - 1, by omega⟩
    exact ⟨[some (HV.bool (decide (i < b)), (H : Heap)) = some (.bool false, H)], by kernel_rfl, Obls.cons (hintB (decide_eq_false g0)) Obls.nil⟩
theorem is_b_0 (N : Nat) (db n : Nat) (a b : Int) (cp : HV) (H : Heap) (i : Int)   : RunsTo Try.prog polS 71 (sub [1, 0, 0, 1, 0, 0, 0] B71) (env71 (.sl db 0 n none n 1) (.int .i64 a) (.int .i64 b) (.func 67 [] [cp]) (.int .i64 i) .undef) H (.normal) (polS.keys 71) (env71 (.sl db 0 n none n 1) (.int .i64 a) (.int .i64 b) (.func 67 [] [cp]) (.int .i64 i) (.int .i64 i)) H :=
  RunsTo.hint (N + 1) 60 [] fun kf hk => by
    obtain ⟨kf, rfl⟩ : ∃ n, kf = n + 1 := ⟨kf - 1, by omega⟩
    exact ⟨[], by kernel_rfl, Obls.nil⟩
theorem is_l_0 (N : Nat) (db n : Nat) (a b : Int) (cp : HV) (H : Heap) (i j : Int) (x0 : Int) (x1 : Int) (c0 : Int) (H0 : Heap) (x2 : Int) (x3 : Int) (H1 : Heap) (H2 : Heap) (g0 : a < j) (g1 : idxV Try.prog 24 (.sl db 0 n none n 1) (.int .i64 j) = some (.ptr db ((j).toNat) 0 n)) (g2 : loadV Try.prog H 3 (.ptr db ((j).toNat) 0 n) = some (.int .i64 x0)) (g3 : idxV Try.prog 24 (.sl db 0 n none n 1) (.int .i64 (IntKind.i64.wrap (j - 1))) = some (.ptr db ((IntKind.i64.wrap (j - 1)).toNat) 0 n)) (g4 : loadV Try.prog H 3 (.ptr db ((IntKind.i64.wrap (j - 1)).toNat) 0 n) = some (.int .i64 x1)) (g5 : ∀ kf, N ≤ kf → callN Try.prog polS (kf + 1) 67 [.int .i64 x0, .int .i64 x1, cp] H = some (.int .i64 c0, H0)) (g6 : c0 < 0) (g7 : idxV Try.prog 24 (.sl db 0 n none n 1) (.int .i64 (IntKind.i64.wrap (j - 1))) = some (.ptr db ((IntKind.i64.wrap (j - 1)).toNat) 0 n)) (g8 : loadV Try.prog H0 3 (.ptr db ((IntKind.i64.wrap (j - 1)).toNat) 0 n) = some (.int .i64 x2)) (g9 : idxV Try.prog 24 (.sl db 0 n none n 1) (.int .i64 j) = some (.ptr db ((j).toNat) 0 n)) (g10 : loadV Try.prog H0 3 (.ptr db ((j).toNat) 0 n) = some (.int .i64 x3)) (g11 : idxV Try.prog 24 (.sl db 0 n none n 1) (.int .i64 j) = some (.ptr db ((j).toNat) 0 n)) (g12 : storeV Try.prog H0 3 (.ptr db ((j).toNat) 0 n) (.int .i64 x2) = some H1) (g13 : idxV Try.prog 24 (.sl db 0 n none n 1) (.int .i64 (IntKind.i64.wrap (j - 1))) = some (.ptr db ((IntKind.i64.wrap (j - 1)).toNat) 0 n)) (g14 : storeV Try.prog H1 3 (.ptr db ((IntKind.i64.wrap (j - 1)).toNat) 0 n) (.int .i64 x3) = some H2) : RunsTo Try.prog polS 71 (sub [1, 0, 0, 1, 0, 0, 1, 0, 0] B71) (env71 (.sl db 0 n none n 1) (.int .i64 a) (.int .i64 b) (.func 67 [] [cp]) (.int .i64 i) (.int .i64 j)) H (.normal) (polS.keys 71) (env71 (.sl db 0 n none n 1) (.int .i64 a) (.int .i64 b) (.func 67 [] [cp]) (.int .i64 i) (.int .i64 (IntKind.i64.wrap (j - 1)))) H2 :=
  RunsTo.hint (N + 1) 60 [⟨4, 2, .bool true, H⟩, ⟨4, 7, .ptr db ((j).toNat) 0 n, H⟩, ⟨4, 8, .int .i64 x0, H⟩, ⟨4, 12, .ptr db ((IntKind.i64.wrap (j - 1)).toNat) 0 n, H⟩, ⟨4, 13, .int .i64 x1, H⟩, ⟨4, 14, .int .i64 c0, H0⟩, ⟨4, 15, .bool true, H0⟩, ⟨6, 8, .ptr db ((IntKind.i64.wrap (j - 1)).toNat) 0 n, H0⟩, ⟨6, 9, .int .i64 x2, H0⟩, ⟨6, 12, .ptr db ((j).toNat) 0 n, H0⟩, ⟨6, 13, .int .i64 x3, H0⟩, ⟨6, 14, .ptr db ((j).toNat) 0 n, H0⟩, ⟨6, 15, .tuple [], H1⟩, ⟨6, 16, .ptr db ((IntKind.i64.wrap (j - 1)).toNat) 0 n, H1⟩, ⟨6, 17, .tuple [], H2⟩] fun kf hk => by
    obtain ⟨kf, rfl⟩ : ∃ n, kf = n + 1 := ⟨kf - 1, by omega⟩
    exact ⟨[some (HV.bool (decide (a < j)), (H : Heap)) = some (.bool true, H), (idxV Try.prog 24 (.sl db 0 n none n 1) (.int .i64 j)).map (fun v => (v, (H : Heap))) = some (.ptr db ((j).toNat) 0 n, H), (loadV Try.prog H 3 (.ptr db ((j).toNat) 0 n)).map (fun v => (v, (H : Heap))) = some (.int .i64 x0, H), (idxV Try.prog 24 (.sl db 0 n none n 1) (.int .i64 (IntKind.i64.wrap (j - 1)))).map (fun v => (v, (H : Heap))) = some (.ptr db ((IntKind.i64.wrap (j - 1)).toNat) 0 n, H), (loadV Try.prog H 3 (.ptr db ((IntKind.i64.wrap (j - 1)).toNat) 0 n)).map (fun v => (v, (H : Heap))) = some (.int .i64 x1, H), callN Try.prog polS (kf + 1) 67 [.int .i64 x0, .int .i64 x1, cp] H = some (.int .i64 c0, H0), some (HV.bool (decide (c0 < 0)), (H0 : Heap)) = some (.bool true, H0), (idxV Try.prog 24 (.sl db 0 n none n 1) (.int .i64 (IntKind.i64.wrap (j - 1)))).map (fun v => (v, (H0 : Heap))) = some (.ptr db ((IntKind.i64.wrap (j - 1)).toNat) 0 n, H0), (loadV Try.prog H0 3 (.ptr db ((IntKind.i64.wrap (j - 1)).toNat) 0 n)).map (fun v => (v, (H0 : Heap))) = some (.int .i64 x2, H0), (idxV Try.prog 24 (.sl db 0 n none n 1) (.int .i64 j)).map (fun v => (v, (H0 : Heap))) = some (.ptr db ((j).toNat) 0 n, H0), (loadV Try.prog H0 3 (.ptr db ((j).toNat) 0 n)).map (fun v => (v, (H0 : Heap))) = some (.int .i64 x3, H0), (idxV Try.prog 24 (.sl db 0 n none n 1) (.int .i64 j)).map (fun v => (v, (H0 : Heap))) = some (.ptr db ((j).toNat) 0 n, H0), (storeV Try.prog H0 3 (.ptr db ((j).toNat) 0 n) (.int .i64 x2)).map (fun H => (HV.tuple [], H)) = some (.tuple [], H1), (idxV Try.prog 24 (.sl db 0 n none n 1) (.int .i64 (IntKind.i64.wrap (j - 1)))).map (fun v => (v, (H1 : Heap))) = some (.ptr db ((IntKind.i64.wrap (j - 1)).toNat) 0 n, H1), (storeV Try.prog H1 3 (.ptr db ((IntKind.i64.wrap (j - 1)).toNat) 0 n) (.int .i64 x3)).map (fun H => (HV.tuple [], H)) = some (.tuple [], H2)], by kernel_rfl, Obls.cons (hintB (decide_eq_true g0)) (Obls.cons (hintOp g1) (Obls.cons (hintOp g2) (Obls.cons (hintOp g3) (Obls.cons (hintOp g4) (Obls.cons (g5 kf (by omega)) (Obls.cons (hintB (decide_eq_true g6)) (Obls.cons (hintOp g7) (Obls.cons (hintOp g8) (Obls.cons (hintOp g9) (Obls.cons (hintOp g10) (Obls.cons (hintOp g11) (Obls.cons (hintSt g12) (Obls.cons (hintOp g13) (Obls.cons (hintSt g14) Obls.nil))))))))))))))⟩
theorem is_l_1 (N : Nat) (db n : Nat) (a b : Int) (cp : HV) (H : Heap) (i j : Int) (x0 : Int) (x1 : Int) (c0 : Int) (H0 : Heap) (g0 : a < j) (g1 : idxV Try.prog 24 (.sl db 0 n none n 1) (.int .i64 j) = some (.ptr db ((j).toNat) 0 n)) (g2 : loadV Try.prog H 3 (.ptr db ((j).toNat) 0 n) = some (.int .i64 x0)) (g3 : idxV Try.prog 24 (.sl db 0 n none n 1) (.int .i64 (IntKind.i64.wrap (j - 1))) = some (.ptr db ((IntKind.i64.wrap (j - 1)).toNat) 0 n)) (g4 : loadV Try.prog H 3 (.ptr db ((IntKind.i64.wrap (j - 1)).toNat) 0 n) = some (.int .i64 x1)) (g5 : ∀ kf, N ≤ kf → callN Try.prog polS (kf + 1) 67 [.int .i64 x0, .int .i64 x1, cp] H = some (.int .i64 c0, H0)) (g6 : ¬ (c0 < 0)) : RunsTo Try.prog polS 71 (sub [1, 0, 0, 1, 0, 0, 1, 0, 0] B71) (env71 (.sl db 0 n none n 1) (.int .i64 a) (.int .i64 b) (.func 67 [] [cp]) (.int .i64 i) (.int .i64 j)) H (.exit 2) (polS.keys 71) (env71 (.sl db 0 n none n 1) (.int .i64 a) (.int .i64 b) (.func 67 [] [cp]) (.int .i64 i) (.int .i64 j)) H0 :=
  RunsTo.hint (N + 1) 60 [⟨4, 2, .bool true, H⟩, ⟨4, 7, .ptr db ((j).toNat) 0 n, H⟩, ⟨4, 8, .int .i64 x0, H⟩, ⟨4, 12, .ptr db ((IntKind.i64.wrap (j - 1)).toNat) 0 n, H⟩, ⟨4, 13, .int .i64 x1, H⟩, ⟨4, 14, .int .i64 c0, H0⟩, ⟨4, 15, .bool false, H0⟩] fun kf hk => by
    obtain ⟨kf, rfl⟩ : ∃ n, kf = n + 1 := ⟨kf - 1, by omega⟩
    exact ⟨[some (HV.bool (decide (a < j)), (H : Heap)) = some (.bool true, H), (idxV Try.prog 24 (.sl db 0 n none n 1) (.int .i64 j)).map (fun v => (v, (H : Heap))) = some (.ptr db ((j).toNat) 0 n, H), (loadV Try.prog H 3 (.ptr db ((j).toNat) 0 n)).map (fun v => (v, (H : Heap))) = some (.int .i64 x0, H), (idxV Try.prog 24 (.sl db 0 n none n 1) (.int .i64 (IntKind.i64.wrap (j - 1)))).map (fun v => (v, (H : Heap))) = some (.ptr db ((IntKind.i64.wrap (j - 1)).toNat) 0 n, H), (loadV Try.prog H 3 (.ptr db ((IntKind.i64.wrap (j - 1)).toNat) 0 n)).map (fun v => (v, (H : Heap))) = some (.int .i64 x1, H), callN Try.prog polS (kf + 1) 67 [.int .i64 x0, .int .i64 x1, cp] H = some (.int .i64 c0, H0), some (HV.bool (decide (c0 < 0)), (H0 : Heap)) = some (.bool false, H0)], by kernel_rfl, Obls.cons (hintB (decide_eq_true g0)) (Obls.cons (hintOp g1) (Obls.cons (hintOp g2) (Obls.cons (hintOp g3) (Obls.cons (hintOp g4) (Obls.cons (g5 kf (by omega)) (Obls.cons (hintB (decide_eq_false g6)) Obls.nil))))))⟩
theorem is_l_2 (N : Nat) (db n : Nat) (a b : Int) (cp : HV) (H : Heap) (i j : Int)  (g0 : ¬ (a < j)) : RunsTo Try.prog polS 71 (sub [1, 0, 0, 1, 0, 0, 1, 0, 0] B71) (env71 (.sl db 0 n none n 1) (.int .i64 a) (.int .i64 b) (.func 67 [] [cp]) (.int .i64 i) (.int .i64 j)) H (.exit 2) (polS.keys 71) (env71 (.sl db 0 n none n 1) (.int .i64 a) (.int .i64 b) (.func 67 [] [cp]) (.int .i64 i) (.int .i64 j)) H :=
  RunsTo.hint (N + 1) 60 [⟨4, 2, .bool false, H⟩] fun kf hk => by
    obtain ⟨kf, rfl⟩ : ∃ n, kf = n + 1 := ⟨kf - 1, by omega⟩
    exact ⟨[some (HV.bool (decide (a < j)), (H : Heap)) = some (.bool false, H)], by kernel_rfl, Obls.cons (hintB (decide_eq_false g0)) Obls.nil⟩
theorem is_c_0 (N : Nat) (db n : Nat) (a b : Int) (cp : HV) (H : Heap) (i j : Int)   : RunsTo Try.prog polS 71 (sub [1, 0, 0, 1, 1] B71) (env71 (.sl db 0 n none n 1) (.int .i64 a) (.int .i64 b) (.func 67 [] [cp]) (.int .i64 i) (.int .i64 j)) H (.normal) (polS.keys 71) (env71 (.sl db 0 n none n 1) (.int .i64 a) (.int .i64 b) (.func 67 [] [cp]) (.int .i64 (IntKind.i64.wrap (i + 1))) (.int .i64 j)) H :=
  RunsTo.hint (N + 1) 60 [] fun kf hk => by
    obtain ⟨kf, rfl⟩ : ∃ n, kf = n + 1 := ⟨kf - 1, by omega⟩
    exact ⟨[], by kernel_rfl, Obls.nil⟩
end Go.Proofs.Ytmhfkhlamnapdaa
end
section
open Go Go.HL
namespace Go.Proofs.Ytmhfkhlamnapdaa
def sink (f : Int → Int) (a : Nat) : Nat → List Int → List Int
  | 0, l => l
  | j + 1, l => if a < j + 1 ∧ f (l.getD j 0) < f (l.getD (j + 1) 0) then sink f a j (swp l (j + 1) j) else l
def insGo (f : Int → Int) (a : Nat) : Nat → Nat → List Int → List Int
  | 0, _, l => l
  | d + 1, i, l => insGo f a d (i + 1) (sink f a i l)
def insertion (f : Int → Int) (a b : Nat) (l : List Int) : List Int := insGo f a (b - (a + 1)) (a + 1) l
theorem sink_len (f : Int → Int) (a : Nat) : ∀ (j : Nat) (l : List Int), (sink f a j l).length = l.length
  | 0, _ => rfl
  | j + 1, l => by
    rw [sink]
    split
    · rw [sink_len f a j, swp_len]
    · rfl
theorem insGo_len (f : Int → Int) (a : Nat) : ∀ (d i : Nat) (l : List Int), (insGo f a d i l).length = l.length
  | 0, _, _ => rfl
  | d + 1, i, l => by rw [insGo, insGo_len f a d, sink_len]
theorem is_sink {db : Nat} {cp : HV} {f : Int → Int} {dom : Int → Prop} {K : Heap → Prop} (hc : Cmp db cp f dom K) (n : Nat) (hn : n ≤ 1000) (a : Nat) (b : Int) (i : Int) : ∀ (j : Nat) (l : List Int) (H : Heap), l.length = n → j < n → Ls db K dom l H →
    ∃ j' H', RunsTo Try.prog polS 71 (sub [1, 0, 0, 1, 0, 0, 1, 0] B71) (env71 (.sl db 0 n none n 1) (.int .i64 (a : Int)) (.int .i64 b) (.func 67 [] [cp]) (.int .i64 i) (.int .i64 (j : Int))) H
      (.exit 2) (polS.keys 71) (env71 (.sl db 0 n none n 1) (.int .i64 (a : Int)) (.int .i64 b) (.func 67 [] [cp]) (.int .i64 i) (.int .i64 j')) H' ∧ Ls db K dom (sink f a j l) H' ∧ Fd db H H' := by
  intro j
  induction j with
  | zero =>
    intro l H hl hj hL
    exact ⟨_, H, RunsTo.loop_out (is_l_2 0 db n (a : Int) b cp H i ((0 : Nat) : Int) (by omega)) (by simp) (by kernel_rfl) (by kernel_rfl), hL, Fd.refl _ _⟩
  | succ j ih =>
    intro l H hl hj hL
    rw [sink]
    by_cases c1 : a < j + 1
    · have hw : IntKind.i64.wrap (((j + 1 : Nat) : Int) - 1) = (j : Int) := by rw [wrapI64]; omega
      have gi : ∀ y, y < n → idxV Try.prog 24 (.sl db 0 n none n 1) (.int .i64 ((y : Nat) : Int)) = some (.ptr db (((y : Nat) : Int).toNat) 0 n) := fun y hy => idx_sl u24b z3b (by omega) (by omega)
      have gl : ∀ {H : Heap}, Ls db K dom l H → ∀ y, y < n → loadV Try.prog H 3 (.ptr db (((y : Nat) : Int).toNat) 0 n) = some (.int .i64 (l.getD y 0)) := fun hL y hy => by
        rw [Int.toNat_natCast, ← hl]; exact hL.load (by omega)
      obtain ⟨c, H1, hcl, hlt, hK, hF⟩ := hc.call H (l.getD (j + 1) 0) (l.getD j 0) hL.ok (hL.dom_ (by omega)) (hL.dom_ (by omega))
      obtain ⟨N, hN⟩ := hcl.from
      have hL1 := hL.fr hc.one hK hF
      by_cases c2 : f (l.getD j 0) < f (l.getD (j + 1) 0)
      · rw [if_pos ⟨c1, c2⟩]
        obtain ⟨s1, s2, s3, s4⟩ := hL1.swp_ hc (i := j + 1) (j := j) (by omega) (by omega)
        rw [hl] at s1 s2
        have st := is_l_0 N db n (a : Int) b cp H i ((j + 1 : Nat) : Int) (l.getD (j + 1) 0) (l.getD j 0) c H1 (l.getD j 0) (l.getD (j + 1) 0) _ _ (by omega) (gi _ hj) (gl hL _ hj) (by rw [hw]; exact gi j (by omega)) (by rw [hw]; exact gl hL j (by omega)) hN (hlt.2 c2)
          (by rw [hw]; exact gi j (by omega)) (by rw [hw]; exact gl hL1 j (by omega)) (gi _ hj) (gl hL1 _ hj) (gi _ hj) (by rw [Int.toNat_natCast]; exact s1) (by rw [hw]; exact gi j (by omega)) (by rw [hw, Int.toNat_natCast]; exact s2)
        rw [hw] at st
        obtain ⟨j', H2, r2, h2, h3⟩ := ih (swp l (j + 1) j) _ (by rw [swp_len]; exact hl) (by omega) s3
        exact ⟨j', H2, RunsTo.loop st (by kernel_rfl) (gc_eq _ (by rw [s4.len, hF.len])) r2 rfl (by kernel_rfl) (by kernel_rfl), h2, (hF.fd.trans s4).trans h3⟩
      · rw [if_neg (fun h => c2 h.2)]
        have st := is_l_1 N db n (a : Int) b cp H i ((j + 1 : Nat) : Int) (l.getD (j + 1) 0) (l.getD j 0) c H1 (by omega) (gi _ hj) (gl hL _ hj) (by rw [hw]; exact gi j (by omega)) (by rw [hw]; exact gl hL j (by omega)) hN (fun h => c2 (hlt.1 h))
        exact ⟨_, H1, RunsTo.loop_out st (by simp) (by kernel_rfl) (by kernel_rfl), hL1, hF.fd⟩
    · rw [if_neg (fun h => c1 h.1)]
      exact ⟨_, H, RunsTo.loop_out (is_l_2 0 db n (a : Int) b cp H i ((j + 1 : Nat) : Int) (by omega)) (by simp) (by kernel_rfl) (by kernel_rfl), hL, Fd.refl _ _⟩
theorem is_outer {db : Nat} {cp : HV} {f : Int → Int} {dom : Int → Prop} {K : Heap → Prop} (hc : Cmp db cp f dom K) (n : Nat) (hn : n ≤ 1000) (a b : Nat) (hb : b ≤ n) : ∀ (d i : Nat) (l : List Int) (H : Heap), i + d = b → l.length = n → Ls db K dom l H →
    ∃ H', RunsTo Try.prog polS 71 (sub [1, 0] B71) (env71 (.sl db 0 n none n 1) (.int .i64 (a : Int)) (.int .i64 (b : Int)) (.func 67 [] [cp]) (.int .i64 (i : Int)) .undef) H
      (.exit 0) (polS.keys 71) (env71 (.sl db 0 n none n 1) (.int .i64 (a : Int)) (.int .i64 (b : Int)) (.func 67 [] [cp]) (.int .i64 (b : Int)) .undef) H' ∧ Ls db K dom (insGo f a d i l) H' ∧ Fd db H H' := by
  intro d
  induction d with
  | zero =>
    intro i l H hi hl hL
    have hi : i = b := by omega
    subst hi
    have s1 := is_h_1 0 db n (a : Int) (i : Int) cp H (i : Int) (by omega)
    exact ⟨H, RunsTo.loop_out (RunsTo.seq_out s1 (by simp) (c := sub [1, 0, 0] B71) (b := sub [1, 0, 0, 1] B71) (by kernel_rfl)) (by simp) (by kernel_rfl) (by kernel_rfl), hL, Fd.refl _ _⟩
  | succ d ih =>
    intro i l H hi hl hL
    have h1 := is_h_0 0 db n (a : Int) (b : Int) cp H (i : Int) (by omega)
    have b1 := is_b_0 0 db n (a : Int) (b : Int) cp H (i : Int)
    obtain ⟨j', H1, r1, hL1, hF1⟩ := is_sink hc n hn a (b : Int) (i : Int) i l H hl (by omega) hL
    have c1 := is_c_0 0 db n (a : Int) (b : Int) cp H1 (i : Int) j'
    rw [wrap_succ (by omega)] at c1
    obtain ⟨H2, r2, hL2, hF2⟩ := ih (i + 1) (sink f a i l) H1 (by omega) (by rw [sink_len]; exact hl) hL1
    refine ⟨H2, ?_, by rw [insGo]; exact hL2, hF1.trans hF2⟩
    have t1 := RunsTo.seq b1 (RunsTo.block_exit (c := sub [1, 0, 0, 1, 0, 0, 1] B71) r1 (by kernel_rfl)) (c := sub [1, 0, 0, 1, 0, 0] B71) (by kernel_rfl) (by kernel_rfl)
    have t2 := RunsTo.block_normal (i := 1) (c := sub [1, 0, 0, 1, 0] B71) t1 (by kernel_rfl)
    have t3 := RunsTo.seq t2 c1 (c := sub [1, 0, 0, 1] B71) (by kernel_rfl) (by kernel_rfl)
    have t4 := RunsTo.seq h1 t3 (c := sub [1, 0, 0] B71) (by kernel_rfl) (by kernel_rfl)
    exact RunsTo.loop t4 (by kernel_rfl) (gc_eq _ hF1.len) r2 rfl (by kernel_rfl) (by kernel_rfl)
theorem res71 : Try.f71.results.toList = [] := by kernel_rfl
/-- The sort by insertion. -/
theorem insertion_call {db : Nat} {cp : HV} {f : Int → Int} {dom : Int → Prop} {K : Heap → Prop} (hc : Cmp db cp f dom K) {n a b : Nat} (hn : n ≤ 1000) (hab : a < b) (hb : b ≤ n) {l : List Int} {H : Heap} (hl : l.length = n) (hL : Ls db K dom l H) :
    ∃ H', Cl 71 [.sl db 0 n none n 1, .int .i64 (a : Int), .int .i64 (b : Int), .func 67 [] [cp]] H (.tuple []) H' ∧ Ls db K dom (insertion f a b l) H' ∧ Fd db H H' := by
  have a1 := is_a_0 0 db n (a : Int) (b : Int) cp H
  rw [wrap_succ (by omega)] at a1
  obtain ⟨H', r, hL', hF⟩ := is_outer hc n hn a b hb (b - (a + 1)) (a + 1) l H (by omega) hl hL
  have t1 := RunsTo.seq a1 (RunsTo.block_exit (c := sub [1] B71) r (by kernel_rfl)) (c := B71) (by kernel_rfl) (by kernel_rfl)
  have hcl := CallsTo.shared (P := Try.prog) (pol := polS) (g := 71) (fn := Try.f71) (cd := B71) (args := [.sl db 0 n none n 1, .int .i64 (a : Int), .int .i64 (b : Int), .func 67 [] [cp]]) (v := .tuple []) (by kernel_rfl) (by kernel_rfl) (by kernel_rfl) (by kernel_rfl) t1 (by kernel_rfl) (by simp) (by simp only [resultsV, res71, mapO])
  rw [gc_eq _ hF.len] at hcl
  exact ⟨H', hcl, hL', hF⟩
end Go.Proofs.Ytmhfkhlamnapdaa
end
