/- A part of the proof. -/
import Derived.Test.YtmhfkhlamnapdaaP12C
set_option linter.unusedVariables false
set_option linter.unusedSimpArgs false
section
open Go Go.HL
namespace Go.Proofs.Ytmhfkhlamnapdaa
theorem rd_fresh (nr : Int → Int → Bool) (kn : List Int) : ∀ (l : List (Int × Int)) (bz : List Int), rdGo nr kn l bz = true → (l.map (·.2)).Nodup ∧ ∀ p ∈ l, p.2 ∉ kn ∧ p.2 ∉ bz ∧ nr p.1 p.2 = true
  | [], _, _ => by simp
  | p :: l, bz, h => by
    rw [rdGo, Bool.and_eq_true] at h
    obtain ⟨h1, h2⟩ := h
    obtain ⟨h3, h4⟩ := rd_fresh nr kn l _ h2
    simp only [okC, Bool.and_eq_true, decide_eq_true_eq] at h1
    refine ⟨?_, fun q hq => ?_⟩
    · rw [List.map_cons, List.nodup_cons]
      refine ⟨fun hm => ?_, h3⟩
      obtain ⟨q, hq, e⟩ := List.mem_map.1 hm
      have := (h4 q hq).2.1
      apply this
      rw [ins_mem]
      exact .inl e
    · rcases List.mem_cons.1 hq with rfl | hq
      · exact ⟨h1.2.2.1, h1.2.2.2.2, h1.1⟩
      · have := h4 q hq
        refine ⟨this.1, fun hm => this.2.1 ?_, this.2.2⟩
        rw [ins_mem, ins_mem]
        exact .inr (.inr hm)
theorem learn_len : ∀ (l : List (Int × Int)) (kn : List Int), (l.map (·.2)).Nodup → (∀ p ∈ l, p.2 ∉ kn) → (learn l kn).length = kn.length + l.length
  | [], kn, _, _ => by simp [learn]
  | p :: l, kn, hn, h => by
    rw [List.map_cons, List.nodup_cons] at hn
    have e : learn (p :: l) kn = learn l (ins p.2 kn) := rfl
    have e2 : ins p.2 kn = kn ++ [p.2] := if_neg (h p (by simp))
    rw [e, e2, learn_len l _ hn.2 (fun q hq hm => by
      rcases List.mem_append.1 hm with hm | hm
      · exact h q (by simp [hq]) hm
      · rw [List.mem_singleton] at hm
        exact hn.1 (List.mem_map.2 ⟨q, hq, hm⟩))]
    simp; omega
structure KI (m : Nat) (kn : List Int) : Prop where
  nodup : kn.Nodup
  lt : ∀ v ∈ kn, 0 ≤ v ∧ v < (m : Int)
theorem KI.len {m : Nat} {kn : List Int} (h : KI m kn) : kn.length ≤ m := by
  have := nodup_lt_len (n := m) (l := kn.map Int.toNat) (by
    have : ∀ (l : List Int), l.Nodup → (∀ v ∈ l, 0 ≤ v) → (l.map Int.toNat).Nodup := by
      intro l
      induction l with
      | nil => simp
      | cons a l ih =>
        intro hn hp
        rw [List.nodup_cons] at hn
        rw [List.map_cons, List.nodup_cons]
        refine ⟨fun hm => ?_, ih hn.2 (fun v hv => hp v (by simp [hv]))⟩
        obtain ⟨b, hb, e⟩ := List.mem_map.1 hm
        have h1 := hp a (by simp)
        have h2 := hp b (by simp [hb])
        have : b = a := by omega
        exact hn.1 (by rw [← this]; exact hb)
    exact this kn h.nodup (fun v hv => (h.lt v hv).1)) (fun y hy => by
      obtain ⟨v, hv, rfl⟩ := List.mem_map.1 hy
      have := h.lt v hv
      omega)
  rw [List.length_map] at this
  exact this
theorem KI.ins {m : Nat} {kn : List Int} (h : KI m kn) {v : Int} (hv : 0 ≤ v ∧ v < (m : Int)) : KI m (ins v kn) := by
  unfold Proofs.Ytmhfkhlamnapdaa.ins
  split
  · exact h
  · rename_i hn
    refine ⟨?_, fun w hw => ?_⟩
    · rw [List.nodup_append]
      refine ⟨h.nodup, by simp, fun a ha b hb => ?_⟩
      rw [List.mem_singleton] at hb
      rw [hb]; exact fun e => hn (by rw [← e]; exact ha)
    · rcases List.mem_append.1 hw with hw | hw
      · exact h.lt w hw
      · rw [List.mem_singleton] at hw; rw [hw]; exact hv
theorem KI.learn {m : Nat} : ∀ (l : List (Int × Int)) (kn : List Int), KI m kn → (∀ p ∈ l, 0 ≤ p.2 ∧ p.2 < (m : Int)) → KI m (learn l kn)
  | [], _, h, _ => h
  | p :: l, kn, h, hl => KI.learn l _ (h.ins (hl p (by simp))) (fun q hq => hl q (by simp [hq]))
theorem nrR_in {m : Nat} {l : List (Int × Int)} {a b : Int} (h : nrR m l a b = true) : 0 ≤ b ∧ b < (m : Int) := by
  simp only [nrR, inR, Bool.and_eq_true, decide_eq_true_eq] at h
  exact h.2.1
theorem cp_learn (m : Nat) (hm : m ≤ 1000) (lc : List HV) (x : Int) (rds : List HV) (i : Nat) (Z : List HV) (r : List (Int × Int)) (hr : r.length ≤ 1000) (hin : ∀ p ∈ r, 0 ≤ p.2 ∧ p.2 < (m : Int)) : ∀ (d j q : Nat) (K : List Bool) (kn : List Int), j + d = r.length → q + d ≤ 1000000 → MB m K kn →
    ∃ K', RunsTo Try.prog polY 30 (sub [1, 1, 1, 1, 0, 1, 0, 0, 1, 0, 0, 1, 1, 1, 1, 0] B30) (cpE m lc x rds q (.int .i64 (i : Int)) .undef (.imm .arg 2 (r.map encP)) .undef .undef .undef (.int .i64 (j : Int))) [bF K, .arr 1 Z true 0]
      (.exit 4) (polY.keys 30) (cpE m lc x rds (q + d) (.int .i64 (i : Int)) .undef (.imm .arg 2 (r.map encP)) .undef .undef .undef (.int .i64 (r.length : Int))) [bF K', .arr 1 Z true 0] ∧ MB m K' (learn (r.drop j) kn) := by
  intro d
  induction d with
  | zero =>
    intro j q K kn hj _ hK
    have hj : j = r.length := by omega
    subst hj
    have s1 := cp_n_1 (m : Int) lc x rds m (K.map .bool) q i Z (r.map encP) r.length (by simp)
    exact ⟨K, RunsTo.loop_out s1 (by simp) (by kernel_rfl) (by kernel_rfl), by simpa [learn] using hK⟩
  | succ d ih =>
    intro j q K kn hj hq hK
    have hjl : j < r.length := by omega
    have hb := hin _ (List.getElem_mem hjl)
    rw [List.drop_eq_getElem_cons hjl]
    generalize hp : r[j] = p at hb
    obtain ⟨a, b⟩ := p
    obtain ⟨v, rfl⟩ : ∃ v : Nat, b = (v : Int) := ⟨b.toNat, by omega⟩
    have hv : v < m := by omega
    have g0 : (j : Int) < ((r.map encP).length : Int) := by simp; omega
    have g1 : idxV Try.prog 22 (.imm .arg 2 (r.map encP)) (.int .i64 (j : Int)) = some (.vptr (.agg [.int .i64 a, .int .i64 (v : Int)])) := idx_imm u22 z33 (by omega) (by rw [Int.toNat_natCast, List.getElem?_map, List.getElem?_eq_getElem hjl, hp]; rfl)
    have st := store_b (H := [bF K, .arr 1 Z true 0]) (k := 0) hK.len rfl hv true
    have s1 := cp_n_0 (m : Int) lc x rds m (K.map .bool) q i Z (r.map encP) j a (v : Int) _ g0 g1 (idx_sl u43c z4c (by omega) (by omega)) (by rw [Int.toNat_natCast]; exact st)
    rw [wrap_succ (by omega), wrap_succ (by omega)] at s1
    obtain ⟨K', r2, h2⟩ := ih (j + 1) (q + 1) (K.set v true) (ins (v : Int) kn) (by omega) (by omega) (hK.set hv)
    have e : q + 1 + d = q + (d + 1) := by omega
    rw [e] at r2
    exact ⟨K', RunsTo.loop s1 (by kernel_rfl) (gc_same (by simp)) r2 rfl (by kernel_rfl) (by kernel_rfl), h2⟩
theorem cp_rounds (m : Nat) (hm : m ≤ 1000) (l : List (Int × Int)) (hl : l.length ≤ 1000) (x : Int) (R : List (List (Int × Int))) (hR : R.length ≤ 1000) (hRr : ∀ r ∈ R, r.length ≤ 1000) : ∀ (d i : Nat) (K : List Bool) (kn : List Int), i + d = R.length → MB m K kn → KI m kn →
    ∃ X E H', RunsTo Try.prog polY 30 (sub [1, 1, 1, 1, 0, 1, 0] B30) (cpE m (l.map encP) x (R.map encRd) kn.length (.int .i64 (i : Int)) .undef .undef .undef .undef .undef .undef) [bF K] X (polY.keys 30) E H' ∧
      ((∃ kn' K', ckGo (nrR m l) (R.drop i) kn = some kn' ∧ KI m kn' ∧ X = .exit 0 ∧ E = cpE m (l.map encP) x (R.map encRd) kn'.length (.int .i64 (R.length : Int)) .undef .undef .undef .undef .undef .undef ∧ H' = [bF K']) ∨
       (ckGo (nrR m l) (R.drop i) kn = none ∧ X = .ret ∧ E.get 8 = .bool false)) := by
  intro d
  induction d with
  | zero =>
    intro i K kn hi hK hI
    have hi : i = R.length := by omega
    subst hi
    have s1 := cp_f_1 (m : Int) (l.map encP) x (R.map encRd) m (K.map .bool) kn.length R.length (by simp)
    exact ⟨_, _, _, RunsTo.loop_out (RunsTo.seq_out s1 (by simp) (c := sub [1, 1, 1, 1, 0, 1, 0, 0] B30) (b := sub [1, 1, 1, 1, 0, 1, 0, 0, 1] B30) (by kernel_rfl)) (by simp) (by kernel_rfl) (by kernel_rfl), .inl ⟨kn, K, by simp [ckGo], hI, rfl, rfl, rfl⟩⟩
  | succ d ih =>
    intro i K kn hi hK hI
    have hil : i < R.length := by omega
    rw [List.drop_eq_getElem_cons hil, ckGo]
    have hrl := hRr _ (List.getElem_mem hil)
    generalize hr : R[i] = r at hrl
    have hkl := hI.len
    have f1 := cp_f_0 (m : Int) (l.map encP) x (R.map encRd) m (K.map .bool) kn.length i (by simp; omega)
    have hmk := makeV_ok (P := Try.prog) (H := [bF K]) (t := 43) (n := (m : Int)) u43f info4f rfl rfl (by omega) (by omega) (by rw [show roomMax = 70368744177664 from rfl]; omega)
    rw [Int.toNat_natCast] at hmk
    have g1 := cp_g_0 (m : Int) (l.map encP) x (R.map encRd) m (K.map .bool) kn.length i hmk
    have h1 := cp_h_0 (m : Int) (l.map encP) x (R.map encRd) m (K.map .bool) kn.length i (List.replicate m (.bool false)) (r.map encP) (idx_imm u44b z22b (by omega) (by rw [Int.toNat_natCast, List.getElem?_map, List.getElem?_eq_getElem hil, hr]; rfl))
    have i1 := cp_i_0 (m : Int) (l.map encP) x (R.map encRd) m (K.map .bool) kn.length i (List.replicate m (.bool false)) (r.map encP)
    have e0 : (Blk.arr 1 (List.replicate m (.bool false)) true 0) = bF (List.replicate m false) := by simp [bF]
    obtain ⟨X, E, H', r1, hh⟩ := cp_calls m hm l hl x (R.map encRd) kn.length i K kn hK r hrl r.length 0 (List.replicate m false) [] (by omega) (MB.init m)
    rw [← e0] at r1
    rw [List.drop_zero] at hh
    rcases hh with ⟨e, rfl, Z', rfl, rfl⟩ | ⟨e, rfl, hE⟩
    · rw [if_pos e]
      obtain ⟨hnd, hfr⟩ := rd_fresh _ _ _ _ e
      have hin : ∀ p ∈ r, 0 ≤ p.2 ∧ p.2 < (m : Int) := fun p hp => nrR_in (hfr p hp).2.2
      have hI2 := KI.learn r kn hI hin
      have hll := learn_len r kn hnd (fun p hp => (hfr p hp).1)
      have m1 := cp_m_0 (m : Int) (l.map encP) x (R.map encRd) m (K.map .bool) kn.length i (Z'.map .bool) (r.map encP) r.length
      obtain ⟨K', r2, hK2⟩ := cp_learn m hm (l.map encP) x (R.map encRd) i (Z'.map .bool) r hrl hin r.length 0 kn.length K kn (by omega) (by omega) hK
      rw [List.drop_zero] at hK2
      have r2' := RunsTo.loop_in (e0 := cpE m (l.map encP) x (R.map encRd) kn.length (.int .i64 (i : Int)) (.sl 1 0 m (some m) m 1) (.imm .arg 2 (r.map encP)) (.int .i64 (r.length : Int)) .undef .undef (.int .i64 0)) r2 (b := sub [1, 1, 1, 1, 0, 1, 0, 0, 1, 0, 0, 1, 1, 1, 1, 0, 0] B30) (by kernel_rfl) (by kernel_rfl) (by kernel_rfl)
      have o1 := cp_o_0 (m : Int) (l.map encP) x (R.map encRd) m (K'.map .bool) (kn.length + r.length) i (Z'.map .bool) (r.map encP) r.length
      rw [wrap_succ (by omega)] at o1
      obtain ⟨X, E, H3, r3, h3⟩ := ih (i + 1) K' (learn r kn) (by omega) hK2 hI2
      rw [hll] at r3
      refine ⟨X, E, H3, ?_, h3⟩
      have t1 := RunsTo.seq i1 (RunsTo.block_exit (c := sub [1, 1, 1, 1, 0, 1, 0, 0, 1, 0, 0, 1, 1, 0, 1] B30) r1 (by kernel_rfl)) (c := sub [1, 1, 1, 1, 0, 1, 0, 0, 1, 0, 0, 1, 1, 0] B30) (by kernel_rfl) (by kernel_rfl)
      have t2 := RunsTo.seq m1 (RunsTo.block_exit (c := sub [1, 1, 1, 1, 0, 1, 0, 0, 1, 0, 0, 1, 1, 1, 1] B30) r2' (by kernel_rfl)) (c := sub [1, 1, 1, 1, 0, 1, 0, 0, 1, 0, 0, 1, 1, 1] B30) (by kernel_rfl) (by kernel_rfl)
      have t3 := RunsTo.seq t1 t2 (c := sub [1, 1, 1, 1, 0, 1, 0, 0, 1, 0, 0, 1, 1] B30) (by kernel_rfl) (by kernel_rfl)
      have t4 := RunsTo.seq h1 t3 (c := sub [1, 1, 1, 1, 0, 1, 0, 0, 1, 0, 0, 1] B30) (by kernel_rfl) (by kernel_rfl)
      have t5 := RunsTo.seq g1 t4 (c := sub [1, 1, 1, 1, 0, 1, 0, 0, 1, 0, 0] B30) (by kernel_rfl) (by kernel_rfl)
      have t6 := RunsTo.block_normal (i := 1) (c := sub [1, 1, 1, 1, 0, 1, 0, 0, 1, 0] B30) t5 (by kernel_rfl)
      have t7 := RunsTo.seq t6 o1 (c := sub [1, 1, 1, 1, 0, 1, 0, 0, 1] B30) (by kernel_rfl) (by kernel_rfl)
      have t8 := RunsTo.seq f1 t7 (c := sub [1, 1, 1, 1, 0, 1, 0, 0] B30) (by kernel_rfl) (by kernel_rfl)
      exact RunsTo.loop t8 (by kernel_rfl) rfl r3 rfl (by kernel_rfl) (by kernel_rfl)
    · rw [if_neg (by rw [e]; simp)]
      refine ⟨_, E, H', ?_, .inr ⟨rfl, rfl, hE⟩⟩
      have t1 := RunsTo.seq i1 (RunsTo.block_ret (i := 2) (c := sub [1, 1, 1, 1, 0, 1, 0, 0, 1, 0, 0, 1, 1, 0, 1] B30) r1 (by kernel_rfl)) (c := sub [1, 1, 1, 1, 0, 1, 0, 0, 1, 0, 0, 1, 1, 0] B30) (by kernel_rfl) (by kernel_rfl)
      have t3 := RunsTo.seq_out t1 (by simp) (c := sub [1, 1, 1, 1, 0, 1, 0, 0, 1, 0, 0, 1, 1] B30) (b := sub [1, 1, 1, 1, 0, 1, 0, 0, 1, 0, 0, 1, 1, 1] B30) (by kernel_rfl)
      have t4 := RunsTo.seq h1 t3 (c := sub [1, 1, 1, 1, 0, 1, 0, 0, 1, 0, 0, 1] B30) (by kernel_rfl) (by kernel_rfl)
      have t5 := RunsTo.seq g1 t4 (c := sub [1, 1, 1, 1, 0, 1, 0, 0, 1, 0, 0] B30) (by kernel_rfl) (by kernel_rfl)
      have t6 := RunsTo.block_ret (i := 1) (c := sub [1, 1, 1, 1, 0, 1, 0, 0, 1, 0] B30) t5 (by kernel_rfl)
      have t7 := RunsTo.seq_out t6 (by simp) (c := sub [1, 1, 1, 1, 0, 1, 0, 0, 1] B30) (b := sub [1, 1, 1, 1, 0, 1, 0, 0, 1, 1] B30) (by kernel_rfl)
      have t8 := RunsTo.seq f1 t7 (c := sub [1, 1, 1, 1, 0, 1, 0, 0] B30) (by kernel_rfl) (by kernel_rfl)
      exact RunsTo.loop_out t8 (by simp) (by kernel_rfl) (by kernel_rfl)
def completeF (n : Nat) (l : List (Int × Int)) (x : Int) (R : List (List (Int × Int))) : Bool := spOk (nrR n l) n x R
def complete30 : List HV → Option HV
  | [.int .i64 n, .imm .arg 2 lc, .int .i64 x, .imm .arg 1 rv] =>
    match mapO decP lc, mapO decRd rv with
    | some l, some R => if (((0 ≤ n ∧ n ≤ 1000) ∧ l.length ≤ 1000) ∧ 0 ≤ x ∧ x < n) ∧ R.length ≤ 1000 ∧ (R.all fun r => decide (r.length ≤ 1000)) = true then some (.bool (completeF n.toNat l x R)) else none
    | _, _ => none
  | _ => none
theorem res30 : Try.f30.results.toList = [.tmp 8] := by kernel_rfl
theorem complete_ok : PrimOk Try.prog 30 complete30 := by
  refine primOk_pure (pol := polY) (fn := Try.f30) (cd := B30) follows_mixed soundY (by kernel_rfl) (by kernel_rfl) (fnok polY.prim _ _ (by kernel_rfl)) (by kernel_rfl) ?_
  intro args res h
  unfold complete30 at h
  split at h
  · rename_i n lc x rv
    split at h
    · rename_i l R hlc hrv
      split at h
      · rename_i hg
        cases h
        obtain ⟨⟨⟨hn, hl⟩, hx⟩, hR, hRa⟩ := hg
        rw [mapO_inv decP_inv hlc, mapO_inv decRd_inv hrv]
        have hRr : ∀ r ∈ R, r.length ≤ 1000 := fun r hr => of_decide_eq_true (List.all_eq_true.1 hRa r hr)
        obtain ⟨m, rfl⟩ : ∃ m : Nat, n = (m : Int) := ⟨n.toNat, by omega⟩
        obtain ⟨w, rfl⟩ : ∃ w : Nat, x = (w : Int) := ⟨x.toNat, by omega⟩
        rw [Int.toNat_natCast]
        have hw : w < m := by omega
        have a1 := cp_a_0 (m : Int) (l.map encP) (w : Int) (R.map encRd)
        have hmk := makeV_ok (P := Try.prog) (H := []) (t := 43) (n := (m : Int)) u43f info4f rfl rfl (by omega) (by omega) (by rw [show roomMax = 70368744177664 from rfl]; omega)
        rw [Int.toNat_natCast] at hmk
        have b1 := cp_b_0 (m : Int) (l.map encP) (w : Int) (R.map encRd) m hmk
        have hK0 := MB.init m
        have e0 : List.replicate m (HV.bool false) = (List.replicate m false).map HV.bool := by simp
        rw [e0] at b1
        have st := store_b (H := [bF (List.replicate m false)]) (k := 0) hK0.len rfl hw true
        have c1 := cp_c_0 (m : Int) (l.map encP) (w : Int) (R.map encRd) m ((List.replicate m false).map .bool) _ (idx_sl u43c z4c (by omega) (by omega)) (by rw [Int.toNat_natCast]; exact st)
        have hK := hK0.set hw
        have d1 := cp_d_0 (m : Int) (l.map encP) (w : Int) (R.map encRd) m (((List.replicate m false).set w true).map .bool)
        have e1 := cp_e_0 (m : Int) (l.map encP) (w : Int) (R.map encRd) m (((List.replicate m false).set w true).map .bool) 1
        have hI : KI m [(w : Int)] := ⟨by simp, fun v hv => by rw [List.mem_singleton] at hv; omega⟩
        obtain ⟨X, E, H', r1, h1⟩ := cp_rounds m (by omega) l hl (w : Int) R hR hRr R.length 0 _ [(w : Int)] (by omega) hK hI
        rw [List.drop_zero] at h1
        have up : ∀ E H, RunsTo Try.prog polY 30 (sub [1, 1, 1, 1] B30) (cpE m (l.map encP) (w : Int) (R.map encRd) 1 .undef .undef .undef .undef .undef .undef .undef) [bF ((List.replicate m false).set w true)] .ret (polY.keys 30) E H → E.get 8 = .bool (completeF m l (w : Int) R) →
            ∃ X E H' v, RunsTo Try.prog polY 30 B30 (args0 [.int .i64 (m : Int), .imm .arg 2 (l.map encP), .int .i64 (w : Int), .imm .arg 1 (R.map encRd)]) [] X (polY.keys 30) E H' ∧ (∀ i, X ≠ .exit i) ∧ resultsV Try.prog Try.f30 E H' = some v ∧ toRes H' (polY.deep 30) v = some (.bool (completeF m l (w : Int) R)) := by
          intro E H t hE
          have t1 := RunsTo.seq d1 t (c := sub [1, 1, 1] B30) (by kernel_rfl) (by kernel_rfl)
          have t2 := RunsTo.seq c1 t1 (c := sub [1, 1] B30) (by kernel_rfl) (by kernel_rfl)
          have t3 := RunsTo.seq b1 t2 (c := sub [1] B30) (by kernel_rfl) (by kernel_rfl)
          exact ⟨_, _, _, .bool (completeF m l (w : Int) R), RunsTo.seq a1 t3 (c := B30) (by kernel_rfl) (by kernel_rfl), by simp, by simp only [resultsV, res30, mapO, resultV, hE], rfl⟩
        rcases h1 with ⟨kn', K', hgo, hI2, rfl, rfl, rfl⟩ | ⟨hgo, rfl, hE⟩
        · have t1 := RunsTo.seq e1 (RunsTo.block_exit (c := sub [1, 1, 1, 1, 0, 1] B30) r1 (by kernel_rfl)) (c := sub [1, 1, 1, 1, 0] B30) (by kernel_rfl) (by kernel_rfl)
          have hle := hI2.len
          by_cases hc : (kn'.length : Int) = (m : Int)
          · have z1 := cp_z_0 (m : Int) (l.map encP) (w : Int) (R.map encRd) m (K'.map .bool) kn'.length R.length hc
            have t2 := RunsTo.seq t1 z1 (c := sub [1, 1, 1, 1] B30) (by kernel_rfl) (by kernel_rfl)
            refine up _ _ t2 ?_
            have : completeF m l (w : Int) R = true := by rw [completeF, spOk, hgo]; exact decide_eq_true (by omega)
            rw [this]; rfl
          · have z1 := cp_z_1 (m : Int) (l.map encP) (w : Int) (R.map encRd) m (K'.map .bool) kn'.length R.length hc
            have t2 := RunsTo.seq t1 z1 (c := sub [1, 1, 1, 1] B30) (by kernel_rfl) (by kernel_rfl)
            refine up _ _ t2 ?_
            have : completeF m l (w : Int) R = false := by rw [completeF, spOk, hgo]; exact decide_eq_false (by omega)
            rw [this]; rfl
        · have t1 := RunsTo.seq e1 (RunsTo.block_ret (i := 0) (c := sub [1, 1, 1, 1, 0, 1] B30) r1 (by kernel_rfl)) (c := sub [1, 1, 1, 1, 0] B30) (by kernel_rfl) (by kernel_rfl)
          have t2 := RunsTo.seq_out t1 (by simp) (c := sub [1, 1, 1, 1] B30) (b := sub [1, 1, 1, 1, 1] B30) (by kernel_rfl)
          refine up _ _ t2 ?_
          have : completeF m l (w : Int) R = false := by rw [completeF, spOk, hgo]
          rw [this]; exact hE
      · cases h
    · cases h
  · cases h
end Go.Proofs.Ytmhfkhlamnapdaa
end
section
open Go Go.HL
namespace Go.Proofs.Ytmhfkhlamnapdaa
theorem bIn_all (c : Int) {n k : Nat} (hc : 0 ≤ c ∧ c + 1 ≤ k) : ∀ (l : List Nat) (s : List Int × List Nat), (∀ y ∈ l, y < n) → BInv n k s → ∀ z ∈ l, z ∈ (bIn c l s).2
  | [], _, _, _, z, hz => by cases hz
  | y :: l, s, hl, h, z, hz => by
    rw [bIn]
    have hy := hl y (by simp)
    have h' := h.step hc hy
    rcases List.mem_cons.1 hz with rfl | hz
    · obtain ⟨t, ht⟩ := bIn_pre c l (if s.1.getD z 0 < 0 then (s.1.set z (c + 1), s.2 ++ [z]) else s)
      rw [ht]
      apply List.mem_append_left
      by_cases hlt : s.1.getD z 0 < 0
      · rw [if_pos hlt]; simp
      · rw [if_neg hlt]; exact (h.got z hy).1 (by omega)
    · exact bIn_all c hc l _ (fun w hw => hl w (by simp [hw])) h' z hz
theorem bIn_sub (c : Int) {S : Nat → Prop} : ∀ (l : List Nat) (s : List Int × List Nat), (∀ y ∈ s.2, S y) → (∀ y ∈ l, S y) → ∀ y ∈ (bIn c l s).2, S y
  | [], _, h, _ => h
  | y :: l, s, h, hl => by
    rw [bIn]
    refine bIn_sub c l _ (fun z hz => ?_) (fun z hz => hl z (by simp [hz]))
    split at hz
    · rcases List.mem_append.1 hz with hz | hz
      · exact h z hz
      · rw [List.mem_singleton] at hz; rw [hz]; exact hl y (by simp)
    · exact h z hz
theorem bGo_sub (nb : Nat → List Nat) {S : Nat → Prop} (hS : ∀ x, S x → ∀ z ∈ nb x, S z) : ∀ (d i : Nat) (s : List Int × List Nat), (∀ y ∈ s.2, S y) → ∀ y ∈ (bGo nb d i s).2, S y
  | 0, _, _, h => h
  | d + 1, i, s, h => by
    rw [bGo]
    split
    · rename_i x hx
      exact bGo_sub nb hS d (i + 1) _ (bIn_sub _ _ _ h (hS x (h x (List.mem_of_getElem? hx))))
    · exact h
theorem bGo_closed (nb : Nat → List Nat) (n : Nat) (hnb : ∀ x, x < n → ∀ z ∈ nb x, z < n) : ∀ (d i : Nat) (s : List Int × List Nat), i + d = n → BInv n i s → i ≤ s.2.length → (∀ k x, k < i → s.2[k]? = some x → ∀ z ∈ nb x, z ∈ s.2) →
    BInv n n (bGo nb d i s) ∧ (∀ y ∈ s.2, y ∈ (bGo nb d i s).2) ∧ ∀ x ∈ (bGo nb d i s).2, ∀ z ∈ nb x, z ∈ (bGo nb d i s).2 := by
  intro d
  induction d with
  | zero =>
    intro i s hi hinv hle hcl
    rw [bGo]
    refine ⟨hinv.mono (by omega), fun y hy => hy, fun x hx z hz => ?_⟩
    obtain ⟨k, hk, rfl⟩ := List.getElem_of_mem hx
    have := hinv.qlen
    exact hcl k _ (by omega) (List.getElem?_eq_getElem hk) z hz
  | succ d ih =>
    intro i s hi hinv hle hcl
    rw [bGo]
    cases hw : s.2[i]? with
    | none =>
      have hge := List.getElem?_eq_none_iff.1 hw
      dsimp only
      refine ⟨hinv.mono (by omega), fun y hy => hy, fun x hx z hz => ?_⟩
      obtain ⟨k, hk, rfl⟩ := List.getElem_of_mem hx
      exact hcl k _ (by omega) (List.getElem?_eq_getElem hk) z hz
    | some w =>
      dsimp only
      have hil := lt_of_get hw
      have hwn : w < n := hinv.lt _ (List.mem_of_getElem? hw)
      have hc0 := (hinv.got w hwn).2 (List.mem_of_getElem? hw)
      have hci := hinv.le w hwn
      have hc : 0 ≤ s.1.getD w 0 ∧ s.1.getD w 0 + 1 ≤ ((i + 1 : Nat) : Int) := ⟨hc0, by omega⟩
      have hinv' := BInv.inn hc (nb w) s (hnb w hwn) (hinv.mono (by omega))
      obtain ⟨t, ht⟩ := bIn_pre (s.1.getD w 0) (nb w) s
      have hall := bIn_all (s.1.getD w 0) hc (nb w) s (hnb w hwn) (hinv.mono (by omega))
      obtain ⟨h1, h2, h3⟩ := ih (i + 1) _ (by omega) hinv' (by rw [ht, List.length_append]; omega) (fun k x hk hx z hz => by
        rcases Nat.lt_or_ge k i with h | h
        · rw [ht, List.getElem?_append_left (by omega)] at hx
          have := hcl k x h hx z hz
          rw [ht]; exact List.mem_append_left _ this
        · have : k = i := by omega
          subst this
          rw [ht, List.getElem?_append_left hil, hw] at hx
          cases hx
          exact hall z hz)
      exact ⟨h1, fun y hy => h2 y (by rw [ht]; exact List.mem_append_left _ hy), h3⟩
theorem bfs_reach (nb nb' : Nat → List Nat) (n x : Nat) (hx : x < n) (hnb : ∀ x, x < n → ∀ z ∈ nb x, z < n) (hnb' : ∀ x, x < n → ∀ z ∈ nb' x, z < n) (he : ∀ x, x < n → ∀ z, z ∈ nb x → z ∈ nb' x) {y : Nat} (hy : y < n) (h : 0 ≤ (bfs nb n x).getD y 0) : 0 ≤ (bfs nb' n x).getD y 0 := by
  obtain ⟨a1, a2, a3⟩ := bGo_closed nb n hnb n 0 (bInit n x) (by omega) (bInit_inv hx) (Nat.zero_le _) (fun k x hk => by omega)
  obtain ⟨b1, b2, b3⟩ := bGo_closed nb' n hnb' n 0 (bInit n x) (by omega) (bInit_inv hx) (Nat.zero_le _) (fun k x hk => by omega)
  have hm := (a1.got y hy).1 h
  have := bGo_sub nb (S := fun z => z ∈ (bGo nb' n 0 (bInit n x)).2) (fun w hw z hz => b3 w hw z (he w (b1.lt w hw) z hz)) n 0 (bInit n x) (fun z hz => b2 z hz) y hm
  exact (b1.got y hy).2 this
theorem bfs_ge (nb : Nat → List Nat) (n x : Nat) (hx : x < n) (hnb : ∀ x, x < n → ∀ z ∈ nb x, z < n) {y : Nat} (hy : y < n) : -1 ≤ (bfs nb n x).getD y 0 :=
  (bGo_closed nb n hnb n 0 (bInit n x) (by omega) (bInit_inv hx) (Nat.zero_le _) (fun k x hk => by omega)).1.ge y hy
def isP (x y : Nat) (p : Int × Int) : Prop := (p.1.toNat = x ∧ p.2.toNat = y) ∨ (p.2.toNat = x ∧ p.1.toNat = y)
theorem adjAdd_mem {adj : List (List Nat)} {a b x y : Nat} (ha : a < adj.length) : y ∈ (adjAdd adj a b).getD x [] ↔ y ∈ adj.getD x [] ∨ (x = a ∧ y = b) := by
  unfold adjAdd
  simp only [List.getD, List.getElem?_set]
  by_cases e : a = x
  · subst e
    simp [ha]
  · have e' : ¬ x = a := fun h => e h.symm
    simp [e, e']
theorem adjGo_mem {n : Nat} : ∀ (l : List (Int × Int)) (adj : List (List Nat)), adj.length = n → (∀ p ∈ l, validB (n : Int) p = true) → ∀ x y, y ∈ (adjGo l adj).getD x [] ↔ y ∈ adj.getD x [] ∨ ∃ p ∈ l, isP x y p
  | [], adj, _, _, x, y => by simp [adjGo]
  | p :: l, adj, ha, hv, x, y => by
    have h1 := hv p (by simp)
    rw [validB, decide_eq_true_eq] at h1
    have e : adjGo (p :: l) adj = adjGo l (adjStep adj p) := rfl
    rw [e, adjGo_mem l (adjStep adj p) (by simp [adjStep, adjAdd, ha]) (fun q hq => hv q (by simp [hq])), adjStep, adjAdd_mem (by simp [adjAdd, ha]; omega), adjAdd_mem (by omega)]
    constructor
    · rintro (((h | h) | h) | ⟨q, hq, h⟩)
      · exact .inl h
      · exact .inr ⟨p, by simp, .inl ⟨h.1.symm, h.2.symm⟩⟩
      · exact .inr ⟨p, by simp, .inr ⟨h.1.symm, h.2.symm⟩⟩
      · exact .inr ⟨q, by simp [hq], h⟩
    · rintro (h | ⟨q, hq, h⟩)
      · exact .inl (.inl (.inl h))
      · rcases List.mem_cons.1 hq with rfl | hq
        · rcases h with ⟨h1, h2⟩ | ⟨h1, h2⟩
          · exact .inl (.inl (.inr ⟨h1.symm, h2.symm⟩))
          · exact .inl (.inr ⟨h1.symm, h2.symm⟩)
        · exact .inr ⟨q, hq, h⟩
theorem adjOf_mem {n : Nat} {l : List (Int × Int)} (hv : ∀ p ∈ l, validB (n : Int) p = true) (x y : Nat) : y ∈ (adjOf n l).getD x [] ↔ ∃ p ∈ l, isP x y p := by
  rw [adjOf, adjGo_mem l _ (by simp) hv]
  have : (List.replicate n ([] : List Nat)).getD x [] = [] := by
    simp only [List.getD, List.getElem?_replicate]
    split <;> rfl
  rw [this]; simp
theorem valid_in {n : Nat} {l : List (Int × Int)} (hv : ∀ p ∈ l, validB (n : Int) p = true) : ∀ p ∈ l, inB n p := fun p hp => by
  have := hv p hp
  rw [validB, decide_eq_true_eq] at this
  unfold inB; omega
theorem nb_same {n : Nat} {l : List (Int × Int)} (hv : ∀ p ∈ l, validB (n : Int) p = true) (x y : Nat) : y ∈ (adjOf n l).getD x [] ↔ y ∈ nbN n l x := by
  rw [adjOf_mem hv, nbN_mem (valid_in hv)]
  constructor
  · rintro ⟨p, hp, h⟩
    refine ⟨?_, p, hp, h⟩
    have h1 := hv p hp
    rw [validB, decide_eq_true_eq] at h1
    rcases h with ⟨_, h⟩ | ⟨_, h⟩ <;> omega
  · rintro ⟨_, p, hp, h⟩
    exact ⟨p, hp, h⟩
theorem all_getD {o : List Int} {n : Nat} (ho : o.length = n) : reached o = true ↔ ∀ y, y < n → 0 ≤ o.getD y 0 := by
  unfold reached
  rw [List.all_eq_true]
  constructor
  · intro h y hy
    have := h o[y] (List.getElem_mem (by omega))
    rw [decide_eq_true_eq] at this
    simpa [List.getD, List.getElem?_eq_getElem (show y < o.length by omega)] using this
  · intro h v hv
    obtain ⟨i, hi, rfl⟩ := List.getElem_of_mem hv
    have := h i (by omega)
    rw [decide_eq_true_eq]
    simpa [List.getD, List.getElem?_eq_getElem hi] using this
theorem farOk_iff {n : Nat} (hn : 0 < n) {adj : List (List Nat)} {k : Nat} (hA : AInv n k adj) : farOk adj = true ↔ ∀ y, y < n → 0 ≤ (bfs (fun y => adj.getD y []) n 0).getD y 0 := by
  have hnb : ∀ x, x < n → ∀ z ∈ adj.getD x [], z < n := fun x hx z hz => by
    obtain ⟨r, hr⟩ : ∃ r, adj[x]? = some r := ⟨_, List.getElem?_eq_getElem (by rw [hA.len]; exact hx)⟩
    simp only [List.getD, hr, Option.getD_some] at hz
    exact (hA.row _ (List.mem_of_getElem? hr)).2 z hz
  have hlen : (farF adj 0).length = n := by rw [farF, bfs_len]; exact hA.len
  have hF : farF adj 0 = bfs (fun y => adj.getD y []) n 0 := by rw [farF, hA.len]
  have hge : ∀ y, y < n → -1 ≤ (bfs (fun y => adj.getD y []) n 0).getD y 0 := fun y hy => bfs_ge (fun y => adj.getD y []) n 0 hn hnb hy
  rw [farOk, decide_eq_true_eq, hF]
  rw [hF] at hlen
  generalize bfs (fun y => adj.getD y []) n 0 = o at hge hlen
  constructor
  · intro h y hy
    rcases Int.lt_or_le (o.getD y 0) 0 with hlt | hle
    · exfalso
      apply h
      have e : o.getD y 0 = -1 := by have := hge y hy; omega
      rw [← e]
      have hyl : y < o.length := by omega
      simp only [List.getD, List.getElem?_eq_getElem hyl, Option.getD_some]
      exact List.getElem_mem hyl
    · exact hle
  · intro h hm
    obtain ⟨i, hi, e⟩ := List.getElem_of_mem hm
    have := h i (by omega)
    simp only [List.getD, List.getElem?_eq_getElem hi, Option.getD_some, e] at this
    omega
theorem tree_same (n : Int) (l : List (Int × Int)) : treeOk n l = rTree n l := by
  rw [treeOk, rTree]
  by_cases h1 : (1 ≤ n ∧ n ≤ 30) ∧ (l.length : Int) = n - 1
  · by_cases h2 : l.all (validB n) = true
    · rw [decide_eq_true ⟨h1, h2⟩, decide_eq_true h1, h2, Bool.true_and, Bool.true_and, Bool.true_and]
      obtain ⟨m, rfl⟩ : ∃ m : Nat, n = (m : Int) := ⟨n.toNat, by omega⟩
      rw [Int.toNat_natCast]
      have hv := List.all_eq_true.1 h2
      have hA := adjOf_inv hv
      have hm : 0 < m := by omega
      have hnb : ∀ x, x < m → ∀ z ∈ (adjOf m l).getD x [], z < m := fun x hx z hz => ((nbN_mem (valid_in hv)).1 ((nb_same hv x z).1 hz)).1
      have hnb' : ∀ x, x < m → ∀ z ∈ nbN m l x, z < m := fun x hx z hz => ((nbN_mem (valid_in hv)).1 hz).1
      rw [Bool.eq_iff_iff, farOk_iff hm hA, rfarF, all_getD (n := m) (bfs_len _ _ _)]
      constructor
      · intro h y hy
        exact bfs_reach _ _ m 0 hm hnb hnb' (fun x _ z hz => (nb_same hv x z).1 hz) hy (h y hy)
      · intro h y hy
        exact bfs_reach _ _ m 0 hm hnb' hnb (fun x _ z hz => (nb_same hv x z).2 hz) hy (h y hy)
    · have h2' : l.all (validB n) = false := by cases h : l.all (validB n) with | true => exact absurd h h2 | false => rfl
      rw [decide_eq_false (fun h => h2 h.2), h2', Bool.false_and, Bool.false_and, Bool.and_false]
  · rw [decide_eq_false (fun h => h1 h.1), decide_eq_false h1, Bool.false_and, Bool.false_and]
theorem nr_same {n : Nat} {l : List (Int × Int)} (hv : ∀ p ∈ l, validB (n : Int) p = true) : nrA n (adjOf n l) = nrR n l := by
  funext a b
  rw [Bool.eq_iff_iff]
  simp only [nrA, nrR, inR, Bool.and_eq_true, decide_eq_true_eq, List.any_eq_true, isNear, rowI, List.mem_map]
  constructor
  · rintro ⟨h1, y, hy, rfl⟩
    rw [adjOf_mem hv] at hy
    obtain ⟨p, hp, h⟩ := hy
    have h2 := hv p hp
    rw [validB, decide_eq_true_eq] at h2
    refine ⟨by omega, by rcases h with ⟨h3, h4⟩ | ⟨h3, h4⟩ <;> omega, p, hp, ?_⟩
    rcases h with ⟨h3, h4⟩ | ⟨h3, h4⟩
    · exact .inl (by rw [Prod.ext_iff]; exact ⟨by show p.1 = a; omega, by show p.2 = (y : Int); omega⟩)
    · exact .inr (by rw [Prod.ext_iff]; exact ⟨by show p.1 = (y : Int); omega, by show p.2 = a; omega⟩)
  · rintro ⟨h1, h2, p, hp, h⟩
    refine ⟨by omega, b.toNat, (adjOf_mem hv _ _).2 ⟨p, hp, ?_⟩, by omega⟩
    rcases h with rfl | rfl
    · exact .inl ⟨rfl, rfl⟩
    · exact .inr ⟨rfl, rfl⟩
end Go.Proofs.Ytmhfkhlamnapdaa
end
section
open Go Go.HL
namespace Go.Proofs.Ytmhfkhlamnapdaa
def isE (x y : Int) (p : Int × Int) : Prop := (p.1 = x ∧ p.2 = y) ∨ (p.2 = x ∧ p.1 = y)
def oth (x : Int) (p : Int × Int) : Option Int := if p.1 = x then some p.2 else if p.2 = x then some p.1 else none
def rowE (l : List (Int × Int)) (x : Int) : List Int := l.filterMap (oth x)
theorem oth_isE {x y : Int} {p : Int × Int} : oth x p = some y ↔ (p.1 = x ∧ p.2 = y) ∨ (p.1 ≠ x ∧ p.2 = x ∧ p.1 = y) := by
  unfold oth
  by_cases h1 : p.1 = x
  · simp [h1]
  · by_cases h2 : p.2 = x
    · simp [h1, h2]
    · simp [h1, h2]
theorem rowE_mem {l : List (Int × Int)} {x y : Int} : y ∈ rowE l x ↔ ∃ p ∈ l, isE x y p := by
  unfold rowE
  rw [List.mem_filterMap]
  refine ⟨fun ⟨p, hp, h⟩ => ⟨p, hp, ?_⟩, fun ⟨p, hp, h⟩ => ⟨p, hp, ?_⟩⟩
  · rw [oth_isE] at h
    rcases h with h | h
    · exact .inl h
    · exact .inr h.2
  · rw [oth_isE]
    rcases h with h | h
    · exact .inl h
    · by_cases c : p.1 = x
      · left; obtain ⟨h1, h2⟩ := h; constructor; exact c; omega
      · exact .inr ⟨c, h⟩
theorem isE_sym {x y : Int} {p : Int × Int} (h : isE x y p) : isE y x p := by
  rcases h with h | h
  · exact .inr ⟨h.2, h.1⟩
  · exact .inl ⟨h.2, h.1⟩
theorem rowE_sym {l : List (Int × Int)} {x y : Int} (h : y ∈ rowE l x) : x ∈ rowE l y := by
  obtain ⟨p, hp, h⟩ := rowE_mem.1 h
  exact rowE_mem.2 ⟨p, hp, isE_sym h⟩
def chd (ρ : Int → Nat) (p : Int × Int) : Int := if ρ p.1 < ρ p.2 then p.2 else p.1
structure Ori (l : List (Int × Int)) (ρ : Int → Nat) (M : Nat) : Prop where
  ne : ∀ p ∈ l, ρ p.1 ≠ ρ p.2
  nd : (l.map (chd ρ)).Nodup
  bd : ∀ p ∈ l, ρ p.1 ≤ M ∧ ρ p.2 ≤ M
section
variable {l : List (Int × Int)} {ρ : Int → Nat} {M : Nat}
theorem chd_of {x y : Int} {p : Int × Int} (h : isE x y p) (hr : ρ y < ρ x) : chd ρ p = x := by
  unfold chd
  rcases h with ⟨h1, h2⟩ | ⟨h1, h2⟩
  · rw [h1, h2, if_neg (by omega)]
  · rw [h1, h2, if_pos hr]
end
section
variable {l : List (Int × Int)} {ρ : Int → Nat} {M : Nat}
theorem inj_of_nodup {α β : Type} {f : α → β} : ∀ {l : List α}, (l.map f).Nodup → ∀ a ∈ l, ∀ b ∈ l, f a = f b → a = b
  | [], _, a, ha, _, _, _ => by cases ha
  | c :: l, h, a, ha, b, hb, he => by
    rw [List.map_cons, List.nodup_cons] at h
    rcases List.mem_cons.1 ha with rfl | ha2 <;> rcases List.mem_cons.1 hb with rfl | hb2
    · rfl
    · exact (h.1 (by rw [he]; exact List.mem_map_of_mem hb2)).elim
    · exact (h.1 (by rw [← he]; exact List.mem_map_of_mem ha2)).elim
    · exact inj_of_nodup h.2 a ha2 b hb2 he
end
section
variable {l : List (Int × Int)} {ρ : Int → Nat} {M : Nat}
theorem Ori.low (h : Ori l ρ M) {x u u' : Int} (hu : u ∈ rowE l x) (hu' : u' ∈ rowE l x) (h1 : ρ u < ρ x) (h2 : ρ u' < ρ x) : u = u' := by
  obtain ⟨p, hp, e⟩ := rowE_mem.1 hu
  obtain ⟨q, hq, e'⟩ := rowE_mem.1 hu'
  have : p = q := inj_of_nodup h.nd p hp q hq (by rw [chd_of e h1, chd_of e' h2])
  subst this
  rcases e with ⟨a1, a2⟩ | ⟨a1, a2⟩ <;> rcases e' with ⟨b1, b2⟩ | ⟨b1, b2⟩
  · rw [← a2, b2]
  · have e1 : u' = x := by rw [← b2, a1]
    rw [e1] at h2; omega
  · have e1 : u' = x := by rw [← b2, a1]
    rw [e1] at h2; omega
  · rw [← a2, b2]
end
section
variable {l : List (Int × Int)} {ρ : Int → Nat} {M : Nat}
theorem Ori.nodup (h : Ori l ρ M) (x : Int) : (rowE l x).Nodup := by
  unfold rowE List.Nodup
  have hp : l.Pairwise fun p q => chd ρ p ≠ chd ρ q := by
    have := h.nd
    unfold List.Nodup at this
    rwa [List.pairwise_map] at this
  have hp2 : l.Pairwise fun p q => p ∈ l ∧ q ∈ l ∧ chd ρ p ≠ chd ρ q := by
    refine List.Pairwise.imp_of_mem (fun {a b} ha hb hab => ⟨ha, hb, hab⟩) hp
  refine List.Pairwise.filterMap (oth x) (fun p q hpq y hy z hz hyz => ?_) hp2
  subst hyz
  obtain ⟨h1, h2, h3⟩ := hpq
  have ep : isE x y p := by
    rcases oth_isE.1 hy with h | h
    · exact .inl h
    · exact .inr h.2
  have eq : isE x y q := by
    rcases oth_isE.1 hz with h | h
    · exact .inl h
    · exact .inr h.2
  have hne := h.ne p h1
  have hxy : ρ x ≠ ρ y := by
    rcases ep with ⟨a, b⟩ | ⟨a, b⟩
    · rwa [a, b] at hne
    · rw [a, b] at hne; exact fun h => hne h.symm
  rcases Nat.lt_or_gt_of_ne hxy with h | h
  · exact h3 (by rw [chd_of (isE_sym ep) h, chd_of (isE_sym eq) h])
  · exact h3 (by rw [chd_of ep h, chd_of eq h])
end
section
variable {l : List (Int × Int)} {ρ : Int → Nat} {M : Nat}
theorem Ori.neq (h : Ori l ρ M) {x y : Int} (hy : y ∈ rowE l x) : ρ y ≠ ρ x := by
  obtain ⟨p, hp, e⟩ := rowE_mem.1 hy
  have := h.ne p hp
  rcases e with ⟨a, b⟩ | ⟨a, b⟩
  · rw [a, b] at this; exact fun h => this h.symm
  · rw [a, b] at this; exact this
end
section
variable {l : List (Int × Int)} {ρ : Int → Nat} {M : Nat}
theorem Ori.le (h : Ori l ρ M) {x y : Int} (hy : y ∈ rowE l x) : ρ y ≤ M ∧ ρ x ≤ M := by
  obtain ⟨p, hp, e⟩ := rowE_mem.1 hy
  have := h.bd p hp
  rcases e with ⟨a, b⟩ | ⟨a, b⟩
  · rw [a, b] at this; exact ⟨this.2, this.1⟩
  · rw [a, b] at this; exact ⟨this.1, this.2⟩
end
section
variable {l : List (Int × Int)} {ρ : Int → Nat} {M : Nat}
open Classical in
noncomputable def mu (l : List (Int × Int)) (ρ : Int → Nat) (M : Nat) (v w : Int) : Nat := if w ∈ rowE l v ∧ ρ w < ρ v then M - ρ v else M + 1 + ρ v
end
section
variable {l : List (Int × Int)} {ρ : Int → Nat} {M : Nat}
def Gd (l : List (Int × Int)) (n : Nat) (v w : Int) : Prop := (0 ≤ v ∧ v < (n : Int)) ∧ (w = -1 ∨ w ∈ rowE l v)
end
section
variable {l : List (Int × Int)} {ρ : Int → Nat} {M : Nat}
theorem valid_row {n : Nat} (hv : ∀ p ∈ l, validB (n : Int) p = true) {x y : Int} (hy : y ∈ rowE l x) : 0 ≤ y ∧ y < (n : Int) := by
  obtain ⟨p, hp, e⟩ := rowE_mem.1 hy
  have h1 := hv p hp
  rw [validB, decide_eq_true_eq] at h1
  rcases e with e | e <;> omega
end
section
variable {l : List (Int × Int)} {ρ : Int → Nat} {M : Nat}
theorem keep_mem {w u : Int} {r : List Int} : u ∈ keep w r ↔ u ∈ r ∧ u ≠ w := by
  rw [keep, List.mem_filter]
  simp
end
section
variable {l : List (Int × Int)} {ρ : Int → Nat} {M : Nat}
theorem Ori.msr {n : Nat} (h : Ori l ρ M) (hv : ∀ p ∈ l, validB (n : Int) p = true) : Msr (rowE l) (Gd l n) (mu l ρ M) where
  step v w hG u hu := by
    obtain ⟨hu1, hu2⟩ := keep_mem.1 hu
    refine ⟨⟨valid_row hv hu1, .inr (rowE_sym hu1)⟩, ?_⟩
    have hne := h.neq hu1
    obtain ⟨hM1, hM2⟩ := h.le hu1
    unfold mu
    by_cases c : ρ v < ρ u
    · rw [if_pos ⟨rowE_sym hu1, c⟩]
      split <;> omega
    · rw [if_neg (fun h => c h.2), if_neg (fun hw => hu2 (h.low hu1 hw.1 (by omega) hw.2))]
      omega
end
section
variable {l : List (Int × Int)} {ρ : Int → Nat} {M : Nat}
theorem mu_le (l : List (Int × Int)) (ρ : Int → Nat) (M : Nat) (v w : Int) (h : ρ v ≤ M) : mu l ρ M v w ≤ 2 * M + 1 := by
  unfold mu
  split <;> omega
end
theorem adjAdd_get {adj : List (List Nat)} {a b x : Nat} (ha : a < adj.length) : (adjAdd adj a b).getD x [] = adj.getD x [] ++ (if a = x then [b] else []) := by
  unfold adjAdd
  simp only [List.getD, List.getElem?_set]
  by_cases e : a = x
  · subst e
    simp [ha]
  · simp [e]
theorem adjGo_row {n : Nat} : ∀ (l : List (Int × Int)) (adj : List (List Nat)), adj.length = n → (∀ p ∈ l, validB (n : Int) p = true) → ∀ x : Nat, rowI ((adjGo l adj).getD x []) = rowI (adj.getD x []) ++ rowE l (x : Int)
  | [], adj, _, _, x => by simp [adjGo, rowE]
  | p :: l, adj, ha, hv, x => by
    have h1 := hv p (by simp)
    rw [validB, decide_eq_true_eq] at h1
    have e : adjGo (p :: l) adj = adjGo l (adjStep adj p) := rfl
    rw [e, adjGo_row l (adjStep adj p) (by simp [adjStep, adjAdd, ha]) (fun q hq => hv q (by simp [hq])), adjStep, adjAdd_get (by simp [adjAdd, ha]; omega), adjAdd_get (by omega)]
    have e2 : rowE (p :: l) (x : Int) = (match oth (x : Int) p with | some y => [y] | none => []) ++ rowE l (x : Int) := by
      unfold rowE
      rw [List.filterMap_cons]
      cases oth (x : Int) p <;> rfl
    rw [e2]
    unfold oth
    by_cases c1 : p.1 = (x : Int)
    · have c2 : ¬ p.2 = (x : Int) := by omega
      rw [if_pos c1, if_pos (by omega), if_neg (by omega)]
      simp [rowI]
      omega
    · by_cases c2 : p.2 = (x : Int)
      · rw [if_neg c1, if_pos c2, if_neg (by omega), if_pos (by omega)]
        simp [rowI]
        omega
      · rw [if_neg c1, if_neg c2, if_neg (by omega), if_neg (by omega)]
        simp [rowI]
theorem adjOf_row {n : Nat} {l : List (Int × Int)} (hv : ∀ p ∈ l, validB (n : Int) p = true) {x : Nat} (hx : x < n) : ∃ r, (adjOf n l)[x]? = some r ∧ rowI r = rowE l (x : Int) := by
  have hl : (adjOf n l).length = n := (adjOf_inv hv).len
  have h := adjGo_row l (List.replicate n []) (by simp) hv x
  refine ⟨(adjOf n l)[x]'(by omega), List.getElem?_eq_getElem (by omega), ?_⟩
  have e : (adjOf n l).getD x [] = (adjOf n l)[x]'(by omega) := by simp [List.getD, List.getElem?_eq_getElem (show x < (adjOf n l).length by omega)]
  have e0 : (List.replicate n ([] : List Nat)).getD x [] = [] := by
    simp only [List.getD, List.getElem?_replicate]
    split <;> rfl
  rw [← e, adjOf, h, e0]
  rfl
theorem trues_sorted (r : List Bool) : ∀ (d j : Nat) (acc : List Int), acc.Pairwise (fun a b => a < b) → (∀ z ∈ acc, z < (j : Int)) → (truesFrom r j d acc).Pairwise fun a b => a < b
  | 0, j, acc, h, _ => h
  | d + 1, j, acc, h, hz => by
    rw [truesFrom]
    split
    · refine trues_sorted r d (j + 1) _ ?_ (fun z hz' => ?_)
      · rw [List.pairwise_append]
        refine ⟨h, by simp, fun a ha b hb => ?_⟩
        rw [List.mem_singleton.1 hb]; exact hz a ha
      · rcases List.mem_append.1 hz' with h' | h'
        · have := hz z h'; omega
        · rw [List.mem_singleton.1 h']; omega
    · exact trues_sorted r d (j + 1) _ h (fun z hz' => by have := hz z hz'; omega)
theorem nbrs_nodup (m : Nat) (l : List (Int × Int)) (x : Int) : (nbrs m l x).Nodup := by
  have := trues_sorted (nbMark x l (List.replicate m false)) m 0 [] List.Pairwise.nil (by simp)
  exact this.imp fun {a b} h => by omega
theorem nbrs_len (m : Nat) (l : List (Int × Int)) (x : Int) : (nbrs m l x).length ≤ m := by
  have := trues_len (nbMark x l (List.replicate m false)) m 0 []
  simpa [nbrs] using this
theorem nbrs_row {n : Nat} {l : List (Int × Int)} (hv : ∀ p ∈ l, validB (n : Int) p = true) {x : Int} (hx : 0 ≤ x) (y : Int) : y ∈ nbrs n l x ↔ y ∈ rowE l x := by
  obtain ⟨a, rfl⟩ : ∃ a : Nat, x = (a : Int) := ⟨x.toNat, by omega⟩
  rw [rowE_mem]
  have hpos : y ∈ nbrs n l (a : Int) → 0 ≤ y := fun h => by
    rw [nbrs, trues_mem] at h
    rcases h with h | ⟨k, rfl, _⟩
    · cases h
    · omega
  have hm := @nbN_mem n l (valid_in hv) a y.toNat
  constructor
  · intro h
    have h0 := hpos h
    obtain ⟨_, p, hp, h2⟩ := hm.1 (List.mem_map_of_mem h)
    have h1 := hv p hp
    rw [validB, decide_eq_true_eq] at h1
    exact ⟨p, hp, by unfold isE; omega⟩
  · rintro ⟨p, hp, h⟩
    have h1 := hv p hp
    rw [validB, decide_eq_true_eq] at h1
    have : y.toNat ∈ nbN n l a := hm.2 ⟨by rcases h with h | h <;> omega, p, hp, by rcases h with h | h <;> omega⟩
    obtain ⟨z, hz, hzy⟩ := List.mem_map.1 this
    have := hpos
    have hz0 : 0 ≤ z := by
      rw [nbrs, trues_mem] at hz
      rcases hz with h | ⟨k, rfl, _⟩
      · cases h
      · omega
    have : z = y := by rcases h with h | h <;> omega
    rw [← this]; exact hz
theorem nbrs_perm {n : Nat} {l : List (Int × Int)} {ρ : Int → Nat} {M : Nat} (hv : ∀ p ∈ l, validB (n : Int) p = true) (h : Ori l ρ M) {x : Int} (hx : 0 ≤ x) : (nbrs n l x).Perm (rowE l x) :=
  (List.perm_ext_iff_of_nodup (nbrs_nodup n l x) (h.nodup x)).2 fun y => nbrs_row hv hx y
end Go.Proofs.Ytmhfkhlamnapdaa
end
section
open Go Go.HL
namespace Go.Proofs.Ytmhfkhlamnapdaa
def Pnt (nb : Nat → List Nat) (n r : Nat) (o : List Int) : Prop := ∀ y, y < n → 0 ≤ o.getD y 0 → y = r ∨ ∃ x, x < n ∧ y ∈ nb x ∧ 0 ≤ o.getD x 0 ∧ o.getD y 0 = o.getD x 0 + 1
theorem bIn_pnt (nb : Nat → List Nat) {n k r x : Nat} {c : Int} (hc : 0 ≤ c ∧ c + 1 ≤ k) (hx : x < n) : ∀ (l : List Nat) (s : List Int × List Nat), (∀ y ∈ l, y < n ∧ y ∈ nb x) → BInv n k s → s.1.getD x 0 = c → Pnt nb n r s.1 → Pnt nb n r (bIn c l s).1 ∧ (bIn c l s).1.getD x 0 = c
  | [], _, _, _, h2, h3 => ⟨h3, h2⟩
  | y :: l, s, hl, h, h2, h3 => by
    rw [bIn]
    obtain ⟨hy, hyx⟩ := hl y (by simp)
    have h' := h.step hc hy
    have hyl : y < s.1.length := by rw [h.len]; exact hy
    refine bIn_pnt nb hc hx l _ (fun z hz => hl z (by simp [hz])) h' ?_ ?_
    · split
      · rename_i hlt
        show (s.1.set y (c + 1)).getD x 0 = c
        rw [getD_set _ _ _ _ hyl, if_neg (fun e => by subst e; omega), h2]
      · exact h2
    · split
      · rename_i hlt
        intro z hz h0
        have hz0 : (s.1.set y (c + 1)).getD z 0 = if y = z then c + 1 else s.1.getD z 0 := getD_set _ _ _ _ hyl
        show z = r ∨ ∃ x, x < n ∧ z ∈ nb x ∧ 0 ≤ (s.1.set y (c + 1)).getD x 0 ∧ (s.1.set y (c + 1)).getD z 0 = (s.1.set y (c + 1)).getD x 0 + 1
        by_cases e : y = z
        · subst e
          right
          refine ⟨x, hx, hyx, ?_, ?_⟩
          · rw [getD_set _ _ _ _ hyl, if_neg (fun e => by subst e; omega), h2]; omega
          · rw [getD_set _ _ _ _ hyl, getD_set _ _ _ _ hyl, if_pos rfl, if_neg (fun e => by subst e; omega), h2]
        · rw [if_neg e] at hz0
          have h0' : 0 ≤ s.1.getD z 0 := by rw [← hz0]; exact h0
          rcases h3 z hz h0' with h4 | ⟨w, hw, h5, h6, h7⟩
          · exact .inl h4
          · right
            refine ⟨w, hw, h5, ?_, ?_⟩
            · rw [getD_set _ _ _ _ hyl, if_neg (fun e => by subst e; omega)]; exact h6
            · rw [hz0, getD_set _ _ _ _ hyl, if_neg (fun e => by subst e; omega)]; exact h7
      · exact h3
theorem bGo_pnt (nb : Nat → List Nat) {n r : Nat} (hnb : ∀ x, x < n → ∀ z ∈ nb x, z < n) : ∀ (d i : Nat) (s : List Int × List Nat), i + d = n → BInv n i s → Pnt nb n r s.1 → 0 ≤ s.1.getD r 0 → r < n → Pnt nb n r (bGo nb d i s).1 ∧ (bGo nb d i s).1.getD r 0 = s.1.getD r 0
  | 0, _, _, _, _, h, _, _ => ⟨h, rfl⟩
  | d + 1, i, s, hi, hinv, h, hr, hrn => by
    rw [bGo]
    cases hw : s.2[i]? with
    | none => exact ⟨h, rfl⟩
    | some w =>
      dsimp only
      have hwn : w < n := hinv.lt _ (List.mem_of_getElem? hw)
      have hc0 := (hinv.got w hwn).2 (List.mem_of_getElem? hw)
      have hci := hinv.le w hwn
      have hc : 0 ≤ s.1.getD w 0 ∧ s.1.getD w 0 + 1 ≤ ((i + 1 : Nat) : Int) := ⟨hc0, by omega⟩
      have hinv' := BInv.inn hc (nb w) s (hnb w hwn) (hinv.mono (by omega))
      obtain ⟨h1, h2⟩ := bIn_pnt nb (r := r) hc hwn (nb w) s (fun y hy => ⟨hnb w hwn y hy, hy⟩) (hinv.mono (by omega)) rfl h
      have hk : ∀ (l : List Nat) (t : List Int × List Nat), (∀ y ∈ l, y < n) → BInv n (i + 1) t → 0 ≤ t.1.getD r 0 → (bIn (s.1.getD w 0) l t).1.getD r 0 = t.1.getD r 0 := by
        intro l
        induction l with
        | nil => intro t _ _ _; rfl
        | cons y l ihl =>
          intro t hl ht h0
          rw [bIn]
          have hy := hl y (by simp)
          have hyl : y < t.1.length := by rw [ht.len]; exact hy
          have e : (if t.1.getD y 0 < 0 then (t.1.set y (s.1.getD w 0 + 1), t.2 ++ [y]) else t).1.getD r 0 = t.1.getD r 0 := by
            split
            · show (t.1.set y (s.1.getD w 0 + 1)).getD r 0 = _
              rw [getD_set _ _ _ _ hyl, if_neg (fun e => by subst e; omega)]
            · rfl
          rw [ihl _ (fun z hz => hl z (by simp [hz])) (ht.step hc hy) (by rw [e]; exact h0), e]
      have hr' := hk (nb w) s (hnb w hwn) (hinv.mono (by omega)) hr
      obtain ⟨h3, h4⟩ := bGo_pnt nb hnb d (i + 1) _ (by omega) hinv' h1 (by rw [hr']; exact hr) hrn
      exact ⟨h3, by rw [h4, hr']⟩
theorem bInit_get {n r y : Nat} (hr : r < n) (hy : y < n) : (bInit n r).1.getD y 0 = if r = y then 0 else -1 := by
  unfold bInit
  rw [getD_set _ _ _ _ (by simpa using hr)]
  split
  · rfl
  · simp [List.getD, List.getElem?_replicate, hy]
theorem bfs_pnt (nb : Nat → List Nat) {n r : Nat} (hr : r < n) (hnb : ∀ x, x < n → ∀ z ∈ nb x, z < n) : Pnt nb n r (bfs nb n r) ∧ (bfs nb n r).getD r 0 = 0 ∧ ∀ y, y < n → (bfs nb n r).getD y 0 ≤ (n : Int) := by
  have hi := bInit_inv hr
  obtain ⟨h1, h2⟩ := bGo_pnt nb (r := r) hnb n 0 (bInit n r) (by omega) hi (fun y hy h0 => by
    rw [bInit_get hr hy] at h0
    split at h0
    · rename_i e; exact .inl e.symm
    · omega) (by rw [bInit_get hr hr, if_pos rfl]; omega) hr
  rw [bInit_get hr hr, if_pos rfl] at h2
  obtain ⟨a1, a2, a3⟩ := bGo_closed nb n hnb n 0 (bInit n r) (by omega) hi (Nat.zero_le _) (fun k x hk => by omega)
  exact ⟨h1, h2, a1.le⟩
theorem perm_of_sub {α : Type} [DecidableEq α] : ∀ (P S : List α), P.Nodup → (∀ v ∈ P, v ∈ S) → S.length ≤ P.length → S.Perm P
  | [], S, _, _, h => by
    have : S = [] := List.length_eq_zero_iff.1 (by simpa using h)
    rw [this]
  | x :: P, S, hP, h, hl => by
    rw [List.nodup_cons] at hP
    have hx := h x (by simp)
    have := perm_of_sub P (S.erase x) hP.2 (fun v hv => by
      rw [List.mem_erase_of_ne (fun e => hP.1 (by rw [← e]; exact hv))]
      exact h v (by simp [hv])) (by rw [List.length_erase_of_mem hx]; simp at hl; omega)
    exact (List.perm_cons_erase hx).trans (this.cons x)
structure Rtd (l : List (Int × Int)) (n r : Nat) (ρ : Int → Nat) : Prop where
  root : ρ (r : Int) = 0
  up : ∀ y : Nat, y < n → y ≠ r → ∃ u, u ∈ rowE l (y : Int) ∧ ρ (y : Int) = ρ u + 1
  le : ∀ y : Nat, y < n → ρ (y : Int) ≤ n
theorem Rtd.ori {l : List (Int × Int)} {n r : Nat} {ρ : Int → Nat} (h : Rtd l n r ρ) (hr : r < n) (hv : ∀ p ∈ l, validB (n : Int) p = true) (hl : l.length + 1 = n) : Ori l ρ n ∧ ∀ p ∈ l, ρ p.1 = ρ p.2 + 1 ∨ ρ p.2 = ρ p.1 + 1 := by
  have hup : ∀ y : Nat, y < n → y ≠ r → ∃ p ∈ l, chd ρ p = (y : Int) ∧ (ρ p.1 = ρ p.2 + 1 ∨ ρ p.2 = ρ p.1 + 1) := by
    intro y hy hyr
    obtain ⟨u, hu, e⟩ := h.up y hy hyr
    obtain ⟨p, hp, hE⟩ := rowE_mem.1 hu
    refine ⟨p, hp, chd_of hE (by omega), ?_⟩
    rcases hE with ⟨a, b⟩ | ⟨a, b⟩
    · rw [a, b]; exact .inl e
    · rw [a, b]; exact .inr e
  have hPnd : (((List.range n).filter fun y => decide (y ≠ r)).map fun y : Nat => (y : Int)).Nodup := by
    have h1 : ((List.range n).filter fun y => decide (y ≠ r)).Nodup := List.Pairwise.filter _ List.nodup_range
    exact List.Pairwise.map _ (fun a b hab => by omega) h1
  have hPl : n ≤ (((List.range n).filter fun y => decide (y ≠ r)).map fun y : Nat => (y : Int)).length + 1 := by
    rw [List.length_map]
    have h1 : (List.range n).Perm (r :: (List.range n).filter fun y => decide (y ≠ r)) := by
      refine (perm_of_sub _ _ ?_ ?_ ?_).symm
      · exact List.nodup_range
      · intro v hv'
        by_cases e : v = r
        · rw [e]; simp
        · have : v ∈ (List.range n).filter fun y => decide (y ≠ r) := List.mem_filter.2 ⟨hv', by simpa using e⟩
          simp only [List.mem_cons]; exact .inr this
      · rw [List.length_cons]
        have hnd : ((List.range n).filter fun y => decide (y ≠ r)).Nodup := List.Pairwise.filter _ List.nodup_range
        have := nodup_lt_len (n := n) (l := r :: (List.range n).filter fun y => decide (y ≠ r)) (by
          rw [List.nodup_cons]
          exact ⟨by simp, hnd⟩) (fun y hy => by
          rcases List.mem_cons.1 hy with rfl | hy
          · exact hr
          · exact List.mem_range.1 (List.mem_filter.1 hy).1)
        simpa using this
    have := h1.length_eq
    simp at this ⊢
    omega
  have hperm := perm_of_sub (((List.range n).filter fun y => decide (y ≠ r)).map fun y : Nat => (y : Int)) (l.map (chd ρ)) hPnd (fun v hv' => by
    obtain ⟨y, hy, rfl⟩ := List.mem_map.1 hv'
    obtain ⟨h1, h2⟩ := List.mem_filter.1 hy
    obtain ⟨p, hp, e, _⟩ := hup y (List.mem_range.1 h1) (by simpa using h2)
    rw [← e]; exact List.mem_map_of_mem hp) (by rw [List.length_map]; omega)
  have hnd : (l.map (chd ρ)).Nodup := hperm.nodup_iff.2 hPnd
  have hone : ∀ p ∈ l, ρ p.1 = ρ p.2 + 1 ∨ ρ p.2 = ρ p.1 + 1 := by
    intro p hp
    have hm : chd ρ p ∈ l.map (chd ρ) := List.mem_map_of_mem hp
    rw [hperm.mem_iff] at hm
    obtain ⟨y, hy, e⟩ := List.mem_map.1 hm
    obtain ⟨h1, h2⟩ := List.mem_filter.1 hy
    obtain ⟨q, hq, e2, h3⟩ := hup y (List.mem_range.1 h1) (by simpa using h2)
    have : p = q := inj_of_nodup hnd p hp q hq (by rw [e2, ← e])
    rw [this]; exact h3
  refine ⟨⟨fun p hp => by have := hone p hp; omega, hnd, fun p hp => ?_⟩, hone⟩
  have h1 := hv p hp
  rw [validB, decide_eq_true_eq] at h1
  have e1 : p.1 = ((p.1.toNat : Nat) : Int) := by omega
  have e2 : p.2 = ((p.2.toNat : Nat) : Int) := by omega
  rw [e1, e2]
  exact ⟨h.le _ (by omega), h.le _ (by omega)⟩
theorem rtd_of_bfs {l : List (Int × Int)} {n r : Nat} (hr : r < n) {nb : Nat → List Nat} (hnb : ∀ x, x < n → ∀ z ∈ nb x, z < n) (hE : ∀ x y : Nat, x < n → y ∈ nb x → (y : Int) ∈ rowE l (x : Int)) (hall : ∀ y, y < n → 0 ≤ (bfs nb n r).getD y 0) : Rtd l n r fun v => ((bfs nb n r).getD v.toNat 0).toNat := by
  obtain ⟨h1, h2, h3⟩ := bfs_pnt nb hr hnb
  refine ⟨by simp only [Int.toNat_natCast, h2]; rfl, fun y hy hyr => ?_, fun y hy => ?_⟩
  · rcases h1 y hy (hall y hy) with e | ⟨x, hx, h4, h5, h6⟩
    · exact absurd e hyr
    · refine ⟨(x : Int), rowE_sym (hE x y hx h4), ?_⟩
      simp only [Int.toNat_natCast]
      omega
  · have := h3 y hy
    simp only [Int.toNat_natCast]
    omega
theorem getD_at {o : List Int} {y : Nat} (h : y < o.length) : o.getD y 0 = o[y] := by simp [List.getD, List.getElem?_eq_getElem h]
theorem tree_rtd {n : Nat} {l : List (Int × Int)} (h : treeOk (n : Int) l = true) : ((1 ≤ n ∧ n ≤ 30) ∧ l.length + 1 = n) ∧ (∀ p ∈ l, validB (n : Int) p = true) ∧ ∀ r, r < n → Rtd l n r fun v => ((bfs (fun y => (adjOf n l).getD y []) n r).getD v.toNat 0).toNat := by
  rw [treeOk, Bool.and_eq_true, decide_eq_true_eq] at h
  obtain ⟨⟨⟨⟨a, b⟩, c⟩, d⟩, e⟩ := h
  have hv := List.all_eq_true.1 d
  refine ⟨⟨⟨by omega, by omega⟩, by omega⟩, hv, fun r hr => ?_⟩
  have hA := adjOf_inv hv
  have hnb : ∀ x, x < n → ∀ z ∈ (adjOf n l).getD x [], z < n := by
    intro x hx z hz
    have e : (adjOf n l).getD x [] = (adjOf n l)[x]'(by rw [hA.len]; exact hx) := by simp [List.getD, List.getElem?_eq_getElem (show x < (adjOf n l).length by rw [hA.len]; exact hx)]
    rw [e] at hz
    exact (hA.row _ (List.getElem_mem _)).2 z hz
  have hE : ∀ x y : Nat, x < n → (y ∈ (adjOf n l).getD x [] ↔ (y : Int) ∈ rowE l (x : Int)) := by
    intro x y hx
    obtain ⟨r, h1, h2⟩ := adjOf_row hv hx
    have e : (adjOf n l).getD x [] = r := by simp [List.getD, h1]
    rw [e, ← h2, rowI, List.mem_map]
    constructor
    · exact fun h => ⟨y, h, rfl⟩
    · rintro ⟨z, hz, e⟩
      have : z = y := by omega
      rw [← this]; exact hz
  refine rtd_of_bfs hr hnb (fun x y hx hy => (hE x y hx).1 hy) ?_
  rw [farOk, decide_eq_true_eq, Int.toNat_natCast, farF, hA.len] at e
  -- all are reached from 0
  have hlen0 : (bfs (fun y => (adjOf n l).getD y []) n 0).length = n := bfs_len _ n 0
  have h0 : ∀ y, y < n → 0 ≤ (bfs (fun y => (adjOf n l).getD y []) n 0).getD y 0 := by
    intro y hy
    obtain ⟨a1, a2, a3⟩ := bGo_closed (fun y => (adjOf n l).getD y []) n hnb n 0 (bInit n 0) (by omega) (bInit_inv (by omega)) (Nat.zero_le _) (fun k x hk => by omega)
    have hge := a1.ge y hy
    have hne : (bfs (fun y => (adjOf n l).getD y []) n 0).getD y 0 ≠ -1 := by
      intro h1
      apply e
      have hy2 : y < (bfs (fun y => (adjOf n l).getD y []) n 0).length := by omega
      have := getD_at hy2
      rw [← h1, this]; exact List.getElem_mem hy2
    unfold bfs at hne ⊢
    omega
  -- so from r
  obtain ⟨b1, b2, b3⟩ := bGo_closed (fun y => (adjOf n l).getD y []) n hnb n 0 (bInit n r) (by omega) (bInit_inv hr) (Nat.zero_le _) (fun k x hk => by omega)
  have hsym : ∀ x y, x < n → y < n → y ∈ (adjOf n l).getD x [] → x ∈ (adjOf n l).getD y [] := fun x y hx hy h => (hE y x hy).2 (rowE_sym ((hE x y hx).1 h))
  obtain ⟨p1, p2, p3⟩ := bfs_pnt (fun y => (adjOf n l).getD y []) (r := 0) (by omega) hnb
  -- going up from r to 0
  have hr2 : r ∈ (bGo (fun y => (adjOf n l).getD y []) n 0 (bInit n r)).2 := b2 r (by simp [bInit])
  have up : ∀ (k y : Nat), y < n → ((bfs (fun y => (adjOf n l).getD y []) n 0).getD y 0).toNat ≤ k → y ∈ (bGo (fun y => (adjOf n l).getD y []) n 0 (bInit n r)).2 → 0 ∈ (bGo (fun y => (adjOf n l).getD y []) n 0 (bInit n r)).2 := by
    intro k
    induction k with
    | zero =>
      intro y hy hk hm
      rcases p1 y hy (h0 y hy) with e | ⟨x, hx, h4, h5, h6⟩
      · subst e; exact hm
      · omega
    | succ k ih =>
      intro y hy hk hm
      rcases p1 y hy (h0 y hy) with e | ⟨x, hx, h4, h5, h6⟩
      · subst e; exact hm
      · exact ih x hx (by omega) (b3 y hm x (hsym x y hx hy h4))
  have h00 := up _ r hr (Nat.le_refl _) hr2
  have down : ∀ (k y : Nat), y < n → ((bfs (fun y => (adjOf n l).getD y []) n 0).getD y 0).toNat ≤ k → y ∈ (bGo (fun y => (adjOf n l).getD y []) n 0 (bInit n r)).2 := by
    intro k
    induction k with
    | zero =>
      intro y hy hk
      rcases p1 y hy (h0 y hy) with e | ⟨x, hx, h4, h5, h6⟩
      · rw [e]; exact h00
      · omega
    | succ k ih =>
      intro y hy hk
      rcases p1 y hy (h0 y hy) with e | ⟨x, hx, h4, h5, h6⟩
      · rw [e]; exact h00
      · exact b3 x (ih x hx (by omega)) y h4
  intro y hy
  exact (b1.got y hy).2 (down _ y hy (Nat.le_refl _))
end Go.Proofs.Ytmhfkhlamnapdaa
end
section
open Go Go.HL
namespace Go.Proofs.Ytmhfkhlamnapdaa
theorem tmF_permD {row row' : Int → List Int} {D : Int → Prop} (h : ∀ v, D v → (row v).Perm (row' v) ∧ ∀ u ∈ row v, D u) : ∀ (k : Nat) (v w : Int), D v → tmF row k v w = tmF row' k v w
  | 0, _, _, _ => rfl
  | k + 1, v, w, hD => by
    rw [tmF, tmF]
    congr 1
    refine dsort_eq ?_
    have e : ((keep w (row v)).map fun u => tmF row k u v) = (keep w (row v)).map fun u => tmF row' k u v := List.map_congr_left fun u hu => tmF_permD h k u v ((h v hD).2 u (keep_mem.1 hu).1)
    rw [e]
    exact ((h v hD).1.filter _).map _
theorem valid_all {n : Nat} {l : List (Int × Int)} (hv : ∀ p ∈ l, validB (n : Int) p = true) : (l.all fun p => decide ((0 ≤ p.1 ∧ p.1 < (n : Int)) ∧ (0 ≤ p.2 ∧ p.2 < (n : Int)))) = true := List.all_eq_true.2 fun p hp => by
  have := hv p hp
  rw [validB, decide_eq_true_eq] at this
  exact decide_eq_true ⟨this.1, this.2.1⟩
theorem rowE_len (l : List (Int × Int)) (x : Int) : (rowE l x).length ≤ l.length := List.length_filterMap_le _ _
theorem ori_time {n : Nat} {l : List (Int × Int)} {ρ : Int → Nat} {M : Nat} (hn : n ≤ 30) (hl : l.length ≤ 39) (hv : ∀ p ∈ l, validB (n : Int) p = true) (hO : Ori l ρ M) (hM : M ≤ 70) {x w : Int} (hG : Gd l n x w) (hx : ρ x ≤ M) :
    TimeOk (adjOf n l) (tm (rowE l)) n x w ∧ RT n l (tm (nbrs n l)) x w ∧ tm (nbrs n l) x w = tm (rowE l) x w := by
  have hmu := mu_le l ρ M x w hx
  have hA := adjOf_inv hv
  refine ⟨?_, ?_, ?_⟩
  · have := timeOk_all (adj := adjOf n l) (hO.msr hv) (fun v => by have := rowE_len l v; omega) (fun v w hG => by
      obtain ⟨⟨h1, h2⟩, _⟩ := hG
      obtain ⟨r, h3, h4⟩ := adjOf_row hv (x := v.toNat) (by omega)
      have e : ((v.toNat : Nat) : Int) = v := by omega
      rw [e] at h4
      exact ⟨v.toNat, r, e.symm, h3, h4⟩) 150 x w hG (by omega) (by omega)
    rw [hA.len] at this
    exact this
  · have hM2 : Msr (nbrs ((n : Int)).toNat l) (Gd l n) (mu l ρ M) := ⟨fun v w hG u hu => (hO.msr hv).step v w hG u (by
      rw [Int.toNat_natCast] at hu
      obtain ⟨h1, h2⟩ := keep_mem.1 hu
      exact keep_mem.2 ⟨(nbrs_row hv hG.1.1 u).1 h1, h2⟩)⟩
    have := rt_all (n := (n : Int)) (l := l) ⟨by omega, by omega⟩ (valid_all hv) hM2 (fun v => by have := nbrs_len n l v; rw [Int.toNat_natCast]; omega) 150 x w hG (by omega) (by omega)
    rw [Int.toNat_natCast] at this
    exact this
  · exact tmF_permD (D := fun v => 0 ≤ v) (fun v hv0 => ⟨nbrs_perm hv hO hv0, fun u hu => (valid_row hv ((nbrs_row hv hv0 u).1 hu)).1⟩) 200 x w hG.1.1
theorem tree_time {n : Nat} {l : List (Int × Int)} (h : treeOk (n : Int) l = true) {x : Int} (hx : 0 ≤ x ∧ x < (n : Int)) :
    TimeOk (adjOf n l) (tm (rowE l)) n x (-1) ∧ RT n l (tm (nbrs n l)) x (-1) ∧ tm (nbrs n l) x (-1) = tm (rowE l) x (-1) := by
  obtain ⟨⟨hn, hl⟩, hv, hr⟩ := tree_rtd h
  have hR := hr 0 (by omega)
  obtain ⟨hO, _⟩ := hR.ori (by omega) hv hl
  refine ori_time (by omega) (by omega) hv hO (by omega) ⟨hx, .inl rfl⟩ ?_
  obtain ⟨a, rfl⟩ : ∃ a : Nat, x = (a : Int) := ⟨x.toNat, by omega⟩
  exact hR.le a (by omega)
end Go.Proofs.Ytmhfkhlamnapdaa
end
section
open Go Go.HL
namespace Go.Proofs.Ytmhfkhlamnapdaa
set_option maxRecDepth 100000
noncomputable def B40 : Code := Try.f40.body.getD .skip
abbrev env40 (v0 v1 v2 v6 : HV) : Env := [(0, v0), (1, v1), (2, v2), (6, v6)]
theorem rq_a_0 (N : Nat) (n : Int) (lc : List HV) (x : Int) (H : Heap) (t : Int) (H0 : Heap) (g0 : ∀ kf, N ≤ kf → callN Try.prog polN (kf + 1) 57 [.i n, .imm .arg 2 lc, .i x, .i (-1)] H = some (.i t, H0)) : RunsTo Try.prog polN 40 (sub [] B40) [(0, .i n), (1, .imm .arg 2 lc), (2, .i x)] H .ret (polN.keys 40) (env40 (.i n) (.imm .arg 2 lc) (.i x) (.i t)) H0 :=
  RunsTo.hin N 60 [⟨1, 3, .i t, H0⟩] fun kf hk => ⟨_, by kernel_rfl, (oC (g0 kf (by omega)) .nil)⟩
end Go.Proofs.Ytmhfkhlamnapdaa
end
section
open Go Go.HL
namespace Go.Proofs.Ytmhfkhlamnapdaa
theorem res40 : Try.f40.results.toList = [.tmp 6] := by kernel_rfl
def time40 : List HV → Option HV
  | [.int .i64 n, .imm .arg 2 lc, .int .i64 x] => match mapO decP lc with | some l => if treeOk n l = true ∧ (0 ≤ x ∧ x < n) then some (.int .i64 (tm (rowE l) x (-1))) else none | none => none
  | _ => none
theorem time40_ok : PrimOk Try.prog 40 time40 := by
  refine primOk_pure (pol := polN) (fn := Try.f40) (cd := B40) follows_mixed soundN (by kernel_rfl) (by kernel_rfl) (fnok polN.prim _ _ (by kernel_rfl)) (by kernel_rfl) ?_
  intro args res h
  unfold time40 at h
  split at h
  · rename_i n lc x
    split at h
    · rename_i l hl
      split at h
      · rename_i hg
        cases h
        rw [mapO_inv decP_inv hl]
        obtain ⟨h1, h2⟩ := hg
        obtain ⟨m, rfl⟩ : ∃ m : Nat, n = (m : Int) := ⟨n.toNat, by omega⟩
        obtain ⟨_, hR, he⟩ := tree_time h1 h2
        obtain ⟨N, hN⟩ := hR []
        rw [he] at hN
        have t := rq_a_0 N (m : Int) (l.map encP) x [] _ [] (fun kf hk => hN (kf + 1) (by omega))
        exact ⟨_, _, _, .int .i64 (tm (rowE l) x (-1)), t, by simp, by simp only [resultsV, res40, mapO, resultV]; rfl, rfl⟩
      · cases h
    · cases h
  · cases h
end Go.Proofs.Ytmhfkhlamnapdaa
end
section
open Go Go.HL
namespace Go.Proofs.Ytmhfkhlamnapdaa
theorem res_out {H : Heap} {b k : Nat} {o : List Int} (hb : H[b]? = some (bI o)) (hk : o.length = k) (vs : List Int) : toRes H false (.tuple (.sl b 0 k none k 1 :: vs.map encI)) = some (.tuple (.own 1 (o.map encI) :: vs.map encI)) := by
  have hi : ∀ vs : List Int, (vs.map encI).flatMap (fun v => (cellsOf v).flatMap (owned H false)) = [] := by
    intro vs
    rw [List.flatMap_eq_nil_iff]
    intro v hv
    obtain ⟨z, _, rfl⟩ := List.mem_map.1 hv
    rfl
  have ho : ownedAll H false (.tuple (.sl b 0 k none k 1 :: vs.map encI)) = [b] := by
    have e1 : (cellsOf (.sl b 0 k none k 1)).flatMap (owned H false) = [b] := by
      simp only [cellsOf, List.flatMap_cons, List.flatMap_nil, owned, hb]
      rfl
    simp only [ownedAll, List.flatMap_cons, hi, e1, List.append_nil]
  have hr := resCell_sl (H := H) (no := [b]) (b := b) (k := 1) (m := k) (cap := none) (els := o.map encI) hb (by simpa using hk) (mapO_self (fun r => frz_int 4 r) _)
  have hm : mapO (resVal H [b] false) (vs.map encI) = some (vs.map encI) := mapO_self (f := resVal H [b] false) (g := encI) (fun _ => rfl) vs
  have hr1 : resVal H [b] false (.sl b 0 k none k 1) = some (.own 1 (o.map encI)) := by simp only [resVal, hr]
  simp only [toRes, ho, List.nodup_cons, List.not_mem_nil, not_false_eq_true, List.nodup_nil, and_self, if_true, mapO, hr1, hm]
end Go.Proofs.Ytmhfkhlamnapdaa
end
section
open Go Go.HL
namespace Go.Proofs.Ytmhfkhlamnapdaa
theorem s46_ok {n : Nat} {l : List (Int × Int)} (hg : ((1 ≤ (n : Int) ∧ (n : Int) ≤ 30) ∧ (l.length : Int) = (n : Int) - 1) ∧ l.all (validB (n : Int)) = true) (b : Bool) (hb : farOk (adjOf n l) = b) : ∀ kf, callN Try.prog polS (kf + 1) 46 [.int .i64 (n : Int), .imm .arg 2 (l.map encP)] [] = some (.tuple [TV n, .bool b], [.arr 1 ((adjOf n l).map rowO) true 0, .map [] [] 0]) := fun kf => by
  have hl : (adjOf n l).length = n := (adjOf_inv (List.all_eq_true.1 hg.2)).len
  rw [prim_call (pol := polS) (g := 46) (F := newTree46) (by kernel_rfl) (rs := [.int .i64 (n : Int), .imm .arg 2 (l.map encP)]) (by simp only [mapO, arg_pairs']; rfl) (res := .tuple [treeV (adjOf n l), .bool b]) (by simp only [newTree46, mapO_map decP_enc]; rw [newTreeF, if_pos hg, Int.toNat_natCast, hb])]
  have hno := rowO_any (adjOf n l)
  simp only [recv, recvVals, recvVal, treeV, recvCells, recvCell, hno, List.length_map, hl]
  rfl
theorem s46_bad {n : Int} {l : List (Int × Int)} (hg : ¬ (((1 ≤ n ∧ n ≤ 30) ∧ (l.length : Int) = n - 1) ∧ l.all (validB n) = true)) : ∀ kf, callN Try.prog polS (kf + 1) 46 [.int .i64 n, .imm .arg 2 (l.map encP)] [] = some (.tuple [.agg [.sl 0 0 0 none 0 0, .nilmap], .bool false], [.arr 0 [] true 0]) := fun kf => by
  rw [prim_call (pol := polS) (g := 46) (F := newTree46) (by kernel_rfl) (rs := [.int .i64 n, .imm .arg 2 (l.map encP)]) (by simp only [mapO, arg_pairs']; rfl) (res := .tuple [.agg [.own 0 [], .nilmap], .bool false]) (by simp only [newTree46, mapO_map decP_enc]; rw [newTreeF, if_neg hg])]
  rfl
theorem same_rows (adj : List (List Nat)) : sameH [.arr 1 (adj.map rowO) true 0] [.arr 1 (adj.map rowO) true 0] = true := same_arr fun v hv => by
  obtain ⟨r, _, rfl⟩ := List.mem_map.1 hv
  have : sameL (r.map encN) (r.map encN) = true := sameL_all fun v hv => by
    obtain ⟨k, _, rfl⟩ := List.mem_map.1 hv
    simp [encN, encI, same]
  simp [rowO, same, this]
theorem mem_start (adj : List (List Nat)) (T : Int → Int → Int) : Mem adj T [.arr 1 (adj.map rowO) true 0, .map [] [] 0] := by
  refine ⟨rfl, ⟨[], rfl⟩, ?_, by simp [mxs, Blk.mx]⟩
  have := same_rows adj
  simp only [sameH, Bool.and_eq_true] at this ⊢
  simp [this.1.1.1.2, sameL]
end Go.Proofs.Ytmhfkhlamnapdaa
end
section
open Go Go.HL
namespace Go.Proofs.Ytmhfkhlamnapdaa
theorem res24 : Try.f24.results.toList = [.tmp 6, .tmp 7] := by kernel_rfl
theorem res25 : Try.f25.results.toList = [.tmp 6, .tmp 7] := by kernel_rfl
def timeF (n : Int) (l : List (Int × Int)) (x : Int) : Int × Int := if treeOk n l = true ∧ (0 ≤ x ∧ x ≤ n - 1) then (tm (rowE l) x (-1), 0) else (0, 2)
def time24 : List HV → Option HV
  | [.int .i64 n, .imm .arg 2 lc, .int .i64 x] => match mapO decP lc with | some l => some (.tuple [.int .i64 (timeF n l x).1, .int .i64 (timeF n l x).2]) | none => none
  | _ => none
def pfarF (n : Int) (l : List (Int × Int)) (x : Int) : List Int × Int := if treeOk n l = true ∧ (0 ≤ x ∧ x ≤ n - 1) then (farF (adjOf n.toNat l) x.toNat, 0) else ([], 2)
def far25 : List HV → Option HV
  | [.int .i64 n, .imm .arg 2 lc, .int .i64 x] => match mapO decP lc with | some l => some (.tuple [.own 1 ((pfarF n l x).1.map encI), .int .i64 (pfarF n l x).2]) | none => none
  | _ => none
theorem s49 (a b : Int) (H : Heap) (r : Bool) (h : decide (0 ≤ a ∧ a ≤ b) = r) : ∀ kf, callN Try.prog polS (kf + 1) 49 [.int .i64 a, .int .i64 0, .int .i64 b] H = some (.bool r, H) := fun kf => by
  rw [prim_call (pol := polS) (g := 49) (F := withinF) (by kernel_rfl) (rs := [.int .i64 a, .int .i64 0, .int .i64 b]) rfl (res := .bool r) (by rw [← h]; rfl)]; rfl
theorem s50 {n : Nat} {l : List (Int × Int)} (hn : n ≤ 30) (hl : l.length ≤ 40) (hv : ∀ p ∈ l, validB (n : Int) p = true) {x : Int} (hx : 0 ≤ x ∧ x < (n : Int)) : ∀ kf, callN Try.prog polS (kf + 1) 50 [TV n, .int .i64 x] [.arr 1 ((adjOf n l).map rowO) true 0, .map [] [] 0, boxT n] = some (.sl 3 0 n none n 1, [.arr 1 ((adjOf n l).map rowO) true 0, .map [] [] 0, boxT n, bI (farF (adjOf n l) x.toNat)]) := fun kf => by
  have hA := adjOf_inv hv
  have hrow : ∀ rs : List (List Nat), mapO (toArg [.arr 1 ((adjOf n l).map rowO) true 0, .map [] [] 0, boxT n] 4) (rs.map rowO) = some (rs.map encR) := by
    intro rs
    induction rs with
    | nil => rfl
    | cons r rs ih =>
      have e : toArg [.arr 1 ((adjOf n l).map rowO) true 0, .map [] [] 0, boxT n] 4 (rowO r) = some (encR r) := by
        show (match argPL (r.map encN) with | some l => some (HV.imm .arg 1 l) | none => none) = _
        rw [rowI_enc, argP_ints', encR, rowI_enc]
      simp only [List.map_cons, mapO, e, ih]
  have ha : toArg [.arr 1 ((adjOf n l).map rowO) true 0, .map [] [] 0, boxT n] 6 (TV n) = some (.agg [.imm .arg 1 ((adjOf n l).map encR), .imap .arg [] []]) := by
    have e : toArg [.arr 1 ((adjOf n l).map rowO) true 0, .map [] [] 0, boxT n] 6 (TV n) = match mapO (toArg [.arr 1 ((adjOf n l).map rowO) true 0, .map [] [] 0, boxT n] 5) [.sl 0 0 n none n 1, .map 1] with | some l => some (.agg l) | none => none := rfl
    have e1 : toArg [.arr 1 ((adjOf n l).map rowO) true 0, .map [] [] 0, boxT n] 5 (.sl 0 0 n none n 1) = some (.imm .arg 1 ((adjOf n l).map encR)) := by
      have e : toArg [.arr 1 ((adjOf n l).map rowO) true 0, .map [] [] 0, boxT n] 5 (.sl 0 0 n none n 1) = if n = 0 then some (.imm .arg 1 []) else match view [.arr 1 ((adjOf n l).map rowO) true 0, .map [] [] 0, boxT n] 0 0 n n 1 with | some l' => (match mapO (toArg [.arr 1 ((adjOf n l).map rowO) true 0, .map [] [] 0, boxT n] 4) l' with | some l => some (.imm .arg 1 l) | none => none) | none => none := rfl
      have hv : view [.arr 1 ((adjOf n l).map rowO) true 0, .map [] [] 0, boxT n] 0 0 n n 1 = some ((adjOf n l).map rowO) := by
        have h0 : ([.arr 1 ((adjOf n l).map rowO) true 0, .map [] [] 0, boxT n] : Heap)[0]? = some (.arr 1 ((adjOf n l).map rowO) true 0) := rfl
        simp only [view, h0, List.length_map, hA.len]
        rw [if_pos ⟨trivial, by omega, trivial⟩, List.drop_zero, List.take_of_length_le (by rw [List.length_map, hA.len]; omega)]
      rw [e, if_neg (by omega), hv]
      simp only [hrow]
    have e2 : toArg [.arr 1 ((adjOf n l).map rowO) true 0, .map [] [] 0, boxT n] 5 (.map 1) = some (.imap .arg [] []) := rfl
    rw [e]
    simp only [mapO, e1, e2]
  have hok : rowsOk (adjOf n l) = true := rowsOk_iff.2 fun r hr => by
    have := hA.row r hr
    rw [hA.len]
    exact ⟨by omega, this.2⟩
  rw [prim_call (pol := polS) (g := 50) (F := far50) (by kernel_rfl) (rs := [.agg [.imm .arg 1 ((adjOf n l).map encR), .imap .arg [] []], .int .i64 x]) (by simp only [mapO, ha]; rfl) (res := .own 1 ((farF (adjOf n l) x.toNat).map encI)) (by
    simp only [far50, mapO_map decR_enc]
    rw [if_pos ⟨⟨by rw [hA.len]; omega, hok⟩, hx.1, by rw [hA.len]; exact hx.2⟩]), recv_ints]
  have hlen : (farF (adjOf n l) x.toNat).length = n := by rw [farF, bfs_len]; exact hA.len
  rw [hlen]
  rfl
theorem time24_ok : PrimOk Try.prog 24 time24 := by
  refine primOk_pure (pol := polS) (fn := Try.f24) (cd := B24) follows_mixed soundS (by kernel_rfl) (by kernel_rfl) (fnok polS.prim _ _ (by kernel_rfl)) (by kernel_rfl) ?_
  intro args res h
  unfold time24 at h
  split at h
  · rename_i n lc x
    split at h
    · rename_i l hl
      cases h
      rw [mapO_inv decP_inv hl]
      have a := tg_a_0 0 n (l.map encP) x
      by_cases hg : ((1 ≤ n ∧ n ≤ 30) ∧ (l.length : Int) = n - 1) ∧ l.all (validB n) = true
      · obtain ⟨m, rfl⟩ : ∃ m : Nat, n = (m : Int) := ⟨n.toNat, by omega⟩
        have hw : IntKind.i64.wrap ((m : Int) - 1) = (m : Int) - 1 := by rw [wrapI64]; omega
        cases hb : farOk (adjOf m l) with
        | true =>
          have hok : treeOk (m : Int) l = true := by rw [treeOk, Bool.and_eq_true, decide_eq_true_eq]; exact ⟨hg, by rw [Int.toNat_natCast]; exact hb⟩
          have b := tg_b_0 0 (m : Int) (l.map encP) x m _ (s46_ok hg true hb)
          by_cases hx : 0 ≤ x ∧ x ≤ (m : Int) - 1
          · have hF : timeF (m : Int) l x = (tm (rowE l) x (-1), 0) := by rw [timeF, if_pos ⟨hok, hx⟩]
            rw [hF]
            have c := tg_c_0 0 (m : Int) (l.map encP) x m ((adjOf m l).map rowO) (by rw [hw]; exact s49 _ _ _ true (decide_eq_true hx))
            have hM : Mem (adjOf m l) (tm (rowE l)) [.arr 1 ((adjOf m l).map rowO) true 0, .map [] [] 0, boxT m] := (mem_start (adjOf m l) (tm (rowE l))).app (same_T m) (by show 2 ≤ _; simp)
            obtain ⟨H1, hcl, _⟩ := (tree_time hok (x := x) (by omega)).1 _ hM
            obtain ⟨N, hN⟩ := hcl.from
            have z := tg_z_0 N (m : Int) (l.map encP) x m ((adjOf m l).map rowO) _ H1 hN
            have t1 := RunsTo.seq c z (c := sub [1, 1] B24) (by kernel_rfl) (by kernel_rfl)
            have t2 := RunsTo.seq b t1 (c := sub [1] B24) (by kernel_rfl) (by kernel_rfl)
            exact ⟨_, _, _, _, RunsTo.seq a t2 (c := B24) (by kernel_rfl) (by kernel_rfl), by simp, by simp only [resultsV, res24, mapO, resultV]; rfl, rfl⟩
          · have hF : timeF (m : Int) l x = (0, 2) := by rw [timeF, if_neg (fun h => hx h.2)]
            rw [hF]
            have c := tg_c_1 0 (m : Int) (l.map encP) x m ((adjOf m l).map rowO) (by rw [hw]; exact s49 _ _ _ false (decide_eq_false hx))
            have t2 := RunsTo.seq b (RunsTo.seq_out c (by simp) (c := sub [1, 1] B24) (b := sub [1, 1, 1] B24) (by kernel_rfl)) (c := sub [1] B24) (by kernel_rfl) (by kernel_rfl)
            exact ⟨_, _, _, _, RunsTo.seq a t2 (c := B24) (by kernel_rfl) (by kernel_rfl), by simp, by simp only [resultsV, res24, mapO, resultV]; rfl, rfl⟩
        | false =>
          have hok : ¬ treeOk (m : Int) l = true := by rw [treeOk, Bool.and_eq_true, Int.toNat_natCast, hb]; simp
          have hF : timeF (m : Int) l x = (0, 2) := by rw [timeF, if_neg (fun h => hok h.1)]
          rw [hF]
          have b := tg_b_1 0 (m : Int) (l.map encP) x m _ (s46_ok hg false hb)
          have c := tg_cf_0 0 (m : Int) (l.map encP) x m ((adjOf m l).map rowO)
          have t2 := RunsTo.seq b (RunsTo.seq_out c (by simp) (c := sub [1, 1] B24) (b := sub [1, 1, 1] B24) (by kernel_rfl)) (c := sub [1] B24) (by kernel_rfl) (by kernel_rfl)
          exact ⟨_, _, _, _, RunsTo.seq a t2 (c := B24) (by kernel_rfl) (by kernel_rfl), by simp, by simp only [resultsV, res24, mapO, resultV]; rfl, rfl⟩
      · have hok : ¬ treeOk n l = true := by rw [treeOk, Bool.and_eq_true, decide_eq_true_eq]; exact fun h => hg h.1
        have hF : timeF n l x = (0, 2) := by rw [timeF, if_neg (fun h => hok h.1)]
        rw [hF]
        have b := tg_b_2 0 n (l.map encP) x (s46_bad hg)
        have c := tg_cb_0 0 n (l.map encP) x
        have t2 := RunsTo.seq b (RunsTo.seq_out c (by simp) (c := sub [1, 1] B24) (b := sub [1, 1, 1] B24) (by kernel_rfl)) (c := sub [1] B24) (by kernel_rfl) (by kernel_rfl)
        exact ⟨_, _, _, _, RunsTo.seq a t2 (c := B24) (by kernel_rfl) (by kernel_rfl), by simp, by simp only [resultsV, res24, mapO, resultV]; rfl, rfl⟩
    · cases h
  · cases h
theorem far25_ok : PrimOk Try.prog 25 far25 := by
  refine primOk_pure (pol := polS) (fn := Try.f25) (cd := B25) follows_mixed soundS (by kernel_rfl) (by kernel_rfl) (fnok polS.prim _ _ (by kernel_rfl)) (by kernel_rfl) ?_
  intro args res h
  unfold far25 at h
  split at h
  · rename_i n lc x
    split at h
    · rename_i l hl
      cases h
      rw [mapO_inv decP_inv hl]
      have a := fr_a_0 0 n (l.map encP) x
      by_cases hg : ((1 ≤ n ∧ n ≤ 30) ∧ (l.length : Int) = n - 1) ∧ l.all (validB n) = true
      · obtain ⟨m, rfl⟩ : ∃ m : Nat, n = (m : Int) := ⟨n.toNat, by omega⟩
        have hw : IntKind.i64.wrap ((m : Int) - 1) = (m : Int) - 1 := by rw [wrapI64]; omega
        cases hb : farOk (adjOf m l) with
        | true =>
          have hok : treeOk (m : Int) l = true := by rw [treeOk, Bool.and_eq_true, decide_eq_true_eq]; exact ⟨hg, by rw [Int.toNat_natCast]; exact hb⟩
          have b := fr_b_0 0 (m : Int) (l.map encP) x m _ (s46_ok hg true hb)
          by_cases hx : 0 ≤ x ∧ x ≤ (m : Int) - 1
          · have hF : pfarF (m : Int) l x = (farF (adjOf m l) x.toNat, 0) := by rw [pfarF, if_pos ⟨hok, hx⟩, Int.toNat_natCast]
            rw [hF]
            have c := fr_c_0 0 (m : Int) (l.map encP) x m ((adjOf m l).map rowO) (by rw [hw]; exact s49 _ _ _ true (decide_eq_true hx))
            have z := fr_z_0 0 (m : Int) (l.map encP) x m ((adjOf m l).map rowO) _ _ (s50 (by omega) (by omega) (List.all_eq_true.1 hg.2) (by omega))
            have hlen : (farF (adjOf m l) x.toNat).length = m := by rw [farF, bfs_len]; exact (adjOf_inv (List.all_eq_true.1 hg.2)).len
            have t1 := RunsTo.seq c z (c := sub [1, 1] B25) (by kernel_rfl) (by kernel_rfl)
            have t2 := RunsTo.seq b t1 (c := sub [1] B25) (by kernel_rfl) (by kernel_rfl)
            exact ⟨_, _, _, _, RunsTo.seq a t2 (c := B25) (by kernel_rfl) (by kernel_rfl), by simp, by simp only [resultsV, res25, mapO, resultV]; rfl, res_out (b := 3) rfl hlen [0]⟩
          · have hF : pfarF (m : Int) l x = ([], 2) := by rw [pfarF, if_neg (fun h => hx h.2)]
            rw [hF]
            have c := fr_c_1 0 (m : Int) (l.map encP) x m ((adjOf m l).map rowO) (by rw [hw]; exact s49 _ _ _ false (decide_eq_false hx))
            have t2 := RunsTo.seq b (RunsTo.seq_out c (by simp) (c := sub [1, 1] B25) (b := sub [1, 1, 1] B25) (by kernel_rfl)) (c := sub [1] B25) (by kernel_rfl) (by kernel_rfl)
            exact ⟨_, _, _, _, RunsTo.seq a t2 (c := B25) (by kernel_rfl) (by kernel_rfl), by simp, by simp only [resultsV, res25, mapO, resultV]; rfl, rfl⟩
        | false =>
          have hok : ¬ treeOk (m : Int) l = true := by rw [treeOk, Bool.and_eq_true, Int.toNat_natCast, hb]; simp
          have hF : pfarF (m : Int) l x = ([], 2) := by rw [pfarF, if_neg (fun h => hok h.1)]
          rw [hF]
          have b := fr_b_1 0 (m : Int) (l.map encP) x m _ (s46_ok hg false hb)
          have c := fr_cf_0 0 (m : Int) (l.map encP) x m ((adjOf m l).map rowO)
          have t2 := RunsTo.seq b (RunsTo.seq_out c (by simp) (c := sub [1, 1] B25) (b := sub [1, 1, 1] B25) (by kernel_rfl)) (c := sub [1] B25) (by kernel_rfl) (by kernel_rfl)
          exact ⟨_, _, _, _, RunsTo.seq a t2 (c := B25) (by kernel_rfl) (by kernel_rfl), by simp, by simp only [resultsV, res25, mapO, resultV]; rfl, rfl⟩
      · have hok : ¬ treeOk n l = true := by rw [treeOk, Bool.and_eq_true, decide_eq_true_eq]; exact fun h => hg h.1
        have hF : pfarF n l x = ([], 2) := by rw [pfarF, if_neg (fun h => hok h.1)]
        rw [hF]
        have b := fr_b_2 0 n (l.map encP) x (s46_bad hg)
        have c := fr_cb_0 0 n (l.map encP) x
        have t2 := RunsTo.seq b (RunsTo.seq_out c (by simp) (c := sub [1, 1] B25) (b := sub [1, 1, 1] B25) (by kernel_rfl)) (c := sub [1] B25) (by kernel_rfl) (by kernel_rfl)
        exact ⟨_, _, _, _, RunsTo.seq a t2 (c := B25) (by kernel_rfl) (by kernel_rfl), by simp, by simp only [resultsV, res25, mapO, resultV]; rfl, rfl⟩
    · cases h
  · cases h
end Go.Proofs.Ytmhfkhlamnapdaa
end
section
open Go Go.HL
namespace Go.Proofs.Ytmhfkhlamnapdaa
set_option maxRecDepth 100000
noncomputable def B31 : Code := Try.f31.body.getD .skip
abbrev env31 (v0 v1 v2 v6 v7 v8 v9 v10 v11 : HV) : Env := [(0, v0), (1, v1), (2, v2), (6, v6), (7, v7), (8, v8), (9, v9), (10, v10), (11, v11)]
theorem sfd_a_0 (N : Nat) (n : Int) (lc : List HV) (x : Int) : RunsTo Try.prog polS 31 (sub [0] B31) [(0, .i n), (1, .imm .arg 2 lc), (2, .i x)] [] .normal (polS.keys 31) (env31 (.i n) (.imm .arg 2 lc) (.i x) (.imm .lit 1 []) (.i 0) .undef .undef .undef .undef) [] :=
  RunsTo.hin N 60 [] fun kf hk => ⟨_, by kernel_rfl, .nil⟩
theorem sfd_b_0 (N : Nat) (n : Int) (lc : List HV) (x : Int) (m : Nat) (rows : List HV) (g0 : ∀ kf, callN Try.prog polS (kf + 1) 46 [.i n, .imm .arg 2 lc] [] = some (.tuple [.agg [.sl 0 0 m none m 1, .map 1], .bool true], [.arr 1 rows true 0, .map [] [] 0])) : RunsTo Try.prog polS 31 (sub [1, 0] B31) (env31 (.i n) (.imm .arg 2 lc) (.i x) (.imm .lit 1 []) (.i 0) .undef .undef .undef .undef) [] .normal (polS.keys 31) (env31 (.i n) (.imm .arg 2 lc) (.i x) (.imm .lit 1 []) (.i 0) (.ptr 2 0 0 1) (.bool true) .undef .undef) [.arr 1 rows true 0, .map [] [] 0, .arr 2 [.agg [.sl 0 0 m none m 1, .map 1]] true 2] :=
  RunsTo.hin N 60 [⟨1, 2, .tuple [.agg [.sl 0 0 m none m 1, .map 1], .bool true], [.arr 1 rows true 0, .map [] [] 0]⟩] fun kf hk => ⟨_, by kernel_rfl, (oC (g0 kf) .nil)⟩
theorem sfd_b_1 (N : Nat) (n : Int) (lc : List HV) (x : Int) (m : Nat) (rows : List HV) (g0 : ∀ kf, callN Try.prog polS (kf + 1) 46 [.i n, .imm .arg 2 lc] [] = some (.tuple [.agg [.sl 0 0 m none m 1, .map 1], .bool false], [.arr 1 rows true 0, .map [] [] 0])) : RunsTo Try.prog polS 31 (sub [1, 0] B31) (env31 (.i n) (.imm .arg 2 lc) (.i x) (.imm .lit 1 []) (.i 0) .undef .undef .undef .undef) [] .normal (polS.keys 31) (env31 (.i n) (.imm .arg 2 lc) (.i x) (.imm .lit 1 []) (.i 0) (.ptr 2 0 0 1) (.bool false) .undef .undef) [.arr 1 rows true 0, .map [] [] 0, .arr 2 [.agg [.sl 0 0 m none m 1, .map 1]] true 2] :=
  RunsTo.hin N 60 [⟨1, 2, .tuple [.agg [.sl 0 0 m none m 1, .map 1], .bool false], [.arr 1 rows true 0, .map [] [] 0]⟩] fun kf hk => ⟨_, by kernel_rfl, (oC (g0 kf) .nil)⟩
theorem sfd_b_2 (N : Nat) (n : Int) (lc : List HV) (x : Int)(g0 : ∀ kf, callN Try.prog polS (kf + 1) 46 [.i n, .imm .arg 2 lc] [] = some (.tuple [.agg [.sl 0 0 0 none 0 0, .nilmap], .bool false], [.arr 0 [] true 0])) : RunsTo Try.prog polS 31 (sub [1, 0] B31) (env31 (.i n) (.imm .arg 2 lc) (.i x) (.imm .lit 1 []) (.i 0) .undef .undef .undef .undef) [] .normal (polS.keys 31) (env31 (.i n) (.imm .arg 2 lc) (.i x) (.imm .lit 1 []) (.i 0) (.ptr 1 0 0 1) (.bool false) .undef .undef) [.arr 0 [] true 0, .arr 2 [.agg [.sl 0 0 0 none 0 0, .nilmap]] true 1] :=
  RunsTo.hin N 60 [⟨1, 2, .tuple [.agg [.sl 0 0 0 none 0 0, .nilmap], .bool false], [.arr 0 [] true 0]⟩] fun kf hk => ⟨_, by kernel_rfl, (oC (g0 kf) .nil)⟩
theorem sfd_c_0 (N : Nat) (n : Int) (lc : List HV) (x : Int) (m : Nat) (rows : List HV)(g0 : ∀ kf, callN Try.prog polS (kf + 1) 49 [.i x, .i 0, .i (IntKind.i64.wrap (n - 1))] [.arr 1 rows true 0, .map [] [] 0, .arr 2 [.agg [.sl 0 0 m none m 1, .map 1]] true 2] = some (.bool true, [.arr 1 rows true 0, .map [] [] 0, .arr 2 [.agg [.sl 0 0 m none m 1, .map 1]] true 2])) : RunsTo Try.prog polS 31 (sub [1, 1, 0] B31) (env31 (.i n) (.imm .arg 2 lc) (.i x) (.imm .lit 1 []) (.i 0) (.ptr 2 0 0 1) (.bool true) .undef .undef) [.arr 1 rows true 0, .map [] [] 0, .arr 2 [.agg [.sl 0 0 m none m 1, .map 1]] true 2] .normal (polS.keys 31) (env31 (.i n) (.imm .arg 2 lc) (.i x) (.imm .lit 1 []) (.i 0) (.ptr 2 0 0 1) (.bool true) .undef .undef) [.arr 1 rows true 0, .map [] [] 0, .arr 2 [.agg [.sl 0 0 m none m 1, .map 1]] true 2] :=
  RunsTo.hin N 60 [⟨2, 6, .bool true, [.arr 1 rows true 0, .map [] [] 0, .arr 2 [.agg [.sl 0 0 m none m 1, .map 1]] true 2]⟩] fun kf hk => ⟨_, by kernel_rfl, (oC (g0 kf) .nil)⟩
theorem sfd_c_1 (N : Nat) (n : Int) (lc : List HV) (x : Int) (m : Nat) (rows : List HV)(g0 : ∀ kf, callN Try.prog polS (kf + 1) 49 [.i x, .i 0, .i (IntKind.i64.wrap (n - 1))] [.arr 1 rows true 0, .map [] [] 0, .arr 2 [.agg [.sl 0 0 m none m 1, .map 1]] true 2] = some (.bool false, [.arr 1 rows true 0, .map [] [] 0, .arr 2 [.agg [.sl 0 0 m none m 1, .map 1]] true 2])) : RunsTo Try.prog polS 31 (sub [1, 1, 0] B31) (env31 (.i n) (.imm .arg 2 lc) (.i x) (.imm .lit 1 []) (.i 0) (.ptr 2 0 0 1) (.bool true) .undef .undef) [.arr 1 rows true 0, .map [] [] 0, .arr 2 [.agg [.sl 0 0 m none m 1, .map 1]] true 2] .ret (polS.keys 31) (env31 (.i n) (.imm .arg 2 lc) (.i x) (.imm .lit 1 []) (.i 2) (.ptr 2 0 0 1) (.bool true) .undef .undef) [.arr 1 rows true 0, .map [] [] 0, .arr 2 [.agg [.sl 0 0 m none m 1, .map 1]] true 2] :=
  RunsTo.hin N 60 [⟨2, 6, .bool false, [.arr 1 rows true 0, .map [] [] 0, .arr 2 [.agg [.sl 0 0 m none m 1, .map 1]] true 2]⟩] fun kf hk => ⟨_, by kernel_rfl, (oC (g0 kf) .nil)⟩
theorem sfd_cf_0 (N : Nat) (n : Int) (lc : List HV) (x : Int) (m : Nat) (rows : List HV) : RunsTo Try.prog polS 31 (sub [1, 1, 0] B31) (env31 (.i n) (.imm .arg 2 lc) (.i x) (.imm .lit 1 []) (.i 0) (.ptr 2 0 0 1) (.bool false) .undef .undef) [.arr 1 rows true 0, .map [] [] 0, .arr 2 [.agg [.sl 0 0 m none m 1, .map 1]] true 2] .ret (polS.keys 31) (env31 (.i n) (.imm .arg 2 lc) (.i x) (.imm .lit 1 []) (.i 2) (.ptr 2 0 0 1) (.bool false) .undef .undef) [.arr 1 rows true 0, .map [] [] 0, .arr 2 [.agg [.sl 0 0 m none m 1, .map 1]] true 2] :=
  RunsTo.hin N 60 [] fun kf hk => ⟨_, by kernel_rfl, .nil⟩
theorem sfd_cb_0 (N : Nat) (n : Int) (lc : List HV) (x : Int) : RunsTo Try.prog polS 31 (sub [1, 1, 0] B31) (env31 (.i n) (.imm .arg 2 lc) (.i x) (.imm .lit 1 []) (.i 0) (.ptr 1 0 0 1) (.bool false) .undef .undef) [.arr 0 [] true 0, .arr 2 [.agg [.sl 0 0 0 none 0 0, .nilmap]] true 1] .ret (polS.keys 31) (env31 (.i n) (.imm .arg 2 lc) (.i x) (.imm .lit 1 []) (.i 2) (.ptr 1 0 0 1) (.bool false) .undef .undef) [.arr 0 [] true 0, .arr 2 [.agg [.sl 0 0 0 none 0 0, .nilmap]] true 1] :=
  RunsTo.hin N 60 [] fun kf hk => ⟨_, by kernel_rfl, .nil⟩
theorem sfd_d_0 (N : Nat) (n : Int) (lc : List HV) (x : Int) (m : Nat) (H : Heap) (ob bb sb : Nat) (t : Nat) (H0 : Heap) (H1 : Heap) (H2 : Heap) (H3 : Heap) (g0 : loadV Try.prog H 72 (.ptr 2 0 0 1) = some (.agg [.sl 0 0 m none m 1, .map 1])) (g1 : ∀ kf, N ≤ kf → callN Try.prog polS (kf + 1) 47 [.agg [.sl 0 0 m none m 1, .map 1], .i x, .i (-1)] H = some (.i (t : Int), H0)) (g2 : makeV Try.prog true 44 (.i (t : Int)) (.i (t : Int)) H0 = some (.sl ob 0 t (some t) t 1, H1)) (g3 : some (HV.ptr H1.length 0 0 1, H1 ++ [Blk.arr 1 [HV.sl (H1.length + 1) 0 0 none 0 1] true (H1.length + 2), Blk.arr 1 [] true 0]) = some (.ptr bb 0 0 1, H2)) (g4 : storeV Try.prog H2 44 (.ptr bb 0 0 1) (.sl ob 0 t (some t) t 1) = some H3) : RunsTo Try.prog polS 31 (sub [1, 1, 1, 0] B31) (env31 (.i n) (.imm .arg 2 lc) (.i x) (.imm .lit 1 []) (.i 0) (.ptr 2 0 0 1) (.bool true) .undef .undef) H .normal (polS.keys 31) (env31 (.i n) (.imm .arg 2 lc) (.i x) (.imm .lit 1 []) (.i 0) (.ptr 2 0 0 1) (.bool true) (.ptr bb 0 0 1) .undef) H3 :=
  RunsTo.hin N 60 [⟨4, 0, .agg [.sl 0 0 m none m 1, .map 1], H⟩, ⟨4, 2, .i (t : Int), H0⟩, ⟨4, 3, .sl ob 0 t (some t) t 1, H1⟩, ⟨4, 4, .ptr bb 0 0 1, H2⟩, ⟨4, 5, .tuple [], H3⟩] fun kf hk => ⟨_, by kernel_rfl, (oP H g0 (oC (g1 kf (by omega)) (oC (g2) (oC (g3) (oS g4 .nil)))))⟩
theorem sfd_e_0 (N : Nat) (n : Int) (lc : List HV) (x : Int) (m : Nat) (H : Heap) (ob bb sb : Nat) (t : Nat) (H0 : Heap) (g0 : some (newV (.nilFunc) H) = some (.ptr sb 0 0 1, H0)) : RunsTo Try.prog polS 31 (sub [1, 1, 1, 1, 0] B31) (env31 (.i n) (.imm .arg 2 lc) (.i x) (.imm .lit 1 []) (.i 0) (.ptr 2 0 0 1) (.bool true) (.ptr bb 0 0 1) .undef) H .normal (polS.keys 31) (env31 (.i n) (.imm .arg 2 lc) (.i x) (.imm .lit 1 []) (.i 0) (.ptr 2 0 0 1) (.bool true) (.ptr bb 0 0 1) (.ptr sb 0 0 1)) H0 :=
  RunsTo.hin N 60 [⟨5, 0, .ptr sb 0 0 1, H0⟩] fun kf hk => ⟨_, by kernel_rfl, (oC (g0) .nil)⟩
theorem sfd_f_0 (N : Nat) (n : Int) (lc : List HV) (x : Int) (m : Nat) (H : Heap) (ob bb sb : Nat) (t : Nat) (H0 : Heap) (g0 : storeV Try.prog H 82 (.ptr sb 0 0 1) (.func 54 [] [.ptr 2 0 0 1, .ptr bb 0 0 1, .ptr sb 0 0 1]) = some H0) : RunsTo Try.prog polS 31 (sub [1, 1, 1, 1, 1, 0] B31) (env31 (.i n) (.imm .arg 2 lc) (.i x) (.imm .lit 1 []) (.i 0) (.ptr 2 0 0 1) (.bool true) (.ptr bb 0 0 1) (.ptr sb 0 0 1)) H .normal (polS.keys 31) (env31 (.i n) (.imm .arg 2 lc) (.i x) (.imm .lit 1 []) (.i 0) (.ptr 2 0 0 1) (.bool true) (.ptr bb 0 0 1) (.ptr sb 0 0 1)) H0 :=
  RunsTo.hin N 60 [⟨6, 1, .tuple [], H0⟩] fun kf hk => ⟨_, by kernel_rfl, (oS g0 .nil)⟩
theorem sfd_g_0 (N : Nat) (n : Int) (lc : List HV) (x : Int) (m : Nat) (H : Heap) (ob bb sb : Nat) (t : Nat) (H0 : Heap) (g0 : loadV Try.prog H 82 (.ptr sb 0 0 1) = some (.func 54 [] [.ptr 2 0 0 1, .ptr bb 0 0 1, .ptr sb 0 0 1])) (g1 : ∀ kf, N ≤ kf → callN Try.prog polS (kf + 1) 54 [.i x, .i (-1), .i 0, .ptr 2 0 0 1, .ptr bb 0 0 1, .ptr sb 0 0 1] H = some (.tuple [], H0)) : RunsTo Try.prog polS 31 (sub [1, 1, 1, 1, 1, 1, 0] B31) (env31 (.i n) (.imm .arg 2 lc) (.i x) (.imm .lit 1 []) (.i 0) (.ptr 2 0 0 1) (.bool true) (.ptr bb 0 0 1) (.ptr sb 0 0 1)) H .normal (polS.keys 31) (env31 (.i n) (.imm .arg 2 lc) (.i x) (.imm .lit 1 []) (.i 0) (.ptr 2 0 0 1) (.bool true) (.ptr bb 0 0 1) (.ptr sb 0 0 1)) H0 :=
  RunsTo.hin N 60 [⟨7, 0, .func 54 [] [.ptr 2 0 0 1, .ptr bb 0 0 1, .ptr sb 0 0 1], H⟩, ⟨7, 2, .tuple [], H0⟩] fun kf hk => ⟨_, by kernel_rfl, (oP H g0 (oC (g1 kf (by omega)) .nil))⟩
theorem sfd_z_0 (N : Nat) (n : Int) (lc : List HV) (x : Int) (m : Nat) (H : Heap) (ob bb sb : Nat) (t : Nat)(g0 : loadV Try.prog H 44 (.ptr bb 0 0 1) = some (.sl ob 0 t (some t) t 1)) : RunsTo Try.prog polS 31 (sub [1, 1, 1, 1, 1, 1, 1] B31) (env31 (.i n) (.imm .arg 2 lc) (.i x) (.imm .lit 1 []) (.i 0) (.ptr 2 0 0 1) (.bool true) (.ptr bb 0 0 1) (.ptr sb 0 0 1)) H .ret (polS.keys 31) (env31 (.i n) (.imm .arg 2 lc) (.i x) (.sl ob 0 t (some t) t 1) (.i 0) (.ptr 2 0 0 1) (.bool true) (.ptr bb 0 0 1) (.ptr sb 0 0 1)) H :=
  RunsTo.hin N 60 [⟨8, 0, .sl ob 0 t (some t) t 1, H⟩] fun kf hk => ⟨_, by kernel_rfl, (oP H g0 .nil)⟩
end Go.Proofs.Ytmhfkhlamnapdaa
end
section
open Go Go.HL
namespace Go.Proofs.Ytmhfkhlamnapdaa
def prOf (ob j : Nat) (r : List (Int × Int)) : HV := .sl (ob + 1 + j) 0 r.length none r.length 2
def prsF (ob : Nat) (R : List (List (Int × Int))) : List HV := R.mapIdx (prOf ob)
theorem prsF_get (ob : Nat) (R : List (List (Int × Int))) (j : Nat) : (prsF ob R)[j]? = (R[j]?).map (prOf ob j) := by simp [prsF, List.getElem?_mapIdx]
theorem prsF_len (ob : Nat) (R : List (List (Int × Int))) : (prsF ob R).length = R.length := by simp [prsF]
theorem prsF_set (ob : Nat) (R : List (List (Int × Int))) (a : Nat) (r : List (Int × Int)) : (prsF ob R).set a (prOf ob a r) = prsF ob (R.set a r) := by
  apply List.ext_getElem?
  intro i
  rw [prsF_get, List.getElem?_set, List.getElem?_set, prsF_get, prsF_len]
  by_cases e : a = i
  · subst e
    by_cases h : a < R.length
    · simp [h]
    · simp [h]
  · simp [e]
structure SO (ob t : Nat) (R : List (List (Int × Int))) (H : Heap) : Prop where
  out : ∃ mx, mx ≤ ob + 1 + t ∧ H[ob]? = some (.arr 1 (prsF ob R) true mx)
  rows : ∀ j r, R[j]? = some r → H[ob + 1 + j]? = some (.arr 2 (r.map encP) true 0)
  len : R.length = t
theorem SO.row {ob t : Nat} {R : List (List (Int × Int))} {H : Heap} (h : SO ob t R H) {j : Nat} {r : List (Int × Int)} (hj : R[j]? = some r) : loadV Try.prog H 22 (.ptr ob j 0 t) = some (prOf ob j r) := by
  obtain ⟨mx, _, ho⟩ := h.out
  exact load_elem ho (by rw [prsF_len]; exact h.len.symm) (by rw [prsF_get, hj]; rfl) rfl (by kernel_rfl) (by kernel_rfl)
theorem z22sp : tySize Try.prog 22 = some 1 := by kernel_rfl
theorem same_prsF (ob : Nat) (R : List (List (Int × Int))) (w : Bool) (m : Nat) : sameH [.arr 1 (prsF ob R) w m] [.arr 1 (prsF ob R) w m] = true := same_arr fun v hv => by
  obtain ⟨i, hi⟩ := List.mem_iff_getElem?.1 hv
  rw [prsF_get] at hi
  cases h : R[i]? with
  | none => rw [h] at hi; cases hi
  | some r => rw [h] at hi; cases hi; simp [prOf, same]
theorem same_prsB (r : List (Int × Int)) : sameH [.arr 2 (r.map encP) true 0] [.arr 2 (r.map encP) true 0] = true := same_arr fun v hv => by
  obtain ⟨k, _, rfl⟩ := List.mem_map.1 hv
  exact same_encP k
theorem SO.push {adj : List (List Nat)} {T : Int → Int → Int} {ob t : Nat} {R : List (List (Int × Int))} {H : Heap} (h : SO ob t R H) (hM : Mem adj T H) (h2 : 2 ≤ ob) (hlen : ob + 1 + t ≤ H.length) {j : Nat} {r : List (Int × Int)} (hj : R[j]? = some r) (hr : r.length ≤ 100) (p : Int × Int) :
    ∃ H4 H5, appV H 2 16 (prOf ob j r) [encP p] = some (prOf ob j (r ++ [p]), H4) ∧ storeV Try.prog H4 22 (.ptr ob j 0 t) (prOf ob j (r ++ [p])) = some H5 ∧ SO ob t (R.set j (r ++ [p])) H5 ∧ Mem adj T H4 ∧ Mem adj T H5 ∧
      H5.length = H.length ∧ (∀ k, k ≠ ob + 1 + j → H4[k]? = H[k]?) ∧ ∀ k, (k < ob ∨ ob + t < k) → H5[k]? = H[k]? := by
  have hjt : j < t := by have := lt_of_get hj; rw [h.len] at this; exact this
  obtain ⟨mx, hmx, ho⟩ := h.out
  have hb := h.rows j r hj
  have hlt : ob + 1 + j < H.length := lt_of_get hb
  have hol : ob < H.length := lt_of_get ho
  have hap := app_sl (H := H) (k := 2) (bytes := 16) (b := ob + 1 + j) (n := r.length) (mx := 0) (els := r.map encP) (xs := [encP p]) hb (by simp) (by simp) (by simp only [List.length_singleton, roomMax]; omega) rfl
  have e1 : prOf ob j (r ++ [p]) = .sl (ob + 1 + j) 0 (r.length + 1) none (r.length + 1) 2 := by simp [prOf]
  have e2 : r.map encP ++ [encP p] = (r ++ [p]).map encP := by simp
  have hn4 : (H.set (ob + 1 + j) (.arr 2 ((r ++ [p]).map encP) true 0))[ob]? = some (.arr 1 (prsF ob R) true mx) := by rw [List.getElem?_set_ne (by omega)]; exact ho
  have hg : (prsF ob R)[j]? = some (prOf ob j r) := by rw [prsF_get, hj]; rfl
  have hst : storeV Try.prog (H.set (ob + 1 + j) (.arr 2 ((r ++ [p]).map encP) true 0)) 22 (.ptr ob j 0 t) (prOf ob j (r ++ [p])) = some ((H.set (ob + 1 + j) (.arr 2 ((r ++ [p]).map encP) true 0)).set ob (.arr 1 (prsF ob (R.set j (r ++ [p]))) true (max mx (ob + 1 + j + 1)))) := by
    have hc : cellsOf (prOf ob j r) = [prOf ob j r] := rfl
    have hc2 : cellsOf (prOf ob j (r ++ [p])) = [prOf ob j (r ++ [p])] := rfl
    have hcv : [prOf ob j (r ++ [p])].all cellV = true := rfl
    have hz := z22sp
    simp only [storeV, hn4, hg, hc, hc2, hcv, hz, prsF_len, h.len, List.length_singleton]
    rw [if_pos ⟨trivial, trivial⟩, if_pos ⟨by omega, trivial, by omega⟩, ← prsF_set]
    rfl
  have hM4 : Mem adj T (H.set (ob + 1 + j) (.arr 2 ((r ++ [p]).map encP) true 0)) := hM.set (by omega) (same_prsB _) (Nat.zero_le _)
  refine ⟨_, _, by rw [e1]; rw [e2] at hap; exact hap, hst, ?_, hM4, hM4.set h2 (same_prsF _ _ _ _) (by rw [List.length_set]; show max mx (ob + 1 + j + 1) ≤ _; omega), by simp, fun k hk => by rw [List.getElem?_set_ne (fun e => hk e.symm)], fun k hk => by rw [List.getElem?_set_ne (by omega), List.getElem?_set_ne (by omega)]⟩
  refine ⟨⟨max mx (ob + 1 + j + 1), by omega, ?_⟩, fun i s hi => ?_, by simp [h.len]⟩
  · rw [List.getElem?_set_self (by simpa using hol)]
  · rw [List.getElem?_set_ne (by omega)]
    rw [List.getElem?_set] at hi
    by_cases e : j = i
    · subst e
      rw [if_pos rfl, if_pos (lt_of_get hj)] at hi
      cases hi
      rw [List.getElem?_set_self hlt]
    · rw [if_neg e] at hi
      rw [List.getElem?_set_ne (by omega)]
      exact h.rows i s hi
theorem info22n : (Try.prog.info? 22).map (fun i => (i.size, i.bytes, nilZero i)) = some (1, 24, true) := by kernel_rfl
theorem prs_init (ob n : Nat) : (List.range n).map (fun j => HV.sl (ob + 1 + j) 0 0 none 0 2) = prsF ob (List.replicate n []) := by
  apply List.ext_getElem?
  intro i
  rw [prsF_get, List.getElem?_map, List.getElem?_replicate]
  by_cases h : i < n
  · rw [List.getElem?_range h, if_pos h]; rfl
  · rw [List.getElem?_eq_none (by simp; omega), if_neg h]; rfl
theorem makeRounds {n : Nat} (hn : n ≤ 1000) (H : Heap) : makeV Try.prog true 44 (.int .i64 (n : Int)) (.int .i64 (n : Int)) H = some (.sl H.length 0 n (some n) n 1, H ++ [.arr 1 (prsF H.length (List.replicate n [])) true (H.length + 1 + n)] ++ List.replicate n (.arr 2 [] true 0)) := by
  have hu : Try.prog.underlying 44 = some (.slice 22) := by kernel_rfl
  have hi := info22n
  cases hi2 : Try.prog.info? 22 with
  | none => rw [hi2] at hi; cases hi
  | some i =>
    rw [hi2] at hi
    simp only [Option.map_some, Option.some.injEq, Prod.mk.injEq] at hi
    obtain ⟨h1, h2, h3⟩ := hi
    have hz : tySize Try.prog 33 = some 2 := s33c
    have hu2 : Try.prog.underlying 22 = some (.slice 33) := by kernel_rfl
    simp only [makeV, hu, hi2, hu2, hz, h1, h2, h3, Int.toNat_natCast, prs_init]
    rw [if_pos ⟨by omega, by omega, by rw [show roomMax = 70368744177664 from rfl]; omega⟩, if_pos ⟨trivial, trivial⟩]
theorem SO.init (n : Nat) (H : Heap) : SO H.length n (List.replicate n []) (H ++ [.arr 1 (prsF H.length (List.replicate n [])) true (H.length + 1 + n)] ++ List.replicate n (.arr 2 [] true 0)) := by
  refine ⟨⟨H.length + 1 + n, Nat.le_refl _, ?_⟩, fun j r hj => ?_, by simp⟩
  · rw [List.getElem?_append_left (by simp), List.getElem?_append_right (Nat.le_refl _)]; simp
  · rw [List.getElem?_replicate] at hj
    split at hj
    · rename_i hjn
      cases hj
      rw [List.getElem?_append_right (by simp), List.getElem?_replicate, if_pos (by simp; omega)]
      rfl
    · cases hj
end Go.Proofs.Ytmhfkhlamnapdaa
end
section
open Go Go.HL
namespace Go.Proofs.Ytmhfkhlamnapdaa
set_option maxRecDepth 100000
noncomputable def B54 : Code := Try.f54.body.getD .skip
abbrev env54 (v0 v1 v2 v3 v4 v5 v10 v14 v15 v16 : HV) : Env := [(0, v0), (1, v1), (2, v2), (3, v3), (4, v4), (5, v5), (10, v10), (14, v14), (15, v15), (16, v16)]
theorem sq_a_0 (N : Nat) (v w : Int) (tb bb sb m : Nat) (H : Heap) (r : Nat) (cb : Nat) (k : Nat) (H0 : Heap) (g0 : loadV Try.prog H 72 (.ptr tb 0 0 1) = some (.agg [.sl 0 0 m none m 1, .map 1])) (g1 : ∀ kf, N ≤ kf → callN Try.prog polS (kf + 1) 55 [.agg [.sl 0 0 m none m 1, .map 1], .i v, .i w] H = some (.sl cb 0 k none k 1, H0)) : RunsTo Try.prog polS 54 (sub [0] B54) [(0, .i v), (1, .i w), (2, .i (r : Int)), (3, .ptr tb 0 0 1), (4, .ptr bb 0 0 1), (5, .ptr sb 0 0 1)] H .normal (polS.keys 54) (env54 (.i v) (.i w) (.i (r : Int)) (.ptr tb 0 0 1) (.ptr bb 0 0 1) (.ptr sb 0 0 1) .undef (.sl cb 0 k none k 1) (.i (k : Int)) (.i 0)) H0 :=
  RunsTo.hin N 60 [⟨0, 0, .agg [.sl 0 0 m none m 1, .map 1], H⟩, ⟨0, 3, .sl cb 0 k none k 1, H0⟩] fun kf hk => ⟨_, by kernel_rfl, (oP H g0 (oC (g1 kf (by omega)) .nil))⟩
theorem sq_l_0 (N : Nat) (v w : Int) (tb bb sb m : Nat) (H : Heap) (r : Nat) (cb k i ob t : Nat) (rv : HV) (x0 : Int) (H0 : Heap) (v0 : HV) (H1 : Heap) (H2 : Heap) (g0 : (i : Int) < (k : Int)) (g1 : idxV Try.prog 24 (.sl cb 0 k none k 1) (.i (i : Int)) = some (.ptr cb i 0 k)) (g2 : loadV Try.prog H 3 (.ptr cb i 0 k) = some (.i x0)) (g3 : loadV Try.prog H 44 (.ptr bb 0 0 1) = some (.sl ob 0 t (some t) t 1)) (g4 : loadV Try.prog H 44 (.ptr bb 0 0 1) = some (.sl ob 0 t (some t) t 1)) (g5 : idxV Try.prog 44 (.sl ob 0 t (some t) t 1) (.i (r : Int)) = some (.ptr ob r 0 t)) (g6 : loadV Try.prog H 22 (.ptr ob r 0 t) = some (rv)) (g7 : appV H 2 16 (rv) [.agg [.i v, .i x0]] = some (v0, H0)) (g8 : idxV Try.prog 44 (.sl ob 0 t (some t) t 1) (.i (r : Int)) = some (.ptr ob r 0 t)) (g9 : storeV Try.prog H0 22 (.ptr ob r 0 t) (v0) = some H1) (gS3 : (recL ((loadV Try.prog H 44 (.ptr bb 0 0 1)).map (fun v => (v, (H : Heap)))) ((loadV Try.prog H 44 (.ptr bb 0 0 1)).map (fun v => (v, (H : Heap)))) H H && (recL ((loadV Try.prog H 44 (.ptr bb 0 0 1)).map (fun v => (v, (H : Heap)))) ((loadV Try.prog H0 44 (.ptr bb 0 0 1)).map (fun v => (v, (H0 : Heap)))) H H0 && (recL ((loadV Try.prog H 44 (.ptr bb 0 0 1)).map (fun v => (v, (H : Heap)))) ((loadV Try.prog H 44 (.ptr bb 0 0 1)).map (fun v => (v, (H : Heap)))) H H && (recL ((loadV Try.prog H 22 (.ptr ob r 0 t)).map (fun v => (v, (H : Heap)))) ((loadV Try.prog H 22 (.ptr ob r 0 t)).map (fun v => (v, (H : Heap)))) H H && true)))) = true) (g11 : loadV Try.prog H1 82 (.ptr sb 0 0 1) = some (.func 54 [] [.ptr tb 0 0 1, .ptr bb 0 0 1, .ptr sb 0 0 1])) (g12 : ∀ kf, N ≤ kf → callN Try.prog polS (kf + 1) 54 [.i x0, .i v, .i (IntKind.i64.wrap ((r : Int) + 1)), .ptr tb 0 0 1, .ptr bb 0 0 1, .ptr sb 0 0 1] H1 = some (.tuple [], H2)) : RunsTo Try.prog polS 54 (sub [1, 0, 0] B54) (env54 (.i v) (.i w) (.i (r : Int)) (.ptr tb 0 0 1) (.ptr bb 0 0 1) (.ptr sb 0 0 1) .undef (.sl cb 0 k none k 1) (.i (k : Int)) (.i (i : Int))) H .normal (polS.keys 54) (env54 (.i v) (.i w) (.i (IntKind.i64.wrap ((r : Int) + 1))) (.ptr tb 0 0 1) (.ptr bb 0 0 1) (.ptr sb 0 0 1) (.i x0) (.sl cb 0 k none k 1) (.i (k : Int)) (.i (IntKind.i64.wrap ((i : Int) + 1)))) H2 :=
  RunsTo.hin N 60 [⟨1, 0, .bool true, H⟩, ⟨2, 0, .ptr cb i 0 k, H⟩, ⟨2, 1, .i x0, H⟩, ⟨3, 0, .sl ob 0 t (some t) t 1, H⟩, ⟨3, 2, .sl ob 0 t (some t) t 1, H⟩, ⟨3, 4, .ptr ob r 0 t, H⟩, ⟨3, 5, rv, H⟩, ⟨3, 10, v0, H0⟩, ⟨3, 11, .ptr ob r 0 t, H0⟩, ⟨3, 12, .tuple [], H1⟩, ⟨5, 0, .func 54 [] [.ptr tb 0 0 1, .ptr bb 0 0 1, .ptr sb 0 0 1], H1⟩, ⟨5, 4, .tuple [], H2⟩] fun kf hk => ⟨_, by kernel_rfl, (oB H (decide_eq_true g0) (oP H g1 (oP H g2 (oC (gS3) (oP H g3 (oP H g4 (oP H g5 (oP H g6 (oC (g7) (oP H0 g8 (oS g9 (oP H1 g11 (oC (g12 kf (by omega)) .nil)))))))))))))⟩
theorem sq_l_1 (N : Nat) (v w : Int) (tb bb sb m : Nat) (H : Heap) (r : Nat) (cb k i ob t : Nat) (rv : HV)(g0 : ¬ ((i : Int) < (k : Int))) : RunsTo Try.prog polS 54 (sub [1, 0, 0] B54) (env54 (.i v) (.i w) (.i (r : Int)) (.ptr tb 0 0 1) (.ptr bb 0 0 1) (.ptr sb 0 0 1) .undef (.sl cb 0 k none k 1) (.i (k : Int)) (.i (i : Int))) H (.exit 0) (polS.keys 54) (env54 (.i v) (.i w) (.i (r : Int)) (.ptr tb 0 0 1) (.ptr bb 0 0 1) (.ptr sb 0 0 1) .undef (.sl cb 0 k none k 1) (.i (k : Int)) (.i (i : Int))) H :=
  RunsTo.hin N 60 [⟨1, 0, .bool false, H⟩] fun kf hk => ⟨_, by kernel_rfl, (oB H (decide_eq_false g0) .nil)⟩
end Go.Proofs.Ytmhfkhlamnapdaa
end
section
open Go Go.HL
namespace Go.Proofs.Ytmhfkhlamnapdaa
def ds (row : Int → List Int) : Nat → Int → Int → List Int
  | 0, v, _ => [v]
  | k + 1, v, w => v :: (keep w (row v)).flatMap fun u => ds row k u v
inductive Anc (l : List (Int × Int)) (ρ : Int → Nat) (z : Int) : Int → Prop
  | refl : Anc l ρ z z
  | step {u v : Int} : Anc l ρ z u → v ∈ rowE l u → ρ v < ρ u → Anc l ρ z v
def Dn (l : List (Int × Int)) (ρ : Int → Nat) (v w : Int) : Prop := ∀ u, u ∈ keep w (rowE l v) → ρ v < ρ u
section
variable {l : List (Int × Int)} {ρ : Int → Nat} {M : Nat}
theorem Anc.le {z v : Int} (h : Anc l ρ z v) : ρ v ≤ ρ z := by
  induction h with
  | refl => exact Nat.le_refl _
  | step _ _ h2 ih => omega
end
section
variable {l : List (Int × Int)} {ρ : Int → Nat} {M : Nat}
theorem Anc.first {z b : Int} (h : Anc l ρ z b) : z = b ∨ ∃ p, p ∈ rowE l z ∧ ρ p < ρ z ∧ Anc l ρ p b := by
  induction h with
  | refl => exact .inl rfl
  | step h1 h2 h3 ih =>
    rcases ih with rfl | ⟨p, h4, h5, h6⟩
    · exact .inr ⟨_, h2, h3, .refl⟩
    · exact .inr ⟨p, h4, h5, .step h6 h2 h3⟩
end
section
variable {l : List (Int × Int)} {ρ : Int → Nat} {M : Nat}
theorem Anc.chain (hO : Ori l ρ M) {z a b : Int} (h : Anc l ρ z a) (h' : Anc l ρ z b) : Anc l ρ a b ∨ Anc l ρ b a := by
  induction h with
  | refl => exact .inl h'
  | step h1 h2 h3 ih =>
    rcases ih with h4 | h4
    · rcases h4.first with rfl | ⟨p, h5, h6, h7⟩
      · exact .inr (.step .refl h2 h3)
      · rw [hO.low h5 h2 h6 h3] at h7
        exact .inl h7
    · exact .inr (.step h4 h2 h3)
end
section
variable {l : List (Int × Int)} {ρ : Int → Nat} {M : Nat}
theorem Anc.child (hO : Ori l ρ M) {z v a b : Int} (ha : Anc l ρ z a) (hb : Anc l ρ z b) (h1 : v ∈ rowE l a) (h2 : ρ v < ρ a) (h3 : v ∈ rowE l b) (h4 : ρ v < ρ b) : a = b := by
  have key : ∀ a b : Int, Anc l ρ a b → v ∈ rowE l a → ρ v < ρ a → ρ v < ρ b → a = b := by
    intro a b h h1 h2 h4
    rcases h.first with e | ⟨p, h5, h6, h7⟩
    · exact e
    · rw [hO.low h5 h1 h6 h2] at h7
      have := h7.le
      omega
  rcases ha.chain hO hb with h | h
  · exact key a b h h1 h2 h4
  · exact (key b a h h3 h4 h2).symm
end
section
variable {l : List (Int × Int)} {ρ : Int → Nat} {M : Nat}
theorem Dn.next (hO : Ori l ρ M) {v w u : Int} (h : Dn l ρ v w) (hu : u ∈ keep w (rowE l v)) : Dn l ρ u v := by
  intro z hz
  obtain ⟨h1, h2⟩ := keep_mem.1 hz
  have h3 := h u hu
  have hne := hO.neq h1
  rcases Nat.lt_or_ge (ρ u) (ρ z) with h4 | h4
  · exact h4
  · exact absurd (hO.low h1 (rowE_sym (keep_mem.1 hu).1) (by omega) h3) h2
end
section
variable {l : List (Int × Int)} {ρ : Int → Nat} {M : Nat}
theorem ds_anc (hO : Ori l ρ M) : ∀ (k : Nat) (v w z : Int), Dn l ρ v w → z ∈ ds (rowE l) k v w → Anc l ρ z v
  | 0, v, w, z, _, hz => by
    rw [ds, List.mem_singleton] at hz
    rw [hz]; exact .refl
  | k + 1, v, w, z, h, hz => by
    rw [ds] at hz
    rcases List.mem_cons.1 hz with rfl | hz
    · exact .refl
    · obtain ⟨u, hu, hz⟩ := List.mem_flatMap.1 hz
      exact .step (ds_anc hO k u v z (h.next hO hu) hz) (rowE_sym (keep_mem.1 hu).1) (h u hu)
end
section
variable {l : List (Int × Int)} {ρ : Int → Nat} {M : Nat}
theorem ds_nodup (hO : Ori l ρ M) : ∀ (k : Nat) (v w : Int), Dn l ρ v w → (ds (rowE l) k v w).Nodup
  | 0, v, w, _ => by simp [ds]
  | k + 1, v, w, h => by
    rw [ds, List.nodup_cons]
    refine ⟨fun hm => ?_, ?_⟩
    · obtain ⟨u, hu, hz⟩ := List.mem_flatMap.1 hm
      have h1 := (ds_anc hO k u v v (h.next hO hu) hz).le
      have h2 := h u hu
      omega
    · have hnd : (keep w (rowE l v)).Nodup := List.Pairwise.filter _ (hO.nodup v)
      have hsub : ∀ u, u ∈ keep w (rowE l v) → u ∈ keep w (rowE l v) := fun u hu => hu
      generalize hK : keep w (rowE l v) = K at hnd
      have hK2 : ∀ u, u ∈ K → u ∈ keep w (rowE l v) := fun u hu => by rw [hK]; exact hu
      clear hK hsub
      induction K with
      | nil => simp
      | cons a K ih =>
        rw [List.flatMap_cons]
        rw [List.nodup_cons] at hnd
        have ha := hK2 a (by simp)
        refine List.nodup_append.2 ⟨ds_nodup hO k a v (h.next hO ha), ih hnd.2 (fun u hu => hK2 u (by simp [hu])), fun x hx y hy e => ?_⟩
        subst e
        obtain ⟨b, hb, hy⟩ := List.mem_flatMap.1 hy
        have hb' := hK2 b (by simp [hb])
        have : a = b := Anc.child hO (ds_anc hO k a v x (h.next hO ha) hx) (ds_anc hO k b v x (h.next hO hb') hy) (rowE_sym (keep_mem.1 ha).1) (h a ha) (rowE_sym (keep_mem.1 hb').1) (h b hb')
        exact hnd.1 (this ▸ hb)
end
section
variable {l : List (Int × Int)} {ρ : Int → Nat} {M : Nat}
theorem ds_range {n : Nat} (hv : ∀ p ∈ l, validB (n : Int) p = true) : ∀ (k : Nat) (v w z : Int), (0 ≤ v ∧ v < (n : Int)) → z ∈ ds (rowE l) k v w → 0 ≤ z ∧ z < (n : Int)
  | 0, v, w, z, h, hz => by
    rw [ds, List.mem_singleton] at hz
    rw [hz]; exact h
  | k + 1, v, w, z, h, hz => by
    rw [ds] at hz
    rcases List.mem_cons.1 hz with rfl | hz
    · exact h
    · obtain ⟨u, hu, hz⟩ := List.mem_flatMap.1 hz
      exact ds_range hv k u v z (valid_row hv (keep_mem.1 hu).1) hz
end
theorem ints_len {n : Nat} {L : List Int} (hd : L.Nodup) (hr : ∀ z, z ∈ L → 0 ≤ z ∧ z < (n : Int)) : L.length ≤ n := by
  have := nodup_lt_len (n := n) (l := L.map Int.toNat) ?_ ?_
  · simpa using this
  · unfold List.Nodup
    rw [List.pairwise_map]
    refine List.Pairwise.imp_of_mem (fun {a b} ha hb hab => ?_) hd
    have := hr a ha; have := hr b hb
    omega
  · intro y hy
    obtain ⟨z, hz, rfl⟩ := List.mem_map.1 hy
    have := hr z hz
    omega
def sm : List Int → Int
  | [] => 0
  | t :: l => 1 + t + sm l
theorem sm_ins (t : Int) : ∀ l : List Int, sm (dsIns t l) = 1 + t + sm l
  | [] => rfl
  | a :: l => by
    rw [dsIns]
    split
    · rw [sm, sm_ins t l, sm]; omega
    · rfl
theorem sm_acc : ∀ (l acc : List Int), sm (dsAcc acc l) = sm acc + sm l
  | [], acc => by simp [dsAcc, sm]
  | t :: l, acc => by rw [dsAcc, sm_acc l, sm_ins, sm]; omega
theorem sm_nonneg : ∀ (l : List Int), (∀ t, t ∈ l → 0 ≤ t) → 0 ≤ sm l
  | [], _ => Int.le_refl _
  | t :: l, h => by
    have := h t (by simp)
    have := sm_nonneg l (fun t ht => h t (by simp [ht]))
    rw [sm]; omega
theorem bestGo_sm : ∀ (l : List Int) (i : Nat) (mo : Int), (∀ t, t ∈ l → 0 ≤ t) → bestGo i mo l ≤ max mo ((i : Int) + sm l)
  | [], i, mo, _ => by rw [bestGo, sm]; omega
  | t :: l, i, mo, h => by
    have ht := h t (by simp)
    have h1 := sm_nonneg l (fun t ht => h t (by simp [ht]))
    have := bestGo_sm l (i + 1) (max mo ((i : Int) + 1 + t)) (fun t ht => h t (by simp [ht]))
    rw [bestGo, sm]
    omega
theorem tmF_nonneg (row : Int → List Int) : ∀ (k : Nat) (v w : Int), 0 ≤ tmF row k v w
  | 0, _, _ => Int.le_refl _
  | k + 1, v, w => by
    rw [tmF]
    have : ∀ (l : List Int) (i : Nat) (mo : Int), mo ≤ bestGo i mo l := by
      intro l
      induction l with
      | nil => intro i mo; exact Int.le_refl _
      | cons t l ih => intro i mo; rw [bestGo]; have := ih (i + 1) (max mo ((i : Int) + 1 + t)); omega
    exact this _ 0 0
theorem tmF_ds (row : Int → List Int) : ∀ (k : Nat) (v w : Int), tmF row k v w + 1 ≤ ((ds row k v w).length : Int)
  | 0, v, w => by simp [tmF, ds]
  | k + 1, v, w => by
    rw [tmF, ds]
    have h1 := bestGo_sm (dsort ((keep w (row v)).map fun u => tmF row k u v)) 0 0 (fun t ht => by
      rw [(dsort_perm _).mem_iff, List.mem_map] at ht
      obtain ⟨u, _, rfl⟩ := ht
      exact tmF_nonneg row k u v)
    have h2 : sm (dsort ((keep w (row v)).map fun u => tmF row k u v)) = sm ((keep w (row v)).map fun u => tmF row k u v) := by
      rw [dsort, sm_acc]; simp [sm]
    have h3 : ∀ K : List Int, sm (K.map fun u => tmF row k u v) ≤ ((K.flatMap fun u => ds row k u v).length : Int) := by
      intro K
      induction K with
      | nil => simp [sm]
      | cons a K ih =>
        have := tmF_ds row k a v
        rw [List.map_cons, sm, List.flatMap_cons, List.length_append]
        omega
    have h4 := h3 (keep w (row v))
    rw [List.length_cons]
    omega
theorem tree_small {n : Nat} {l : List (Int × Int)} (h : treeOk (n : Int) l = true) {x : Nat} (hx : x < n) : tm (rowE l) x (-1) + 1 ≤ n := by
  obtain ⟨⟨hn, hl⟩, hv, hr⟩ := tree_rtd h
  have hR := hr x hx
  obtain ⟨hO, _⟩ := hR.ori hx hv hl
  have hD : Dn l (fun v => ((bfs (fun y => (adjOf n l).getD y []) n x).getD v.toNat 0).toNat) (x : Int) (-1) := by
    intro u hu
    have hne := hO.neq (keep_mem.1 hu).1
    have h0 := hR.root
    dsimp only at hne h0 ⊢
    omega
  have h1 := tmF_ds (rowE l) 200 x (-1)
  have h2 := ints_len (ds_nodup hO 200 x (-1) hD) (fun z hz => ds_range hv 200 x (-1) z ⟨by omega, by omega⟩ hz)
  unfold tm
  omega
end Go.Proofs.Ytmhfkhlamnapdaa
end
section
open Go Go.HL
namespace Go.Proofs.Ytmhfkhlamnapdaa
def Le2 : List Int → List Int → Prop
  | [], [] => True
  | a :: l, b :: m => a ≤ b ∧ Le2 l m
  | _, _ => False
theorem Le2.refl : ∀ l : List Int, Le2 l l
  | [] => trivial
  | _ :: l => ⟨Int.le_refl _, Le2.refl l⟩
theorem dsIns_top {a : Int} : ∀ {m : List Int}, (∀ b, b ∈ m → b ≤ a) → dsIns a m = a :: m
  | [], _ => rfl
  | b :: m, h => by
    rw [dsIns]
    split
    · rename_i hab
      have hb := h b (by simp)
      have e : a = b := by omega
      subst e
      rw [dsIns_top (fun c hc => h c (by simp [hc]))]
    · rfl
theorem dsIns_le : ∀ {l m : List Int} {t u : Int}, Fl l → Fl m → t ≤ u → Le2 l m → Le2 (dsIns t l) (dsIns u m)
  | [], [], t, u, _, _, h, _ => ⟨h, trivial⟩
  | [], _ :: _, _, _, _, _, _, h => h.elim
  | _ :: _, [], _, _, _, _, _, h => h.elim
  | a :: l, b :: m, t, u, hl, hm, htu, h => by
    obtain ⟨hab, hlm⟩ := h
    obtain ⟨hl1, hl2⟩ := List.pairwise_cons.1 hl
    obtain ⟨hm1, hm2⟩ := List.pairwise_cons.1 hm
    rw [dsIns, dsIns]
    by_cases c1 : t ≤ a
    · by_cases c2 : u ≤ b
      · rw [if_pos c1, if_pos c2]
        exact ⟨hab, dsIns_le hl2 hm2 htu hlm⟩
      · rw [if_pos c1, if_neg c2]
        refine ⟨by omega, ?_⟩
        have := dsIns_le (t := t) (u := b) hl2 hm2 (by omega) hlm
        rwa [dsIns_top hm1] at this
    · by_cases c2 : u ≤ b
      · rw [if_neg c1, if_pos c2]
        refine ⟨by omega, ?_⟩
        have := dsIns_le (t := a) (u := u) hl2 hm2 (by omega) hlm
        rwa [dsIns_top hl1] at this
      · rw [if_neg c1, if_neg c2]
        exact ⟨htu, hab, hlm⟩
theorem dsAcc_le : ∀ {l m acc bcc : List Int}, Fl acc → Fl bcc → Le2 acc bcc → Le2 l m → Le2 (dsAcc acc l) (dsAcc bcc m)
  | [], [], _, _, _, _, h, _ => h
  | [], _ :: _, _, _, _, _, _, h => h.elim
  | _ :: _, [], _, _, _, _, _, h => h.elim
  | a :: l, b :: m, acc, bcc, h1, h2, h, ⟨hab, hlm⟩ => by
    rw [dsAcc, dsAcc]
    exact dsAcc_le (dsIns_fl a h1) (dsIns_fl b h2) (dsIns_le h1 h2 hab h) hlm
theorem dsort_le {l m : List Int} (h : Le2 l m) : Le2 (dsort l) (dsort m) := dsAcc_le List.Pairwise.nil List.Pairwise.nil trivial h
theorem bestGo_le : ∀ {l m : List Int} {i : Nat} {p q : Int}, p ≤ q → Le2 l m → bestGo i p l ≤ bestGo i q m
  | [], [], _, _, _, h, _ => h
  | [], _ :: _, _, _, _, _, h => h.elim
  | _ :: _, [], _, _, _, _, h => h.elim
  | a :: l, b :: m, i, p, q, hpq, ⟨hab, hlm⟩ => by
    rw [bestGo, bestGo]
    exact bestGo_le (by omega) hlm
def best (l : List Int) : Int := bestGo 0 0 (dsort l)
theorem best_le {l m : List Int} (h : Le2 l m) : best l ≤ best m := bestGo_le (Int.le_refl _) (dsort_le h)
theorem bestGo_up : ∀ (l : List Int) (i : Nat) (p q : Int), p ≤ q + 1 → bestGo i p (l.map fun t => t + 1) ≤ bestGo i q l + 1
  | [], _, _, _, h => h
  | t :: l, i, p, q, h => by
    rw [List.map_cons, bestGo, bestGo]
    exact bestGo_up l (i + 1) _ _ (by omega)
theorem best_up (l : List Int) : best (l.map fun t => t + 1) ≤ best l + 1 := by
  have h1 : Fl ((dsort l).map fun t => t + 1) := by
    unfold Fl
    rw [List.pairwise_map]
    exact (dsort_fl l).imp fun {a b} h => by omega
  have h2 := fl_dsort h1 ((dsort_perm l).map fun t => t + 1)
  unfold best
  rw [← h2]
  exact bestGo_up _ 0 0 0 (by omega)
theorem bestGo_snoc : ∀ (l : List Int) (i : Nat) (p t : Int), bestGo i p (l ++ [t]) = max (bestGo i p l) ((i : Int) + l.length + 1 + t)
  | [], i, p, t => by simp [bestGo]
  | a :: l, i, p, t => by
    rw [List.cons_append, bestGo, bestGo_snoc l, bestGo, List.length_cons]
    congr 1
    omega
theorem best_zero {l : List Int} (h : ∀ t, t ∈ l → 0 ≤ t) : best (l ++ [0]) = max (best l) ((l.length : Int) + 1) := by
  have h1 : Fl (dsort l ++ [0]) := by
    unfold Fl
    rw [List.pairwise_append]
    refine ⟨dsort_fl l, by simp, fun a ha b hb => ?_⟩
    rw [List.mem_singleton.1 hb]
    exact h a ((dsort_perm l).mem_iff.1 ha)
  have h2 := fl_dsort h1 ((dsort_perm l).append_right [0])
  unfold best
  rw [← h2, bestGo_snoc, (dsort_perm l).length_eq]
  congr 1
  omega
theorem bestGo_len : ∀ (l : List Int) (i : Nat) (p : Int), (∀ t, t ∈ l → 0 ≤ t) → l ≠ [] → (i : Int) + l.length ≤ bestGo i p l
  | [], _, _, _, h => absurd rfl h
  | [t], i, p, h, _ => by
    have := h t (by simp)
    simp only [bestGo, List.length_singleton]
    omega
  | t :: a :: l, i, p, h, _ => by
    have := bestGo_len (a :: l) (i + 1) (max p ((i : Int) + 1 + t)) (fun x hx => h x (by simp at hx ⊢; exact .inr hx)) (by simp)
    rw [bestGo]
    simp only [List.length_cons] at this ⊢
    omega
theorem best_len {l : List Int} (h : ∀ t, t ∈ l → 0 ≤ t) : (l.length : Int) ≤ best l := by
  cases l with
  | nil => simp [best, dsort, dsAcc, bestGo]
  | cons a l =>
    have := bestGo_len (dsort (a :: l)) 0 0 (fun t ht => h t ((dsort_perm _).mem_iff.1 ht)) (fun e => by
      have := (dsort_perm (a :: l)).length_eq
      rw [e] at this; simp at this)
    rw [(dsort_perm _).length_eq] at this
    unfold best
    simpa using this
theorem le2_map {α : Type} {f g : α → Int} : ∀ {l : List α}, (∀ u, u ∈ l → f u ≤ g u) → Le2 (l.map f) (l.map g)
  | [], _ => trivial
  | a :: l, h => ⟨h a (by simp), le2_map fun u hu => h u (by simp [hu])⟩
theorem rowE_snoc (l : List (Int × Int)) (p : Int × Int) (x : Int) : rowE (l ++ [p]) x = rowE l x ++ (match oth x p with | some y => [y] | none => []) := by
  unfold rowE
  rw [List.filterMap_append, List.filterMap_cons]
  cases oth x p <;> rfl
theorem grow {n : Nat} {l : List (Int × Int)} {at_ : Int} (hv : ∀ p ∈ l, validB (n : Int) p = true) (ha : 0 ≤ at_ ∧ at_ < (n : Int)) : ∀ (k : Nat) (v w : Int), (0 ≤ v ∧ v < (n : Int)) → w ≠ (n : Int) →
    tmF (rowE l) k v w ≤ tmF (rowE (l ++ [(at_, (n : Int))])) k v w ∧ tmF (rowE (l ++ [(at_, (n : Int))])) k v w ≤ tmF (rowE l) k v w + 1
  | 0, v, w, _, _ => by simp [tmF]
  | k + 1, v, w, hvn, hw => by
    have hin : ∀ u, u ∈ keep w (rowE l v) → (0 ≤ u ∧ u < (n : Int)) := fun u hu => valid_row hv (keep_mem.1 hu).1
    have ih : ∀ u, u ∈ keep w (rowE l v) → tmF (rowE l) k u v ≤ tmF (rowE (l ++ [(at_, (n : Int))])) k u v ∧ tmF (rowE (l ++ [(at_, (n : Int))])) k u v ≤ tmF (rowE l) k u v + 1 := fun u hu => grow hv ha k u v (hin u hu) (by omega)
    have e1 : tmF (rowE l) (k + 1) v w = best ((keep w (rowE l v)).map fun u => tmF (rowE l) k u v) := rfl
    have e2 : tmF (rowE (l ++ [(at_, (n : Int))])) (k + 1) v w = best ((keep w (rowE (l ++ [(at_, (n : Int))]) v)).map fun u => tmF (rowE (l ++ [(at_, (n : Int))])) k u v) := rfl
    have h1 := best_le (le2_map (f := fun u => tmF (rowE l) k u v) (g := fun u => tmF (rowE (l ++ [(at_, (n : Int))])) k u v) fun u hu => (ih u hu).1)
    have h2 := best_le (le2_map (f := fun u => tmF (rowE (l ++ [(at_, (n : Int))])) k u v) (g := fun u => tmF (rowE l) k u v + 1) fun u hu => (ih u hu).2)
    have h3 := best_up ((keep w (rowE l v)).map fun u => tmF (rowE l) k u v)
    rw [List.map_map] at h3
    have h4 : best ((keep w (rowE l v)).map fun u => tmF (rowE l) k u v + 1) ≤ best ((keep w (rowE l v)).map fun u => tmF (rowE l) k u v) + 1 := h3
    rw [e1, e2, rowE_snoc]
    by_cases c : at_ = v
    · subst c
      have ho : oth at_ (at_, (n : Int)) = some (n : Int) := by unfold oth; rw [if_pos rfl]
      rw [ho]
      have hk : keep w (rowE l at_ ++ [(n : Int)]) = keep w (rowE l at_) ++ [(n : Int)] := by
        unfold keep
        rw [List.filter_append]
        congr 1
        simp only [List.filter_cons, List.filter_nil]
        rw [if_pos (by simp; omega)]
      have hz : tmF (rowE (l ++ [(at_, (n : Int))])) k n at_ = 0 := by
        cases k with
        | zero => rfl
        | succ k =>
          have hr : keep at_ (rowE (l ++ [(at_, (n : Int))]) n) = [] := by
            rw [keep, List.filter_eq_nil_iff]
            intro u hu
            obtain ⟨p, hp, hE⟩ := rowE_mem.1 hu
            rcases List.mem_append.1 hp with hp | hp
            · have h1 := hv p hp
              rw [validB, decide_eq_true_eq] at h1
              rcases hE with hE | hE <;> omega
            · rw [List.mem_singleton.1 hp] at hE
              rcases hE with hE | hE
              · have := hE.1; dsimp only at this; omega
              · have := hE.2; dsimp only at this
                simp [this]
          rw [tmF, hr]
          rfl
      dsimp only
      rw [hk, List.map_append, List.map_singleton, hz, best_zero (fun t ht => by
        obtain ⟨u, _, rfl⟩ := List.mem_map.1 ht
        exact tmF_nonneg _ k u at_), List.length_map]
      have h5 := best_len (l := (keep w (rowE l at_)).map fun u => tmF (rowE l) k u at_) (fun t ht => by
        obtain ⟨u, _, rfl⟩ := List.mem_map.1 ht
        exact tmF_nonneg _ k u at_)
      rw [List.length_map] at h5
      omega
    · have ho : oth v (at_, (n : Int)) = none := by
        unfold oth
        rw [if_neg c, if_neg (by dsimp only; omega)]
      rw [ho]
      dsimp only
      rw [List.append_nil]
      omega
end Go.Proofs.Ytmhfkhlamnapdaa
end
section
open Go Go.HL
namespace Go.Proofs.Ytmhfkhlamnapdaa
abbrev Rds := List (List (Int × Int))
def put (R : Rds) (r : Nat) (p : Int × Int) : Rds := R.set r (R.getD r [] ++ [p])
def spL (f : Int → Nat → Rds → Rds) (v : Int) : List Int → Nat → Rds → Rds
  | [], _, R => R
  | u :: S, r, R => spL f v S (r + 1) (f u (r + 1) (put R r (v, u)))
def spF (row : Int → List Int) (T : Int → Int → Int) : Nat → Int → Int → Nat → Rds → Rds
  | 0, _, _, _, R => R
  | k + 1, v, w, r, R => spL (fun u r' R' => spF row T k u v r' R') v (stable (fun u => T u v) (keep w (row v)).length (keep w (row v))) r R
theorem put_len (R : Rds) (r : Nat) (p : Int × Int) : (put R r p).length = R.length := by simp [put]
theorem spL_len {f : Int → Nat → Rds → Rds} (hf : ∀ u r R, (f u r R).length = R.length) (v : Int) : ∀ (S : List Int) (r : Nat) (R : Rds), (spL f v S r R).length = R.length
  | [], _, _ => rfl
  | u :: S, r, R => by rw [spL, spL_len hf v S, hf, put_len]
theorem spF_len (row : Int → List Int) (T : Int → Int → Int) : ∀ (k : Nat) (v w : Int) (r : Nat) (R : Rds), (spF row T k v w r R).length = R.length
  | 0, _, _, _, _ => rfl
  | k + 1, v, w, r, R => spL_len (fun u r R => spF_len row T k u v r R) v _ r R
def Sh (B : Nat) (R : Rds) : Prop := ∀ q, q ∈ R → q.length ≤ B
theorem Sh.put {B : Nat} {R : Rds} (h : Sh B R) (r : Nat) (p : Int × Int) : Sh (B + 1) (put R r p) := by
  intro q hq
  unfold Go.Proofs.Ytmhfkhlamnapdaa.put at hq
  rcases List.mem_or_eq_of_mem_set hq with hq | rfl
  · have := h q hq; omega
  · rw [List.length_append, List.length_singleton]
    have : (R.getD r []).length ≤ B := by
      rcases Nat.lt_or_ge r R.length with hr | hr
      · have e : R.getD r [] = R[r] := by simp [List.getD, List.getElem?_eq_getElem hr]
        rw [e]; exact h _ (List.getElem_mem hr)
      · have e : R.getD r [] = [] := by simp [List.getD, List.getElem?_eq_none hr]
        rw [e]; exact Nat.zero_le _
    omega
theorem Sh.mono {B C : Nat} {R : Rds} (h : Sh B R) (hc : B ≤ C) : Sh C R := fun q hq => Nat.le_trans (h q hq) hc
def sumC (c : Int → Nat) : List Int → Nat
  | [] => 0
  | u :: S => 1 + c u + sumC c S
end Go.Proofs.Ytmhfkhlamnapdaa
end
section
open Go Go.HL
namespace Go.Proofs.Ytmhfkhlamnapdaa
theorem res54 : Try.f54.results.toList = [] := by kernel_rfl
structure SK (adj : List (List Nat)) (T : Int → Int → Int) (n ob t tb bb sb : Nat) (R : Rds) (H : Heap) : Prop where
  mem : Mem adj T H
  so : SO ob t R H
  ht : H[tb]? = some (boxT n)
  ho : ∃ mx, mx ≤ H.length ∧ H[bb]? = some (.arr 1 [.sl ob 0 t (some t) t 1] true mx)
  hs : ∃ mx, mx ≤ H.length ∧ H[sb]? = some (.arr 1 [.func 54 [] [.ptr tb 0 0 1, .ptr bb 0 0 1, .ptr sb 0 0 1]] true mx)
  len : ob + 1 + t ≤ H.length
structure Pl (ob t tb bb sb : Nat) : Prop where
  two : 2 ≤ ob
  pt : 2 ≤ tb ∧ (tb < ob ∨ ob + t < tb)
  pb : 2 ≤ bb ∧ (bb < ob ∨ ob + t < bb)
  ps : 2 ≤ sb ∧ (sb < ob ∨ ob + t < sb)
structure GrS (adj : List (List Nat)) (T : Int → Int → Int) (n ob t tb bb sb : Nat) (R : Rds) (H H' : Heap) : Prop where
  sk : SK adj T n ob t tb bb sb R H'
  len : H.length ≤ H'.length
  same : ∀ k, k ≠ 1 → (k < ob ∨ ob + t < k) → k < H.length → H'[k]? = H[k]?
  mx : mxs H' ≤ H.length
def SpOk (adj : List (List Nat)) (T : Int → Int → Int) (n ob t tb bb sb : Nat) (v w : Int) (r : Nat) (F : Rds → Rds) (cst : Nat) : Prop :=
  ∀ H R, SK adj T n ob t tb bb sb R H → (∀ q, q ∈ R → q.length + cst ≤ 60) → ∃ H', Cl 54 [.int .i64 v, .int .i64 w, .int .i64 (r : Int), .ptr tb 0 0 1, .ptr bb 0 0 1, .ptr sb 0 0 1] H (.tuple []) H' ∧ GrS adj T n ob t tb bb sb (F R) H H'
section
variable {adj : List (List Nat)} {T : Int → Int → Int} {n ob t tb bb sb : Nat}
theorem SK.take {R : Rds} {H : Heap} (h : SK adj T n ob t tb bb sb R H) {m : Nat} (hm : m ≤ H.length) (hx : mxs H ≤ m) (h1 : ob + 1 + t ≤ m) (h2 : 2 ≤ m) (hb : tb < m ∧ bb < m ∧ sb < m) : SK adj T n ob t tb bb sb R (H.take m) := by
  have get : ∀ k, k < m → (H.take m)[k]? = H[k]? := fun k hk => by rw [List.getElem?_take, if_pos hk]
  have hlen : (H.take m).length = m := by rw [List.length_take]; omega
  obtain ⟨mo, mo1, mo2⟩ := h.so.out
  obtain ⟨m1, _, m2⟩ := h.ho
  obtain ⟨m3, _, m4⟩ := h.hs
  have x1 := mxs_get.1 hx _ _ m2
  have x2 := mxs_get.1 hx _ _ m4
  refine ⟨h.mem.take h2 hm hx, ⟨⟨mo, mo1, by rw [get _ (by omega)]; exact mo2⟩, fun j r hj => ?_, h.so.len⟩, by rw [get _ hb.1]; exact h.ht, ⟨m1, by rw [hlen]; exact x1, by rw [get _ hb.2.1]; exact m2⟩, ⟨m3, by rw [hlen]; exact x2, by rw [get _ hb.2.2]; exact m4⟩, by omega⟩
  have := lt_of_get hj
  rw [h.so.len] at this
  rw [get _ (by omega)]; exact h.so.rows j r hj
end
section
variable {adj : List (List Nat)} {T : Int → Int → Int} {n ob t tb bb sb : Nat}
theorem GrS.cut {R : Rds} {H H' : Heap} (h : GrS adj T n ob t tb bb sb R H H') (h1 : ob + 1 + t ≤ H.length) (h2 : 2 ≤ H.length) (hb : tb < H.length ∧ bb < H.length ∧ sb < H.length) {r : Nat} (hr : r ≤ H.length) :
    SK adj T n ob t tb bb sb R (gc H.length r H') ∧ (gc H.length r H').length = H.length ∧ ∀ k, k ≠ 1 → (k < ob ∨ ob + t < k) → k < H.length → (gc H.length r H')[k]? = H[k]? := by
  have e : gc H.length r H' = H'.take H.length := by
    have := h.mx
    unfold gc
    congr 1
    omega
  rw [e]
  refine ⟨h.sk.take h.len h.mx h1 h2 hb, by rw [List.length_take]; have := h.len; omega, fun k k1 k2 k3 => ?_⟩
  rw [List.getElem?_take, if_pos k3]
  exact h.same k k1 k2 k3
end
end Go.Proofs.Ytmhfkhlamnapdaa
end
section
open Go Go.HL
namespace Go.Proofs.Ytmhfkhlamnapdaa
theorem a44s : tyAgg Try.prog 44 = false := by kernel_rfl
theorem i44s : (Try.prog.underlying 44).isSome = true := by kernel_rfl
theorem a82s : tyAgg Try.prog 82 = false := by kernel_rfl
theorem i82s : (Try.prog.underlying 82).isSome = true := by kernel_rfl
section
variable {adj : List (List Nat)} {T : Int → Int → Int} {n ob t tb bb sb : Nat}
theorem SK.ldO {R : Rds} {H : Heap} (h : SK adj T n ob t tb bb sb R H) : loadV Try.prog H 44 (.ptr bb 0 0 1) = some (.sl ob 0 t (some t) t 1) := by
  obtain ⟨_, _, h1⟩ := h.ho
  exact load_elem h1 rfl rfl rfl a44s i44s
end
section
variable {adj : List (List Nat)} {T : Int → Int → Int} {n ob t tb bb sb : Nat}
theorem SK.ldS {R : Rds} {H : Heap} (h : SK adj T n ob t tb bb sb R H) : loadV Try.prog H 82 (.ptr sb 0 0 1) = some (.func 54 [] [.ptr tb 0 0 1, .ptr bb 0 0 1, .ptr sb 0 0 1]) := by
  obtain ⟨_, _, h1⟩ := h.hs
  exact load_elem h1 rfl rfl rfl a82s i82s
end
section
variable {adj : List (List Nat)} {T : Int → Int → Int} {n ob t tb bb sb : Nat}
theorem SK.upd {R R' : Rds} {H H' : Heap} (h : SK adj T n ob t tb bb sb R H) (hp : Pl ob t tb bb sb) (hM : Mem adj T H') (hS : SO ob t R' H') (hl : H'.length = H.length) (hs : ∀ k, (k < ob ∨ ob + t < k) → H'[k]? = H[k]?) : SK adj T n ob t tb bb sb R' H' := by
  obtain ⟨m1, l1, h1⟩ := h.ho
  obtain ⟨m2, l2, h2⟩ := h.hs
  exact ⟨hM, hS, by rw [hs _ hp.pt.2]; exact h.ht, ⟨m1, by omega, by rw [hs _ hp.pb.2]; exact h1⟩, ⟨m2, by omega, by rw [hs _ hp.ps.2]; exact h2⟩, by rw [hl]; exact h.len⟩
end
section
variable {adj : List (List Nat)} {T : Int → Int → Int} {n ob t tb bb sb : Nat}
abbrev sqE (v w : Int) (r : Nat) (tb bb sb cb k i : Nat) : Env := env54 (.int .i64 v) (.int .i64 w) (.int .i64 (r : Int)) (.ptr tb 0 0 1) (.ptr bb 0 0 1) (.ptr sb 0 0 1) .undef (.sl cb 0 k none k 1) (.int .i64 (k : Int)) (.int .i64 (i : Int))
end
section
variable {adj : List (List Nat)} {T : Int → Int → Int} {n ob t tb bb sb : Nat}
theorem sq_loop {F : Int → Nat → Rds → Rds} {c : Int → Nat} {v w : Int} {cb k : Nat} {S : List Int} (hk : S.length = k) (hk9 : k ≤ 100) (ht9 : t ≤ 1000) (hpl : Pl ob t tb bb sb) (hcb : 2 ≤ cb ∧ (cb < ob ∨ ob + t < cb)) (hT0 : ∀ u, u ∈ S → 0 ≤ T u v)
    (hF : ∀ u, u ∈ S → ∀ r' : Nat, (r' : Int) + T u v ≤ t → SpOk adj T n ob t tb bb sb u v r' (F u r') (c u)) (hc : ∀ u, u ∈ S → ∀ r R B, Sh B R → Sh (B + c u) (F u r R)) :
    ∀ (d i r : Nat) (R : Rds) (H : Heap) (B : Nat), i + d = k → (∀ j, i ≤ j → j < k → (r : Int) + (j - i : Nat) + 1 + T (S.getD j 0) v ≤ t) → SK adj T n ob t tb bb sb R H → H[cb]? = some (bI S) → Sh B R → B + sumC c (S.drop i) ≤ 60 →
    ∃ (r' : Nat) (H' : Heap), RunsTo Try.prog polS 54 (sub [1, 0] B54) (sqE v w r tb bb sb cb k i) H (.exit 0) (polS.keys 54) (sqE v w r' tb bb sb cb k k) H' ∧ SK adj T n ob t tb bb sb (spL F v (S.drop i) r R) H' ∧ H'.length = H.length ∧ ∀ k, k ≠ 1 → (k < ob ∨ ob + t < k) → k < H.length → H'[k]? = H[k]? := by
  intro d
  induction d with
  | zero =>
    intro i r R H B hi hr hS hcbk hB hB2
    have hi : i = k := by omega
    subst hi
    rw [List.drop_of_length_le (by omega), spL]
    exact ⟨r, H, RunsTo.loop_out (sq_l_1 0 v w tb bb sb n H r cb i i ob t .undef (by omega)) (by simp) (by kernel_rfl) (by kernel_rfl), hS, rfl, fun _ _ _ _ => rfl⟩
  | succ d ih =>
    intro i r R H B hi hr hS hcbk hB hB2
    have hiS : i < S.length := by omega
    have hg : S[i] = S.getD i 0 := (getD_at hiS).symm
    have hmem : S.getD i 0 ∈ S := by rw [← hg]; exact List.getElem_mem hiS
    have h0 := hT0 _ hmem
    have hri := hr i (Nat.le_refl _) (by omega)
    rw [Nat.sub_self] at hri
    have hrt : r < t := by omega
    have hrR : r < R.length := by rw [hS.so.len]; exact hrt
    have hRr : R[r]? = some R[r] := List.getElem?_eq_getElem hrR
    have hlen := hS.len
    obtain ⟨H4, H5, g7, g9, hSO, hM4, hM5, hl5, hs4, hs5⟩ := hS.so.push hS.mem hpl.two hlen hRr (by have := hB _ (List.getElem_mem hrR); omega) (v, S.getD i 0)
    have hput : put R r (v, S.getD i 0) = R.set r (R[r] ++ [(v, S.getD i 0)]) := by
      unfold put
      have e : R.getD r [] = R[r] := by simp [List.getD, List.getElem?_eq_getElem hrR]
      rw [e]
    rw [← hput] at hSO
    have hS5 := hS.upd hpl hM5 hSO hl5 hs5
    rw [List.drop_eq_getElem_cons hiS, sumC] at hB2
    obtain ⟨H6, hcl, hG⟩ := hF _ hmem (r + 1) (by omega) H5 (put R r (v, S.getD i 0)) hS5 (fun q hq => by have := hB.put r (v, S.getD i 0) q hq; rw [hg] at hB2; omega)
    obtain ⟨N, hN⟩ := hcl.from
    have hw1 : IntKind.i64.wrap ((r : Int) + 1) = ((r + 1 : Nat) : Int) := by rw [wrapI64]; omega
    have hi44 : idxV Try.prog 44 (.sl ob 0 t (some t) t 1) (.int .i64 (r : Int)) = some (.ptr ob r 0 t) := by
      have := idx_sl (P := Try.prog) (t := 44) (e := 22) (k := 1) (b := ob) (len := t) (tot := t) (cap := some t) (ik := .i64) (n := (r : Int)) (by kernel_rfl) z22sp (by omega) (by omega)
      rwa [Int.toNat_natCast] at this
    have ld4 : loadV Try.prog H4 44 (.ptr bb 0 0 1) = some (.sl ob 0 t (some t) t 1) := by
      obtain ⟨m1, _, h1⟩ := hS.ho
      have hne : bb ≠ ob + 1 + r := by have := hpl.pb.2; omega
      exact load_elem (by rw [hs4 _ hne]; exact h1) rfl rfl rfl a44s i44s
    have gS : (recL ((loadV Try.prog H 44 (.ptr bb 0 0 1)).map (fun v => (v, (H : Heap)))) ((loadV Try.prog H 44 (.ptr bb 0 0 1)).map (fun v => (v, (H : Heap)))) H H && (recL ((loadV Try.prog H 44 (.ptr bb 0 0 1)).map (fun v => (v, (H : Heap)))) ((loadV Try.prog H4 44 (.ptr bb 0 0 1)).map (fun v => (v, (H4 : Heap)))) H H4 && (recL ((loadV Try.prog H 44 (.ptr bb 0 0 1)).map (fun v => (v, (H : Heap)))) ((loadV Try.prog H 44 (.ptr bb 0 0 1)).map (fun v => (v, (H : Heap)))) H H && (recL ((loadV Try.prog H 22 (.ptr ob r 0 t)).map (fun v => (v, (H : Heap)))) ((loadV Try.prog H 22 (.ptr ob r 0 t)).map (fun v => (v, (H : Heap)))) H H && true)))) = true := by
      have q1 := hS.ldO
      have q2 := hS.so.row hRr
      have q3 := hS.mem.rf
      have q4 := hM4.rf
      simp only [q1, ld4, q2, Option.map, recL, prOf, same, q3, q4, beq_self_eq_true, Bool.and_self]
    have s := sq_l_0 N v w tb bb sb n H r cb k i ob t (prOf ob r R[r]) (S.getD i 0) H4 _ H5 H6 (by omega) (gi2 (by omega)) (gl2 hcbk hk (by omega)) hS.ldO hS.ldO hi44 (hS.so.row hRr) g7 hi44 g9 gS hS5.ldS (by rw [hw1]; exact hN)
    rw [hw1, wrap_succ (by omega)] at s
    have hcl2 := lt_of_get hcbk
    obtain ⟨m1, _, o1⟩ := hS.ho
    obtain ⟨m2, _, o2⟩ := hS.hs
    have b1 := lt_of_get hS.ht
    have b2 := lt_of_get o1
    have b3 := lt_of_get o2
    have h2 := hS.mem.two
    obtain ⟨k1, k2, k3⟩ := hG.cut (by rw [hl5]; exact hlen) (by rw [hl5]; exact h2) (by rw [hl5]; exact ⟨b1, b2, b3⟩) (r := bndE (sqE v w (r + 1) tb bb sb cb k (i + 1))) (by rw [hl5]; simp only [bndE, bnd]; omega)
    rw [hl5] at k1 k2 k3
    have hsame : ∀ k, k ≠ 1 → (k < ob ∨ ob + t < k) → k < H.length → (gc H.length (bndE (sqE v w (r + 1) tb bb sb cb (S.length) (i + 1))) H6)[k]? = H[k]? := by
      intro k x1 x2 x3
      rw [hk, k3 k x1 x2 x3, hs5 k x2]
    rw [hk] at hsame
    obtain ⟨r', H', rr, e1, e2, e3⟩ := ih (i + 1) (r + 1) (F (S.getD i 0) (r + 1) (put R r (v, S.getD i 0))) _ (B + 1 + c (S.getD i 0)) (by omega) (fun j j1 j2 => by
      have := hr j (by omega) j2
      have e : (j - i : Nat) = (j - (i + 1) : Nat) + 1 := by omega
      omega) k1 (by rw [hsame cb (by omega) hcb.2 hcl2]; exact hcbk) (hc _ hmem _ _ _ (hB.put r _)) (by rw [hg] at hB2; omega)
    refine ⟨r', H', RunsTo.loop s (by kernel_rfl) rfl rr rfl (by kernel_rfl) (by kernel_rfl), ?_, by rw [e2, k2], fun q q1 q2 q3 => by rw [e3 q q1 q2 (by rw [k2]; exact q3), hsame q q1 q2 q3]⟩
    rw [List.drop_eq_getElem_cons hiS, spL, hg]
    exact e1
end
end Go.Proofs.Ytmhfkhlamnapdaa
end
section
open Go Go.HL
namespace Go.Proofs.Ytmhfkhlamnapdaa
theorem bestGo_ge : ∀ (l : List Int) (i : Nat) (p : Int), p ≤ bestGo i p l
  | [], _, _ => Int.le_refl _
  | t :: l, i, p => by
    rw [bestGo]
    have := bestGo_ge l (i + 1) (max p ((i : Int) + 1 + t))
    omega
section
variable {l : List (Int × Int)} {ρ : Int → Nat} {M : Nat}
theorem Anc.trans {z p r : Int} (h : Anc l ρ z p) (h' : Anc l ρ p r) : Anc l ρ z r := by
  induction h' with
  | refl => exact h
  | step _ h2 h3 ih => exact .step ih h2 h3
end
section
variable {l : List (Int × Int)} {ρ : Int → Nat} {M : Nat}
theorem ds_cover : ∀ (k : Nat) (v w z : Int), Anc l ρ z v → ρ z ≤ ρ v + k → (∀ u, u ∈ rowE l v → ρ v < ρ u → u ≠ w) → z ∈ ds (rowE l) k v w
  | 0, v, w, z, h, hk, _ => by
    cases h with
    | refl => simp [ds]
    | step h1 h2 h3 => have := h1.le; omega
  | k + 1, v, w, z, h, hk, hw => by
    rw [ds]
    cases h with
    | refl => simp
    | step h1 h2 h3 =>
      rename_i u
      have hu := rowE_sym h2
      refine List.mem_cons_of_mem _ (List.mem_flatMap.2 ⟨u, keep_mem.2 ⟨hu, hw u hu h3⟩, ds_cover k u v z h1 (by omega) fun x hx hlt e => ?_⟩)
      rw [e] at hlt
      omega
end
section
variable {l : List (Int × Int)} {ρ : Int → Nat} {M : Nat}
theorem Rtd.anc {n r : Nat} (hR : Rtd l n r ρ) (hv : ∀ p ∈ l, validB (n : Int) p = true) : ∀ (k z : Nat), z < n → ρ (z : Int) ≤ k → Anc l ρ (z : Int) (r : Int)
  | 0, z, hz, hk => by
    by_cases e : z = r
    · rw [e]; exact .refl
    · obtain ⟨u, _, h2⟩ := hR.up z hz e
      omega
  | k + 1, z, hz, hk => by
    by_cases e : z = r
    · rw [e]; exact .refl
    · obtain ⟨u, h1, h2⟩ := hR.up z hz e
      have hu := valid_row hv h1
      have e2 : ((u.toNat : Nat) : Int) = u := by omega
      have := Rtd.anc hR hv k u.toNat (by omega) (by rw [e2]; omega)
      rw [e2] at this
      exact Anc.trans (.step .refl h1 (by omega)) this
end
end Go.Proofs.Ytmhfkhlamnapdaa
end
section
open Go Go.HL
namespace Go.Proofs.Ytmhfkhlamnapdaa
theorem bestGo_at : ∀ (l : List Int) (i j : Nat) (p : Int), j < l.length → (i : Int) + j + 1 + l.getD j 0 ≤ bestGo i p l
  | [], _, _, _, h => by simp at h
  | a :: l, i, 0, p, _ => by
    rw [bestGo]
    have := bestGo_ge l (i + 1) (max p ((i : Int) + 1 + a))
    simp only [List.getD_cons_zero]
    omega
  | a :: l, i, j + 1, p, h => by
    rw [bestGo]
    have := bestGo_at l (i + 1) j (max p ((i : Int) + 1 + a)) (by simpa using h)
    simp only [List.getD_cons_succ]
    omega
section
variable {adj : List (List Nat)} {T : Int → Int → Int} {n ob t tb bb sb : Nat}
theorem SK.ext {R : Rds} {H H' : Heap} (h : SK adj T n ob t tb bb sb R H) (hp : Pl ob t tb bb sb) (hM : Mem adj T H') (hl : H.length ≤ H'.length) (hs : ∀ k, k ≠ 1 → k < H.length → H'[k]? = H[k]?) : SK adj T n ob t tb bb sb R H' := by
  obtain ⟨mo, mo1, mo2⟩ := h.so.out
  obtain ⟨m1, m1l, m2⟩ := h.ho
  obtain ⟨m3, m3l, m4⟩ := h.hs
  have := hp.two
  have := hp.pt.1
  have := hp.pb.1
  have := hp.ps.1
  refine ⟨hM, ⟨⟨mo, mo1, by rw [hs _ (by omega) (lt_of_get mo2)]; exact mo2⟩, fun j r hj => ?_, h.so.len⟩, by rw [hs _ (by omega) (lt_of_get h.ht)]; exact h.ht, ⟨m1, by omega, by rw [hs _ (by omega) (lt_of_get m2)]; exact m2⟩, ⟨m3, by omega, by rw [hs _ (by omega) (lt_of_get m4)]; exact m4⟩, by have := h.len; omega⟩
  have hj2 := h.so.rows j r hj
  rw [hs _ (by omega) (lt_of_get hj2)]; exact hj2
end
section
variable {adj : List (List Nat)} {T : Int → Int → Int} {n ob t tb bb sb : Nat}
theorem sp_step {F : Int → Nat → Rds → Rds} {c : Int → Nat} {v : Nat} {w : Int} {row : List Nat} {r : Nat} {S : List Int} (hS : S = stable (fun u => T u v) (keep w (rowI row)).length (keep w (rowI row))) (hn : adj.length = n) (hr : adj[v]? = some row) (h39 : row.length ≤ 39) (ht9 : t ≤ 1000) (hpl : Pl ob t tb bb sb)
    (hT : ∀ u, u ∈ keep w (rowI row) → TimeOk adj T n u v) (hT0 : ∀ u, u ∈ keep w (rowI row) → 0 ≤ T u v) (hrec : T v w = bestGo 0 0 (S.map fun u => T u v)) (hfit : (r : Int) + T v w ≤ t)
    (hF : ∀ u, u ∈ keep w (rowI row) → ∀ r' : Nat, (r' : Int) + T u v ≤ t → SpOk adj T n ob t tb bb sb u v r' (F u r') (c u)) (hc : ∀ u, u ∈ keep w (rowI row) → ∀ r R B, Sh B R → Sh (B + c u) (F u r R)) (h60 : sumC c S ≤ 60) :
    SpOk adj T n ob t tb bb sb v w r (spL F v S r) (sumC c S) := by
  intro H R hK hR
  have h2 := hK.mem.two
  obtain ⟨Hb, hclb, hMb, hlb, hSb, hlowb, gTb, gIb, hxb⟩ := br_call (w := w) hK.mem hn hr h39 hT
  obtain ⟨Nb, hNb⟩ := hclb.from
  rw [← hS] at hSb
  have hok := stable_ok (fun u => T u v) (n := (keep w (rowI row)).length) (l := keep w (rowI row)) rfl
  rw [← hS] at hok
  have hkl : (keep w (rowI row)).length ≤ 39 := by
    have h1 : (keep w (rowI row)).length ≤ (rowI row).length := List.length_filter_le _ _
    have h2 : (rowI row).length = row.length := by simp [rowI]
    omega
  have hmm : ∀ u, u ∈ S → u ∈ keep w (rowI row) := fun u hu => hok.1.mem_iff.1 hu
  have hSl : S.length = (keep w (rowI row)).length := hok.1.length_eq
  have a := sq_a_0 Nb v w tb bb sb n H r (H.length + 5) (keep w (rowI row)).length Hb (ld_T hK.ht) hNb
  have hKb := hK.ext hpl hMb (by omega) hlowb
  have hlen := hK.len
  obtain ⟨r', Hc, rl, hKc, hlc, hsc⟩ := sq_loop (F := F) (c := c) (v := (v : Int)) (w := w) (cb := H.length + 5) hSl (by omega) ht9 hpl ⟨by omega, .inr (by omega)⟩ (fun u hu => hT0 u (hmm u hu)) (fun u hu => hF u (hmm u hu)) (fun u hu => hc u (hmm u hu)) S.length 0 r R Hb (60 - sumC c S) (by omega) (fun j _ hj => by
    have := bestGo_at (S.map fun u => T u v) 0 j 0 (by rw [List.length_map]; omega)
    rw [← hrec] at this
    have e : (S.map fun u => T u v).getD j 0 = T (S.getD j 0) v := by
      have hj2 : j < S.length := by omega
      simp [List.getD, List.getElem?_eq_getElem hj2]
    rw [e] at this
    simp only [Nat.sub_zero]
    omega) hKb hSb (fun q hq => by have := hR q hq; omega) (by rw [List.drop_zero]; omega)
  rw [List.drop_zero] at hKc
  have rl' := RunsTo.loop_in (e0 := sqE v w r tb bb sb (H.length + 5) (keep w (rowI row)).length 0) rl (b := sub [1, 0, 0] B54) (by kernel_rfl) (by kernel_rfl) (by kernel_rfl)
  have t1 := RunsTo.seq a (RunsTo.block_exit (c := sub [1] B54) rl' (by kernel_rfl)) (c := B54) (by kernel_rfl) (by kernel_rfl)
  refine ⟨gc H.length 0 Hc, CallsTo.shared (P := Try.prog) (pol := polS) (g := 54) (fn := Try.f54) (cd := B54) (v := .tuple []) (by kernel_rfl) (by kernel_rfl) (by kernel_rfl) (by kernel_rfl) t1 (by kernel_rfl) (by simp) (by simp only [resultsV, res54, mapO]), ?_⟩
  have hKm := hK.mem.mx
  obtain ⟨mo, mo1, mo2⟩ := hKc.so.out
  have hin : ∀ (j : Nat) (B : Blk), ob ≤ j → j ≤ ob + t → Hc[j]? = some B → B.mx ≤ H.length := by
    intro j B j1 j2 hB
    by_cases e : j = ob
    · rw [e, mo2] at hB
      rw [← Option.some.inj hB]
      show mo ≤ _
      omega
    · obtain ⟨i, rfl⟩ : ∃ i, j = ob + 1 + i := ⟨j - ob - 1, by omega⟩
      have hi : i < (spL F (↑v) S r R).length := by rw [hKc.so.len]; omega
      rw [hKc.so.rows i _ (List.getElem?_eq_getElem hi)] at hB
      rw [← Option.some.inj hB]
      exact Nat.zero_le _
  have hsame : ∀ k, k ≠ 1 → (k < ob ∨ ob + t < k) → k < H.length → Hc[k]? = H[k]? := fun k k1 k2 k3 => by rw [hsc k k1 k2 (by omega), hlowb k k1 k3]
  have hlo : ∀ (j : Nat) (B : Blk), j < H.length + 2 → Hc[j]? = some B → B.mx ≤ H.length := by
    intro j B hj hB
    by_cases e1 : j = 1
    · obtain ⟨ks, hks⟩ := hKc.mem.memo
      rw [e1, hks] at hB
      rw [← Option.some.inj hB]; exact Nat.zero_le _
    · by_cases e2 : ob ≤ j ∧ j ≤ ob + t
      · exact hin j B e2.1 e2.2 hB
      · by_cases e3 : j < H.length
        · rw [hsame j e1 (by omega) e3] at hB
          exact mxs_get.1 hKm j B hB
        · rw [hsc j e1 (by omega) (by omega)] at hB
          by_cases e4 : j = H.length
          · rw [e4, gTb] at hB
            rw [← Option.some.inj hB]; exact h2
          · have e5 : j = H.length + 1 := by omega
            rw [e5, gIb] at hB
            rw [← Option.some.inj hB]; exact Nat.zero_le _
  have hxc : mxs Hc ≤ H.length + 2 := by
    rw [mxs_get]
    intro j B hB
    by_cases e : j < H.length + 2
    · have := hlo j B e hB; omega
    · rw [hsc j (by omega) (by omega) (by rw [← hlc]; exact lt_of_get hB)] at hB
      exact mxs_get.1 hxb j B hB
  have eg : gc H.length 0 Hc = Hc.take (max H.length (mxs Hc)) := by simp only [gc, Nat.zero_max]
  rw [eg]
  obtain ⟨m1, _, o1⟩ := hK.ho
  obtain ⟨m2, _, o2⟩ := hK.hs
  have b1 := lt_of_get hK.ht
  have b2 := lt_of_get o1
  have b3 := lt_of_get o2
  refine ⟨hKc.take (by omega) (by omega) (by omega) (by omega) ⟨by omega, by omega, by omega⟩, by rw [List.length_take]; omega, fun k k1 k2 k3 => by rw [List.getElem?_take, if_pos (by omega)]; exact hsame k k1 k2 k3, ?_⟩
  rw [mxs_get]
  intro j B hB
  rw [List.getElem?_take] at hB
  split at hB
  · exact hlo j B (by omega) hB
  · cases hB
end
end Go.Proofs.Ytmhfkhlamnapdaa
end
section
open Go Go.HL
namespace Go.Proofs.Ytmhfkhlamnapdaa
abbrev Ev := Nat × Int × Int
def evL (f : Int → Nat → List Ev) (v : Int) : List Int → Nat → List Ev
  | [], _ => []
  | u :: S, r => (r, v, u) :: (f u (r + 1) ++ evL f v S (r + 1))
def evF (row : Int → List Int) (T : Int → Int → Int) : Nat → Int → Int → Nat → List Ev
  | 0, _, _, _ => []
  | k + 1, v, w, r => evL (fun u r' => evF row T k u v r') v (stable (fun u => T u v) (keep w (row v)).length (keep w (row v))) r
def fil (L : List Ev) (R : Rds) : Rds := L.foldl (fun R e => put R e.1 e.2) R
theorem fil_app (L M : List Ev) (R : Rds) : fil (L ++ M) R = fil M (fil L R) := by simp [fil]
theorem spL_ev {f : Int → Nat → Rds → Rds} {g : Int → Nat → List Ev} (h : ∀ u r R, f u r R = fil (g u r) R) (v : Int) : ∀ (S : List Int) (r : Nat) (R : Rds), spL f v S r R = fil (evL g v S r) R
  | [], _, _ => rfl
  | u :: S, r, R => by
    rw [spL, spL_ev h v S, h, evL]
    show _ = fil (g u (r + 1) ++ evL g v S (r + 1)) (put R r (v, u))
    rw [fil_app]
theorem spF_ev (row : Int → List Int) (T : Int → Int → Int) : ∀ (k : Nat) (v w : Int) (r : Nat) (R : Rds), spF row T k v w r R = fil (evF row T k v w r) R
  | 0, _, _, _, _ => rfl
  | k + 1, v, w, r, R => spL_ev (fun u r R => spF_ev row T k u v r R) v _ r R
theorem fil_len : ∀ (L : List Ev) (R : Rds), (fil L R).length = R.length
  | [], _ => rfl
  | e :: L, R => by
    show (fil L (put R e.1 e.2)).length = _
    rw [fil_len L, put_len]
theorem fil_sh {B : Nat} : ∀ (L : List Ev) (R : Rds), Sh B R → Sh (B + L.length) (fil L R)
  | [], _, h => h
  | e :: L, R, h => by
    have := fil_sh L _ (h.put e.1 e.2)
    rw [List.length_cons]
    exact this.mono (by omega)
def rdOf (L : List Ev) (j : Nat) : List (Int × Int) := (L.filter fun e => e.1 == j).map (·.2)
theorem put_get (R : Rds) (r : Nat) (p : Int × Int) (hr : r < R.length) (j : Nat) : (put R r p).getD j [] = R.getD j [] ++ (if r = j then [p] else []) := by
  unfold put
  simp only [List.getD, List.getElem?_set]
  by_cases e : r = j
  · subst e
    simp [hr]
  · simp [e]
theorem fil_get : ∀ (L : List Ev) (R : Rds), (∀ e, e ∈ L → e.1 < R.length) → ∀ j, (fil L R).getD j [] = R.getD j [] ++ rdOf L j
  | [], R, _, j => by simp [fil, rdOf]
  | e :: L, R, h, j => by
    show (fil L (put R e.1 e.2)).getD j [] = _
    rw [fil_get L _ (fun a ha => by rw [put_len]; exact h a (by simp [ha])), put_get _ _ _ (h e (by simp)), List.append_assoc]
    congr 1
    unfold rdOf
    rw [List.filter_cons]
    by_cases c : e.1 = j
    · simp [c]
    · simp [c]
theorem fil_new {L : List Ev} {t : Nat} (h : ∀ e, e ∈ L → e.1 < t) : fil L (List.replicate t []) = (List.range t).map (rdOf L) := by
  apply List.ext_getElem?
  intro j
  have hl := fil_len L (List.replicate t [])
  rw [List.length_replicate] at hl
  by_cases hj : j < t
  · have h1 := fil_get L (List.replicate t []) (by simpa using h) j
    rw [List.getElem?_map, List.getElem?_range hj]
    have h2 : (fil L (List.replicate t [])).getD j [] = (fil L (List.replicate t []))[j]'(by omega) := by simp [List.getD, List.getElem?_eq_getElem (show j < (fil L (List.replicate t [])).length by omega)]
    have h3 : (List.replicate t ([] : List (Int × Int))).getD j [] = [] := by simp [List.getD, List.getElem?_replicate, hj]
    rw [List.getElem?_eq_getElem (by omega), ← h2, h1, h3]
    rfl
  · rw [List.getElem?_eq_none (by omega), List.getElem?_eq_none (by simp; omega)]
theorem evL_mem {f : Int → Nat → List Ev} {v : Int} {e : Ev} : ∀ {S : List Int} {r : Nat}, e ∈ evL f v S r → ∃ (i : Nat) (u : Int), S[i]? = some u ∧ (e = (r + i, v, u) ∨ e ∈ f u (r + i + 1))
  | [], _, h => by cases h
  | u :: S, r, h => by
    rw [evL] at h
    rcases List.mem_cons.1 h with rfl | h
    · exact ⟨0, u, rfl, .inl rfl⟩
    · rcases List.mem_append.1 h with h | h
      · exact ⟨0, u, rfl, .inr h⟩
      · obtain ⟨i, z, h1, h2⟩ := evL_mem h
        refine ⟨i + 1, z, by simpa using h1, ?_⟩
        rw [show r + (i + 1) = r + 1 + i by omega]
        exact h2
theorem mem_evL {f : Int → Nat → List Ev} {v : Int} : ∀ {S : List Int} {r : Nat} {i : Nat} {u : Int}, S[i]? = some u → (r + i, v, u) ∈ evL f v S r ∧ ∀ e, e ∈ f u (r + i + 1) → e ∈ evL f v S r
  | [], _, _, _, h => by simp at h
  | a :: S, r, 0, u, h => by
    have : a = u := by simpa using h
    subst this
    rw [evL]
    exact ⟨by simp, fun e he => by simp at he ⊢; simp [he]⟩
  | a :: S, r, i + 1, u, h => by
    obtain ⟨h1, h2⟩ := mem_evL (f := f) (v := v) (S := S) (r := r + 1) (i := i) (u := u) (by simpa using h)
    rw [evL, show r + (i + 1) = r + 1 + i by omega]
    exact ⟨by simp [h1], fun e he => by simp [h2 e he]⟩
abbrev clr (e : Ev) : Int := e.2.1
abbrev cld (e : Ev) : Int := e.2.2
theorem evL_cld {f : Int → Nat → List Ev} {D : Int → List Int} (v : Int) : ∀ (S : List Int) (r : Nat), (∀ u, u ∈ S → ∀ r, (u :: (f u r).map cld).Perm (D u)) → ((evL f v S r).map cld).Perm (S.flatMap D)
  | [], _, _ => .refl _
  | u :: S, r, h => by
    rw [evL, List.map_cons, List.map_append, List.flatMap_cons]
    exact ((h u (by simp) (r + 1)).append (evL_cld v S (r + 1) fun z hz => h z (by simp [hz])))
theorem stb (T : Int → Int → Int) (v : Int) (K : List Int) : (stable (fun u => T u v) K.length K).Perm K := (stable_ok (fun u => T u v) (n := K.length) (l := K) rfl).1
theorem evF_cld (row : Int → List Int) (T : Int → Int → Int) : ∀ (k : Nat) (v w : Int) (r : Nat), (v :: (evF row T k v w r).map cld).Perm (ds row k v w)
  | 0, v, w, r => .refl _
  | k + 1, v, w, r => by
    rw [evF, ds]
    refine List.Perm.cons _ ?_
    exact (evL_cld v _ r fun u _ r => evF_cld row T k u v r).trans ((stb T v (keep w (row v))).flatMap_right _)
theorem evF_len (row : Int → List Int) (T : Int → Int → Int) (k : Nat) (v w : Int) (r : Nat) : (evF row T k v w r).length + 1 = (ds row k v w).length := by
  have := (evF_cld row T k v w r).length_eq
  simpa using this
theorem evF_ge (row : Int → List Int) (T : Int → Int → Int) : ∀ (k : Nat) (v w : Int) (r : Nat) (e : Ev), e ∈ evF row T k v w r → r ≤ e.1
  | 0, _, _, _, _, h => by cases h
  | k + 1, v, w, r, e, h => by
    rw [evF] at h
    obtain ⟨i, u, _, h2⟩ := evL_mem h
    rcases h2 with rfl | h2
    · show r ≤ r + i; omega
    · have := evF_ge row T k u v _ e h2; omega
theorem evF_clr (row : Int → List Int) (T : Int → Int → Int) : ∀ (k : Nat) (v w : Int) (r : Nat) (e : Ev), e ∈ evF row T k v w r → clr e = v ∨ ∃ e', e' ∈ evF row T k v w r ∧ cld e' = clr e ∧ e'.1 < e.1
  | 0, _, _, _, _, h => by cases h
  | k + 1, v, w, r, e, h => by
    rw [evF] at h
    obtain ⟨i, u, h1, h2⟩ := evL_mem h
    obtain ⟨g1, g2⟩ := mem_evL (f := fun u r' => evF row T k u v r') (v := v) (r := r) h1
    rcases h2 with rfl | h2
    · exact .inl rfl
    · right
      have hge := evF_ge row T k u v _ e h2
      rcases evF_clr row T k u v _ e h2 with h3 | ⟨e', h3, h4, h5⟩
      · exact ⟨_, g1, h3.symm, by show r + i < e.1; omega⟩
      · exact ⟨e', g2 e' h3, h4, h5⟩
theorem evF_row (row : Int → List Int) (T : Int → Int → Int) : ∀ (k : Nat) (v w : Int) (r : Nat) (e : Ev), e ∈ evF row T k v w r → cld e ∈ row (clr e)
  | 0, _, _, _, _, h => by cases h
  | k + 1, v, w, r, e, h => by
    rw [evF] at h
    obtain ⟨i, u, h1, h2⟩ := evL_mem h
    rcases h2 with rfl | h2
    · have : u ∈ keep w (row v) := (stb T v (keep w (row v))).mem_iff.1 (List.mem_of_getElem? h1)
      exact (keep_mem.1 this).1
    · exact evF_row row T k u v _ e h2
abbrev rc (e : Ev) : Nat × Int := (e.1, e.2.1)
theorem evL_once {f : Int → Nat → List Ev} {D : Int → List Int} {v : Int} : ∀ {S : List Int} {r : Nat}, (v :: S.flatMap D).Nodup → (∀ u, u ∈ S → ∀ r, ((f u r).map rc).Nodup ∧ ∀ e, e ∈ f u r → clr e ∈ D u) → ((evL f v S r).map rc).Nodup ∧ ∀ e, e ∈ evL f v S r → (clr e = v ∧ r ≤ e.1) ∨ clr e ∈ S.flatMap D
  | [], _, _, _ => by simp [evL]
  | u :: S, r, hn, hf => by
    rw [List.nodup_cons, List.flatMap_cons, List.mem_append, List.nodup_append] at hn
    obtain ⟨hv, hn1, hn2, hn3⟩ := hn
    obtain ⟨a1, a2⟩ := evL_once (f := f) (v := v) (S := S) (r := r + 1) (D := D) (by rw [List.nodup_cons]; exact ⟨fun h => hv (.inr h), hn2⟩) (fun z hz => hf z (by simp [hz]))
    obtain ⟨b1, b2⟩ := hf u (by simp) (r + 1)
    rw [evL]
    refine ⟨?_, fun e he => ?_⟩
    · rw [List.map_cons, List.nodup_cons, List.map_append]
      refine ⟨fun h => ?_, List.nodup_append.2 ⟨b1, a1, fun x hx y hy e => ?_⟩⟩
      · rcases List.mem_append.1 h with h | h
        · obtain ⟨e, he, h1⟩ := List.mem_map.1 h
          have h2 := b2 e he
          have : clr e = v := congrArg Prod.snd h1
          rw [this] at h2
          exact hv (.inl h2)
        · obtain ⟨e, he, h1⟩ := List.mem_map.1 h
          have h3 : clr e = v := congrArg Prod.snd h1
          have h4 : e.1 = r := congrArg Prod.fst h1
          rcases a2 e he with ⟨_, h2⟩ | h2
          · omega
          · rw [h3] at h2; exact hv (.inr h2)
      · subst e
        obtain ⟨e1, he1, h1⟩ := List.mem_map.1 hx
        obtain ⟨e2, he2, h2⟩ := List.mem_map.1 hy
        have h3 := b2 e1 he1
        have h5 : clr e1 = clr e2 := (congrArg Prod.snd h1).trans (congrArg Prod.snd h2).symm
        rcases a2 e2 he2 with ⟨h4, _⟩ | h4
        · rw [h5, h4] at h3; exact hv (.inl h3)
        · exact hn3 _ h3 _ h4 h5
    · rcases List.mem_cons.1 he with rfl | he
      · exact .inl ⟨rfl, Nat.le_refl _⟩
      · rcases List.mem_append.1 he with he | he
        · right; rw [List.flatMap_cons]; exact List.mem_append_left _ (b2 e he)
        · rcases a2 e he with ⟨h1, h2⟩ | h1
          · exact .inl ⟨h1, by omega⟩
          · right; rw [List.flatMap_cons]; exact List.mem_append_right _ h1
theorem nodup_fm {D : Int → List Int} : ∀ {K : List Int}, (K.flatMap D).Nodup → ∀ u, u ∈ K → (D u).Nodup
  | [], _, _, h => by cases h
  | a :: K, h, u, hu => by
    rw [List.flatMap_cons, List.nodup_append] at h
    rcases List.mem_cons.1 hu with rfl | hu
    · exact h.1
    · exact nodup_fm h.2.1 u hu
theorem evF_once (row : Int → List Int) (T : Int → Int → Int) : ∀ (k : Nat) (v w : Int) (r : Nat), (ds row k v w).Nodup → ((evF row T k v w r).map rc).Nodup ∧ ∀ e, e ∈ evF row T k v w r → clr e ∈ ds row k v w
  | 0, _, _, _, _ => by simp [evF]
  | k + 1, v, w, r, h => by
    rw [evF]
    rw [ds] at h ⊢
    have hp := (stb T v (keep w (row v))).flatMap_right (fun u => ds row k u v)
    have hsub : ∀ u, u ∈ stable (fun u => T u v) (keep w (row v)).length (keep w (row v)) → (ds row k u v).Nodup := fun u hu => by
      have hu' := (stb T v (keep w (row v))).mem_iff.1 hu
      have h2 := (List.nodup_cons.1 h).2
      exact nodup_fm h2 u hu'
    obtain ⟨a1, a2⟩ := evL_once (f := fun u r' => evF row T k u v r') (D := fun u => ds row k u v) (r := r) ((hp.cons v).nodup_iff.2 h) (fun u hu r => evF_once row T k u v r (hsub u hu))
    refine ⟨a1, fun e he => ?_⟩
    rcases a2 e he with ⟨h1, _⟩ | h1
    · rw [h1]; simp
    · exact List.mem_cons_of_mem _ (hp.mem_iff.1 h1)
end Go.Proofs.Ytmhfkhlamnapdaa
end
section
open Go Go.HL
namespace Go.Proofs.Ytmhfkhlamnapdaa
theorem ds_pos (row : Int → List Int) : ∀ (k : Nat) (v w : Int), 1 ≤ (ds row k v w).length
  | 0, _, _ => Nat.le_refl _
  | k + 1, v, w => by rw [ds, List.length_cons]; omega
theorem sumC_ds (row : Int → List Int) (k : Nat) (v : Int) : ∀ S : List Int, sumC (fun u => (ds row k u v).length - 1) S = (S.flatMap fun u => ds row k u v).length
  | [] => rfl
  | u :: S => by
    have := ds_pos row k u v
    rw [sumC, sumC_ds row k v S, List.flatMap_cons, List.length_append]
    omega
theorem spOk_all {adj : List (List Nat)} {row : Int → List Int} {G : Int → Int → Prop} {μ : Int → Int → Nat} {ob t tb bb sb : Nat} (hM : Msr row G μ) (hrow : ∀ v, (row v).length ≤ 39)
    (hA : ∀ v w, G v w → ∃ (a : Nat) (r : List Nat), v = (a : Int) ∧ adj[a]? = some r ∧ rowI r = row v) (hpl : Pl ob t tb bb sb) (ht9 : t ≤ 1000) : ∀ (k : Nat) (v w : Int), G v w → μ v w < k → k ≤ 150 → (ds row k v w).length ≤ 61 → ∀ r : Nat, (r : Int) + tm row v w ≤ t →
    SpOk adj (tm row) adj.length ob t tb bb sb v w r (spF row (tm row) k v w r) ((ds row k v w).length - 1)
  | 0, _, _, _, h, _, _, _, _ => by omega
  | k + 1, v, w, hG, h, hk, hd, r, hr => by
    obtain ⟨a, rr, rfl, h1, h2⟩ := hA v w hG
    have hl : rr.length ≤ 39 := by have := hrow a; rw [← h2] at this; simpa [rowI] using this
    have hin : ∀ u, u ∈ keep w (rowI rr) → G u a ∧ μ u a < k := fun u hu => by
      rw [h2] at hu
      obtain ⟨h3, h4⟩ := hM.step _ _ hG u hu
      exact ⟨h3, by omega⟩
    have hsum : sumC (fun u => (ds row k u a).length - 1) (stable (fun u => tm row u a) (keep w (rowI rr)).length (keep w (rowI rr))) = (ds row (k + 1) a w).length - 1 := by
      rw [sumC_ds, ds, List.length_cons, h2, ((stb (tm row) a (keep w (row a))).flatMap_right fun u => ds row k u a).length_eq]
      omega
    have hlt : ∀ u, u ∈ keep w (rowI rr) → (ds row k u a).length ≤ 61 := fun u hu => by
      rw [h2] at hu
      have h3 : (ds row (k + 1) a w).length = ((keep w (row a)).flatMap fun u => ds row k u a).length + 1 := by rw [ds, List.length_cons]
      have h4 : ∀ K : List Int, u ∈ K → (ds row k u a).length ≤ (K.flatMap fun u => ds row k u a).length := by
        intro K
        induction K with
        | nil => intro h; cases h
        | cons z K ih =>
          intro h
          rw [List.flatMap_cons, List.length_append]
          rcases List.mem_cons.1 h with rfl | h
          · omega
          · have := ih h; omega
      have := h4 _ hu
      omega
    have hst := stable_dsort (fun u => tm row u a) (keep w (rowI rr))
    have := sp_step (adj := adj) (T := tm row) (n := adj.length) (ob := ob) (t := t) (tb := tb) (bb := bb) (sb := sb) (F := fun u r' R' => spF row (tm row) k u a r' R') (c := fun u => (ds row k u a).length - 1) (v := a) (w := w) (row := rr) (r := r) rfl rfl h1 hl ht9 hpl
      (fun u hu => timeOk_all hM hrow hA k u a (hin u hu).1 (hin u hu).2 (by omega)) (fun u _ => (tm_bd hrow u a).1)
      (by rw [hst, h2]; exact tm_rec hM hG (by omega)) hr
      (fun u hu r' hr' => spOk_all hM hrow hA hpl ht9 k u a (hin u hu).1 (hin u hu).2 (by omega) (hlt u hu) r' hr')
      (fun u _ r R B hB => by
        have h3 := evF_len row (tm row) k u a r
        rw [spF_ev]
        have := fil_sh (evF row (tm row) k u a r) R hB
        rwa [show (evF row (tm row) k u a r).length = (ds row k u a).length - 1 by omega] at this)
      (by rw [hsum]; omega)
    rw [hsum] at this
    rw [h2] at this
    exact this
end Go.Proofs.Ytmhfkhlamnapdaa
end
section
open Go Go.HL
namespace Go.Proofs.Ytmhfkhlamnapdaa
theorem res31 : Try.f31.results.toList = [.tmp 6, .tmp 7] := by kernel_rfl
theorem Mem.grow {adj : List (List Nat)} {T : Int → Int → Int} {H H' : Heap} (h : Mem adj T H) (hl : H.length ≤ H'.length) (hs : ∀ k, k < H.length → H'[k]? = H[k]?) (hB : ∀ (k : Nat) (B : Blk), H.length ≤ k → H'[k]? = some B → sameH [B] [B] = true ∧ B.mx ≤ H'.length) : Mem adj T H' := by
  obtain ⟨ks, hk⟩ := h.memo
  have h2 := h.two
  refine ⟨by rw [hs _ (by omega)]; exact h.near, ⟨ks, by rw [hs _ (by omega)]; exact hk⟩, sameH_iff.2 fun B hB' => ?_, mxs_get.2 fun j B hj => ?_⟩
  · obtain ⟨j, hj⟩ := List.mem_iff_getElem?.1 hB'
    by_cases c : j < H.length
    · rw [hs j c] at hj
      exact sameH_iff.1 h.rf B (List.mem_of_getElem? hj)
    · exact (hB j B (by omega) hj).1
  · by_cases c : j < H.length
    · rw [hs j c] at hj
      have := mxs_get.1 h.mx j B hj; omega
    · exact (hB j B (by omega) hj).2
def spR (l : List (Int × Int)) (x : Int) : Rds := spF (rowE l) (tm (rowE l)) 150 x (-1) 0 (List.replicate (tm (rowE l) x (-1)).toNat [])
theorem spR_len (l : List (Int × Int)) (x : Int) : (spR l x).length = (tm (rowE l) x (-1)).toNat := by rw [spR, spF_len, List.length_replicate]
abbrev fB (ob bb sb : Nat) : HV := .func 54 [] [.ptr 2 0 0 1, .ptr bb 0 0 1, .ptr sb 0 0 1]
theorem spread_run {m : Nat} {l : List (Int × Int)} {x : Int} (hok : treeOk (m : Int) l = true) (hx : 0 ≤ x ∧ x ≤ (m : Int) - 1) : ∃ E H ob, RunsTo Try.prog polS 31 B31 (args0 [.int .i64 (m : Int), .imm .arg 2 (l.map encP), .int .i64 x]) [] .ret (polS.keys 31) E H ∧
    resultsV Try.prog Try.f31 E H = some (.tuple [.sl ob 0 (spR l x).length (some (spR l x).length) (spR l x).length 1, .int .i64 0]) ∧ SO ob (spR l x).length (spR l x) H := by
  have hok0 := hok
  rw [treeOk, Bool.and_eq_true, decide_eq_true_eq, Int.toNat_natCast] at hok
  obtain ⟨hg, hb⟩ := hok
  have hv := List.all_eq_true.1 hg.2
  have hA := adjOf_inv hv
  have hw : IntKind.i64.wrap ((m : Int) - 1) = (m : Int) - 1 := by rw [wrapI64]; omega
  obtain ⟨xn, rfl⟩ : ∃ k : Nat, x = (k : Int) := ⟨x.toNat, by omega⟩
  have a := sfd_a_0 0 (m : Int) (l.map encP) (xn : Int)
  have b := sfd_b_0 0 (m : Int) (l.map encP) (xn : Int) m _ (s46_ok hg true hb)
  have c := sfd_c_0 0 (m : Int) (l.map encP) (xn : Int) m ((adjOf m l).map rowO) (by rw [hw]; exact s49 _ _ _ true (decide_eq_true hx))
  have hM : Mem (adjOf m l) (tm (rowE l)) [.arr 1 ((adjOf m l).map rowO) true 0, .map [] [] 0, boxT m] := (mem_start (adjOf m l) (tm (rowE l))).app (same_T m) (by show 2 ≤ _; simp)
  obtain ⟨H0, hcl, hG⟩ := (tree_time hok0 (x := (xn : Int)) (by omega)).1 _ hM
  obtain ⟨N, hN⟩ := hcl.from
  have hT0 := (tm_bd (row := rowE l) (fun v => by have := rowE_len l v; omega) (xn : Int) (-1)).1
  have hTs := tree_small hok0 (x := xn) (by omega)
  obtain ⟨t, ht⟩ : ∃ t : Nat, tm (rowE l) (xn : Int) (-1) = (t : Int) := ⟨(tm (rowE l) xn (-1)).toNat, by omega⟩
  have hRl : (spR l (xn : Int)).length = t := by rw [spR_len, ht]; omega
  rw [hRl]
  rw [ht] at hN hTs
  have hg0 : H0[2]? = some (boxT m) := by rw [hG.same 2 (by omega) (by simp)]; rfl
  have hl3 : 3 ≤ H0.length := hG.len
  -- the memory that 'Spread' makes
  generalize hH1 : H0 ++ [Blk.arr 1 (prsF H0.length (List.replicate t [])) true (H0.length + 1 + t)] ++ List.replicate t (.arr 2 [] true 0) = H1
  have hmk := makeRounds (n := t) (by omega) H0
  rw [hH1] at hmk
  have hl1 : H1.length = H0.length + 1 + t := by rw [← hH1]; simp; omega
  have hSO1 : SO H0.length t (List.replicate t []) H1 := by rw [← hH1]; exact SO.init t H0
  have hlow1 : ∀ k, k < H0.length → H1[k]? = H0[k]? := fun k hk => by rw [← hH1, List.append_assoc, List.getElem?_append_left hk]
  have hhi1 : ∀ (k : Nat) (B : Blk), H0.length ≤ k → H1[k]? = some B → sameH [B] [B] = true ∧ B.mx ≤ H0.length + 1 + t := by
    intro k B hk hB
    by_cases e : k = H0.length
    · obtain ⟨mx, h1, h2⟩ := hSO1.out
      rw [e, h2] at hB
      rw [← Option.some.inj hB]
      exact ⟨same_prsF _ _ _ _, h1⟩
    · have hkl := lt_of_get hB
      obtain ⟨j, rfl⟩ : ∃ j, k = H0.length + 1 + j := ⟨k - H0.length - 1, by omega⟩
      have := hSO1.rows j [] (by rw [List.getElem?_replicate, if_pos (by omega)])
      rw [this] at hB
      rw [← Option.some.inj hB]
      exact ⟨same_prsB [], Nat.zero_le _⟩
  have hst : storeV Try.prog (H1 ++ [Blk.arr 1 [HV.sl (H1.length + 1) 0 0 none 0 1] true (H1.length + 2), Blk.arr 1 [] true 0]) 44 (.ptr H1.length 0 0 1) (.sl H0.length 0 t (some t) t 1) = some (H1 ++ [Blk.arr 1 [.sl H0.length 0 t (some t) t 1] true (max (H1.length + 2) (H0.length + 1)), Blk.arr 1 [] true 0]) := by
    have h1 : (H1 ++ [Blk.arr 1 [HV.sl (H1.length + 1) 0 0 none 0 1] true (H1.length + 2), Blk.arr 1 [] true 0])[H1.length]? = some (Blk.arr 1 [HV.sl (H1.length + 1) 0 0 none 0 1] true (H1.length + 2)) := by rw [List.getElem?_append_right (Nat.le_refl _)]; simp
    have hz : tySize Try.prog 44 = some 1 := by kernel_rfl
    have hcv : [HV.sl H0.length 0 t (some t) t 1].all cellV = true := rfl
    have hc2 : cellsOf (HV.sl H0.length 0 t (some t) t 1) = [HV.sl H0.length 0 t (some t) t 1] := rfl
    have hc1 : cellsOf (HV.sl (H1.length + 1) 0 0 none 0 1) = [HV.sl (H1.length + 1) 0 0 none 0 1] := rfl
    simp only [storeV, h1, List.getElem?_cons_zero, hc1, hc2, hcv, hz, List.length_singleton]
    rw [if_pos ⟨trivial, trivial⟩, if_pos ⟨by omega, trivial, by omega⟩, List.set_append_right _ _ (Nat.le_refl _), Nat.sub_self]
    rfl
  have d := sfd_d_0 N (m : Int) (l.map encP) (xn : Int) m [.arr 1 ((adjOf m l).map rowO) true 0, .map [] [] 0, boxT m] H0.length H1.length (H1.length + 2) t H0 H1 _ _ (ld_T rfl) hN hmk rfl hst
  generalize hH3 : H1 ++ [Blk.arr 1 [.sl H0.length 0 t (some t) t 1] true (max (H1.length + 2) (H0.length + 1)), Blk.arr 1 [] true 0] = H3 at d
  have hl3' : H3.length = H1.length + 2 := by rw [← hH3]; simp
  have e := sfd_e_0 0 (m : Int) (l.map encP) (xn : Int) m H3 H0.length H1.length (H1.length + 2) t (H3 ++ [Blk.arr 1 [.nilFunc] true 0]) (by rw [← hl3']; rfl)
  have hst2 : storeV Try.prog (H3 ++ [Blk.arr 1 [.nilFunc] true 0]) 82 (.ptr (H1.length + 2) 0 0 1) (fB H0.length H1.length (H1.length + 2)) = some (H3 ++ [Blk.arr 1 [fB H0.length H1.length (H1.length + 2)] true (H1.length + 3)]) := by
    have h1 : (H3 ++ [Blk.arr 1 [HV.nilFunc] true 0])[H1.length + 2]? = some (Blk.arr 1 [HV.nilFunc] true 0) := by rw [← hl3', List.getElem?_append_right (Nat.le_refl _)]; simp
    have hz : tySize Try.prog 82 = some 1 := by kernel_rfl
    have hcv : [fB H0.length H1.length (H1.length + 2)].all cellV = true := rfl
    have hc2 : cellsOf (fB H0.length H1.length (H1.length + 2)) = [fB H0.length H1.length (H1.length + 2)] := rfl
    have hc1 : cellsOf HV.nilFunc = [HV.nilFunc] := rfl
    simp only [storeV, h1, List.getElem?_cons_zero, hc1, hc2, hcv, hz, List.length_singleton]
    rw [if_pos ⟨trivial, trivial⟩, if_pos ⟨by omega, trivial, by omega⟩, ← hl3', List.set_append_right _ _ (Nat.le_refl _), Nat.sub_self]
    congr 3
    simp only [List.set_cons_zero]
    congr 1
    simp [bnd, bndL, fB]
    omega
  have f := sfd_f_0 0 (m : Int) (l.map encP) (xn : Int) m _ H0.length H1.length (H1.length + 2) t _ hst2
  generalize hH4 : H3 ++ [Blk.arr 1 [fB H0.length H1.length (H1.length + 2)] true (H1.length + 3)] = H4 at f
  have hl4 : H4.length = H1.length + 3 := by rw [← hH4]; simp; omega
  have hlow4 : ∀ k, k < H1.length → H4[k]? = H1[k]? := fun k hk => by rw [← hH4, List.getElem?_append_left (by omega), ← hH3, List.getElem?_append_left hk]
  have hb4 : H4[H1.length]? = some (Blk.arr 1 [.sl H0.length 0 t (some t) t 1] true (max (H1.length + 2) (H0.length + 1))) := by
    rw [← hH4, List.getElem?_append_left (by omega), ← hH3, List.getElem?_append_right (Nat.le_refl _)]; simp
  have he4 : H4[H1.length + 1]? = some (Blk.arr 1 [] true 0) := by
    rw [← hH4, List.getElem?_append_left (by omega), ← hH3, List.getElem?_append_right (by omega)]; simp
  have hs4 : H4[H1.length + 2]? = some (Blk.arr 1 [fB H0.length H1.length (H1.length + 2)] true (H1.length + 3)) := by
    rw [← hH4, ← hl3', List.getElem?_append_right (Nat.le_refl _)]; simp
  have hM4 : Mem (adjOf m l) (tm (rowE l)) H4 := hG.mem.grow (by omega) (fun k hk => by rw [hlow4 k (by omega), hlow1 k hk]) (fun k B hk hB => by
    by_cases c1 : k < H1.length
    · rw [hlow4 k c1] at hB
      obtain ⟨q1, q2⟩ := hhi1 k B hk hB
      exact ⟨q1, by omega⟩
    · have hkl := lt_of_get hB
      by_cases c2 : k = H1.length
      · rw [c2, hb4] at hB
        rw [← Option.some.inj hB]
        refine ⟨by simp [sameH, sameL, same], ?_⟩
        show max _ _ ≤ _
        omega
      · by_cases c3 : k = H1.length + 1
        · rw [c3, he4] at hB
          rw [← Option.some.inj hB]
          exact ⟨by simp [sameH, sameL], Nat.zero_le _⟩
        · have c4 : k = H1.length + 2 := by omega
          rw [c4, hs4] at hB
          rw [← Option.some.inj hB]
          refine ⟨by simp [sameH, sameL, same], ?_⟩
          show H1.length + 3 ≤ _
          omega)
  have hSO4 : SO H0.length t (List.replicate t []) H4 := by
    obtain ⟨mx, h1, h2⟩ := hSO1.out
    refine ⟨⟨mx, h1, by rw [hlow4 _ (by omega)]; exact h2⟩, fun j r hj => ?_, hSO1.len⟩
    have := hSO1.rows j r hj
    rw [hlow4 _ (lt_of_get this)]; exact this
  have hK4 : SK (adjOf m l) (tm (rowE l)) m H0.length t 2 H1.length (H1.length + 2) (List.replicate t []) H4 := ⟨hM4, hSO4, by rw [hlow4 _ (by omega), hlow1 _ (by omega)]; exact hg0, ⟨_, by omega, hb4⟩, ⟨_, by omega, hs4⟩, by omega⟩
  have hpl : Pl H0.length t 2 H1.length (H1.length + 2) := ⟨by omega, ⟨Nat.le_refl _, .inl (by omega)⟩, ⟨by omega, .inr (by omega)⟩, ⟨by omega, .inr (by omega)⟩⟩
  -- the calls
  have hR := (tree_rtd hok0).2.2 xn (by omega)
  have hll := (tree_rtd hok0).1
  obtain ⟨hO, _⟩ := hR.ori (by omega) hv hll.2
  have hD : Dn l (fun v => ((bfs (fun y => (adjOf m l).getD y []) m xn).getD v.toNat 0).toNat) (xn : Int) (-1) := by
    intro u hu
    have hne := hO.neq (keep_mem.1 hu).1
    have h0 := hR.root
    dsimp only at hne h0 ⊢
    omega
  have hdl := ints_len (ds_nodup hO 150 xn (-1) hD) (fun z hz => ds_range hv 150 xn (-1) z ⟨by omega, by omega⟩ hz)
  have hmu := mu_le l (fun v => ((bfs (fun y => (adjOf m l).getD y []) m xn).getD v.toNat 0).toNat) m (xn : Int) (-1) (by
    have := hR.le xn (by omega)
    exact this)
  have hSp := spOk_all (adj := adjOf m l) (ob := H0.length) (t := t) (tb := 2) (bb := H1.length) (sb := H1.length + 2) (hO.msr hv) (fun v => by have := rowE_len l v; omega) (fun v w hG => by
      obtain ⟨⟨h1, h2⟩, _⟩ := hG
      obtain ⟨r, h3, h4⟩ := adjOf_row hv (x := v.toNat) (by omega)
      have e : ((v.toNat : Nat) : Int) = v := by omega
      rw [e] at h4
      exact ⟨v.toNat, r, e.symm, h3, h4⟩) hpl (by omega) 150 (xn : Int) (-1) ⟨⟨by omega, by omega⟩, .inl rfl⟩ (by omega) (by omega) (by omega) 0 (by rw [ht]; omega)
  rw [hA.len] at hSp
  obtain ⟨H5, hc5, hG5⟩ := hSp H4 (List.replicate t []) hK4 (fun q hq => by rw [(List.mem_replicate.1 hq).2]; simp only [List.length_nil]; omega)
  obtain ⟨N5, hN5⟩ := hc5.from
  have g := sfd_g_0 N5 (m : Int) (l.map encP) (xn : Int) m H4 H0.length H1.length (H1.length + 2) t H5 (hK4.ldS) hN5
  have z := sfd_z_0 0 (m : Int) (l.map encP) (xn : Int) m H5 H0.length H1.length (H1.length + 2) t hG5.sk.ldO
  have t1 := RunsTo.seq g z (c := sub [1, 1, 1, 1, 1, 1] B31) (by kernel_rfl) (by kernel_rfl)
  have t2 := RunsTo.seq f t1 (c := sub [1, 1, 1, 1, 1] B31) (by kernel_rfl) (by kernel_rfl)
  have t3 := RunsTo.seq e t2 (c := sub [1, 1, 1, 1] B31) (by kernel_rfl) (by kernel_rfl)
  have t4 := RunsTo.seq d t3 (c := sub [1, 1, 1] B31) (by kernel_rfl) (by kernel_rfl)
  have t5 := RunsTo.seq c t4 (c := sub [1, 1] B31) (by kernel_rfl) (by kernel_rfl)
  have t6 := RunsTo.seq b t5 (c := sub [1] B31) (by kernel_rfl) (by kernel_rfl)
  refine ⟨_, H5, H0.length, RunsTo.seq a t6 (c := B31) (by kernel_rfl) (by kernel_rfl), by simp only [resultsV, res31, mapO, resultV]; rfl, ?_⟩
  have hS5 := hG5.sk.so
  have hdef : spR l (xn : Int) = spF (rowE l) (tm (rowE l)) 150 (xn : Int) (-1) 0 (List.replicate t []) := by rw [spR, ht]; rfl
  rw [hdef]
  exact hS5
end Go.Proofs.Ytmhfkhlamnapdaa
end
section
open Go Go.HL
namespace Go.Proofs.Ytmhfkhlamnapdaa
def encQ (r : List (Int × Int)) : HV := .imm .own 2 (r.map encP)
theorem mapO_gen {α : Type} {f : HV → Option HV} {g : α → HV} : ∀ {l : List HV} {adj : List α}, l.length = adj.length → (∀ (j : Nat) v r, l[j]? = some v → adj[j]? = some r → f v = some (g r)) → mapO f l = some (adj.map g)
  | [], [], _, _ => rfl
  | v :: l, r :: adj, hl, h => by
    have h0 := h 0 v r rfl rfl
    have ih := mapO_gen (f := f) (g := g) (l := l) (adj := adj) (by simpa using hl) (fun j v r hv hr => h (j + 1) v r hv hr)
    simp only [mapO, h0, ih, List.map_cons]
theorem SO.vw {ob t : Nat} {R : Rds} {H : Heap} (h : SO ob t R H) : view H ob 0 t t 1 = some (prsF ob R) := by
  obtain ⟨mx, _, h1⟩ := h.out
  simp only [view, h1, prsF_len, h.len]
  rw [if_pos ⟨trivial, by omega, trivial⟩, List.drop_zero, List.take_of_length_le (by rw [prsF_len, h.len]; omega)]
theorem SO.vr {ob t : Nat} {R : Rds} {H : Heap} (h : SO ob t R H) {j : Nat} {r : List (Int × Int)} (hj : R[j]? = some r) : view H (ob + 1 + j) 0 r.length r.length 2 = some (r.map encP) := by
  simp only [view, h.rows j r hj, List.length_map]
  rw [if_pos ⟨trivial, by omega, trivial⟩]
  simp [List.take_of_length_le]
theorem frz_p (H : Heap) (no : List Nat) (k : Int × Int) : frz H no 3 (encP k) = some (encP k) := rfl
theorem toRes_SO {ob t : Nat} {R : Rds} {H : Heap} (h : SO ob t R H) (e : Int) : toRes H false (.tuple [.sl ob 0 t (some t) t 1, .int .i64 e]) = some (.tuple [.own 1 (R.map encQ), .int .i64 e]) := by
  obtain ⟨mx, _, h1⟩ := h.out
  have ho : ownedAll H false (.tuple [.sl ob 0 t (some t) t 1, .int .i64 e]) = [ob] := by
    simp only [ownedAll, List.flatMap_cons, List.flatMap_nil, cellsOf, owned, h1]
    rfl
  have hr : resCell H [ob] false (.sl ob 0 t (some t) t 1) = some (.own 1 (R.map encQ)) := by
    simp only [resCell, h1, if_true, h.vw]
    have := mapO_gen (f := resElem H [ob] false) (g := encQ) (l := prsF ob R) (adj := R) (prsF_len ob R) (fun j v r hv hr => by
      rw [prsF_get, hr] at hv
      cases hv
      have e : resElem H [ob] false (prOf ob j r) = if r.length = 0 then some (.imm .own 2 []) else if [ob].contains (ob + 1 + j) then none else match view H (ob + 1 + j) 0 r.length r.length 2 with | some l => (match mapO (frz H [ob] 3) l with | some l => some (.imm .own 2 l) | none => none) | none => none := rfl
      rw [e]
      split
      · rename_i h0
        rw [List.length_eq_zero_iff.1 h0]; rfl
      · have hc : [ob].contains (ob + 1 + j) = false := by simp; omega
        have hf : mapO (frz H [ob] 3) (r.map encP) = some (r.map encP) := mapO_self (f := frz H [ob] 3) (g := encP) (fun k => frz_p H [ob] k) r
        rw [if_neg (by rw [hc]; simp), h.vr hr]
        simp only [hf]
        rfl)
    simp only [this]
  have hnd : ([ob] : List Nat).Nodup := by simp
  simp only [toRes, ho, hnd, if_true, mapO, resVal, hr]
  rfl
def spreadF (n : Int) (l : List (Int × Int)) (x : Int) : Rds × Int := if treeOk n l = true ∧ (0 ≤ x ∧ x ≤ n - 1) then (spR l x, 0) else ([], 2)
def spread31 : List HV → Option HV
  | [.int .i64 n, .imm .arg 2 lc, .int .i64 x] => match mapO decP lc with | some l => some (.tuple [.own 1 ((spreadF n l x).1.map encQ), .int .i64 (spreadF n l x).2]) | none => none
  | _ => none
theorem spread_bad {n : Int} {l : List (Int × Int)} {x : Int} (h : ¬ (treeOk n l = true ∧ (0 ≤ x ∧ x ≤ n - 1))) : ∃ E H, RunsTo Try.prog polS 31 B31 (args0 [.int .i64 n, .imm .arg 2 (l.map encP), .int .i64 x]) [] .ret (polS.keys 31) E H ∧
    resultsV Try.prog Try.f31 E H = some (.tuple [.imm .lit 1 [], .int .i64 2]) := by
  have a := sfd_a_0 0 n (l.map encP) x
  by_cases hg : ((1 ≤ n ∧ n ≤ 30) ∧ (l.length : Int) = n - 1) ∧ l.all (validB n) = true
  · obtain ⟨m, rfl⟩ : ∃ m : Nat, n = (m : Int) := ⟨n.toNat, by omega⟩
    have hw : IntKind.i64.wrap ((m : Int) - 1) = (m : Int) - 1 := by rw [wrapI64]; omega
    cases hb : farOk (adjOf m l) with
    | true =>
      have hok : treeOk (m : Int) l = true := by rw [treeOk, Bool.and_eq_true, decide_eq_true_eq]; exact ⟨hg, by rw [Int.toNat_natCast]; exact hb⟩
      have b := sfd_b_0 0 (m : Int) (l.map encP) x m _ (s46_ok hg true hb)
      have hx : ¬ (0 ≤ x ∧ x ≤ (m : Int) - 1) := fun hx => h ⟨hok, hx⟩
      have c := sfd_c_1 0 (m : Int) (l.map encP) x m ((adjOf m l).map rowO) (by rw [hw]; exact s49 _ _ _ false (decide_eq_false hx))
      have t2 := RunsTo.seq b (RunsTo.seq_out c (by simp) (c := sub [1, 1] B31) (b := sub [1, 1, 1] B31) (by kernel_rfl)) (c := sub [1] B31) (by kernel_rfl) (by kernel_rfl)
      exact ⟨_, _, RunsTo.seq a t2 (c := B31) (by kernel_rfl) (by kernel_rfl), by simp only [resultsV, res31, mapO, resultV]; rfl⟩
    | false =>
      have b := sfd_b_1 0 (m : Int) (l.map encP) x m _ (s46_ok hg false hb)
      have c := sfd_cf_0 0 (m : Int) (l.map encP) x m ((adjOf m l).map rowO)
      have t2 := RunsTo.seq b (RunsTo.seq_out c (by simp) (c := sub [1, 1] B31) (b := sub [1, 1, 1] B31) (by kernel_rfl)) (c := sub [1] B31) (by kernel_rfl) (by kernel_rfl)
      exact ⟨_, _, RunsTo.seq a t2 (c := B31) (by kernel_rfl) (by kernel_rfl), by simp only [resultsV, res31, mapO, resultV]; rfl⟩
  · have b := sfd_b_2 0 n (l.map encP) x (s46_bad hg)
    have c := sfd_cb_0 0 n (l.map encP) x
    have t2 := RunsTo.seq b (RunsTo.seq_out c (by simp) (c := sub [1, 1] B31) (b := sub [1, 1, 1] B31) (by kernel_rfl)) (c := sub [1] B31) (by kernel_rfl) (by kernel_rfl)
    exact ⟨_, _, RunsTo.seq a t2 (c := B31) (by kernel_rfl) (by kernel_rfl), by simp only [resultsV, res31, mapO, resultV]; rfl⟩
theorem spread_all (n : Int) (l : List (Int × Int)) (x : Int) : ∃ E H v, RunsTo Try.prog polS 31 B31 (args0 [.int .i64 n, .imm .arg 2 (l.map encP), .int .i64 x]) [] .ret (polS.keys 31) E H ∧ resultsV Try.prog Try.f31 E H = some v ∧
    ((treeOk n l = true ∧ (0 ≤ x ∧ x ≤ n - 1)) ∧ (∃ ob, v = .tuple [.sl ob 0 (spR l x).length (some (spR l x).length) (spR l x).length 1, .int .i64 0] ∧ SO ob (spR l x).length (spR l x) H) ∨ ¬ (treeOk n l = true ∧ (0 ≤ x ∧ x ≤ n - 1)) ∧ v = .tuple [.imm .lit 1 [], .int .i64 2]) := by
  by_cases h : treeOk n l = true ∧ (0 ≤ x ∧ x ≤ n - 1)
  · obtain ⟨m, rfl⟩ : ∃ m : Nat, n = (m : Int) := ⟨n.toNat, by omega⟩
    obtain ⟨E, H, ob, h1, h2, h3⟩ := spread_run h.1 h.2
    exact ⟨E, H, _, h1, h2, .inl ⟨h, ob, rfl, h3⟩⟩
  · obtain ⟨E, H, h1, h2⟩ := spread_bad h
    exact ⟨E, H, _, h1, h2, .inr ⟨h, rfl⟩⟩
theorem spread31_ok : PrimOk Try.prog 31 spread31 := by
  refine primOk_pure (pol := polS) (fn := Try.f31) (cd := B31) follows_mixed soundS (by kernel_rfl) (by kernel_rfl) (fnok polS.prim _ _ (by kernel_rfl)) (by kernel_rfl) ?_
  intro args res h
  unfold spread31 at h
  split at h
  · rename_i n lc x
    split at h
    · rename_i l hl
      cases h
      rw [mapO_inv decP_inv hl]
      obtain ⟨E, H, v, h1, h2, h3⟩ := spread_all n l x
      refine ⟨_, E, H, v, h1, by simp, h2, ?_⟩
      show toRes H false v = _
      rcases h3 with ⟨h4, ob, rfl, h5⟩ | ⟨h4, rfl⟩
      · rw [spreadF, if_pos h4]
        exact toRes_SO h5 0
      · rw [spreadF, if_neg h4]
        rfl
    · cases h
  · cases h
end Go.Proofs.Ytmhfkhlamnapdaa
end
section
open Go Go.HL
namespace Go.Proofs.Ytmhfkhlamnapdaa
def primW (g : FuncId) : Option (List HV → Option HV) :=
  if g == 19 then some awakeF else if g == 16 then some few16 else if g == 24 then some time24 else if g == 31 then some spread31 else if g == 25 then some far25 else if g == 18 then some tree18 else if g == 29 then some check29 else if g == 40 then some time40 else if g == 30 then some complete30 else if g == 41 then some rfar41 else if g == 21 then some ints21 else none
def polW : Pol := { pol with prim := primW }
theorem primW_ok (g : FuncId) (f : List HV → Option HV) (h : primW g = some f) : PrimOk Try.prog g f := by
  unfold primW at h
  split at h
  · rename_i hg; cases h; rw [eq_of_beq hg]; exact awake_prim
  split at h
  · rename_i hg; cases h; rw [eq_of_beq hg]; exact few_ok
  split at h
  · rename_i hg; cases h; rw [eq_of_beq hg]; exact time24_ok
  split at h
  · rename_i hg; cases h; rw [eq_of_beq hg]; exact spread31_ok
  split at h
  · rename_i hg; cases h; rw [eq_of_beq hg]; exact far25_ok
  split at h
  · rename_i hg; cases h; rw [eq_of_beq hg]; exact tree_ok
  split at h
  · rename_i hg; cases h; rw [eq_of_beq hg]; exact check_ok
  split at h
  · rename_i hg; cases h; rw [eq_of_beq hg]; exact time40_ok
  split at h
  · rename_i hg; cases h; rw [eq_of_beq hg]; exact complete_ok
  split at h
  · rename_i hg; cases h; rw [eq_of_beq hg]; exact rfar_ok
  split at h
  · rename_i hg; cases h; rw [eq_of_beq hg]; exact ints_ok
  · cases h
theorem soundW (n : Nat) : CallSound Try.prog (callN Try.prog polW n) := sound_prim primW primW_ok n
end Go.Proofs.Ytmhfkhlamnapdaa
end
section
open Go Go.HL
namespace Go.Proofs.Ytmhfkhlamnapdaa
set_option maxRecDepth 100000
noncomputable def B12 : Code := Try.f12.body.getD .skip
abbrev env12 (v0 v1 v2 v6 v7 v8 v9 v10 v11 v12 v13 : HV) : Env := [(0, v0), (1, v1), (2, v2), (6, v6), (7, v7), (8, v8), (9, v9), (10, v10), (11, v11), (12, v12), (13, v13)]
theorem rtm_a_0 (n : Int) (lc : List HV) (x : Int) : RunsTo Try.prog polW 12 (sub [0] B12) [(0, .i n), (1, .imm .arg 2 lc), (2, .i x)] [] .normal (polW.keys 12) (env12 (.i n) (.imm .arg 2 lc) (.i x) (.bool false) .undef .undef .undef .undef .undef .undef .undef) [] :=
  RunsTo.hin 0 60 [] fun kf hk => ⟨_, by kernel_rfl, .nil⟩
theorem rtm_b_0 (n : Int) (lc : List HV) (x : Int) (m : Nat) (els : List HV) (g0 : ∀ kf, callN Try.prog polW (kf + 1) 16 [.imm .arg 2 lc] [] = some (.sl 0 0 m none m 2, [.arr 2 els true 0])) : RunsTo Try.prog polW 12 (sub [1, 0] B12) (env12 (.i n) (.imm .arg 2 lc) (.i x) (.bool false) .undef .undef .undef .undef .undef .undef .undef) [] .normal (polW.keys 12) (env12 (.i n) (.imm .arg 2 lc) (.i x) (.bool false) (.sl 0 0 m none m 2) .undef .undef .undef .undef .undef .undef) [.arr 2 els true 0] :=
  RunsTo.hin 0 60 [⟨1, 1, .sl 0 0 m none m 2, [.arr 2 els true 0]⟩] fun kf hk => ⟨_, by kernel_rfl, (oC (g0 kf) .nil)⟩
theorem rtm_c_0 (n : Int) (lc : List HV) (x : Int) (m : Nat) (els : List HV) (t : Int) (e : Int) (g0 : ∀ kf, callN Try.prog polW (kf + 1) 24 [.i n, .sl 0 0 m none m 2, .i x] [.arr 2 els true 0] = some (.tuple [.i t, .i e], [.arr 2 els true 0])) : RunsTo Try.prog polW 12 (sub [1, 1, 0] B12) (env12 (.i n) (.imm .arg 2 lc) (.i x) (.bool false) (.sl 0 0 m none m 2) .undef .undef .undef .undef .undef .undef) [.arr 2 els true 0] .normal (polW.keys 12) (env12 (.i n) (.imm .arg 2 lc) (.i x) (.bool false) (.sl 0 0 m none m 2) (.i t) (.i e) .undef .undef .undef .undef) [.arr 2 els true 0] :=
  RunsTo.hin 0 60 [⟨2, 3, .tuple [.i t, .i e], [.arr 2 els true 0]⟩] fun kf hk => ⟨_, by kernel_rfl, (oC (g0 kf) .nil)⟩
theorem rtm_d_0 (n : Int) (lc : List HV) (x : Int) (m : Nat) (els : List HV) (t e : Int) (p : Nat) (f : Int) (rs : List HV) (g0 : ∀ kf, callN Try.prog polW (kf + 1) 31 [.i n, .sl 0 0 m none m 2, .i x] [.arr 2 els true 0] = some (.tuple [.sl 1 0 p none p 1, .i f], [.arr 2 els true 0, .arr 1 rs true 0])) : RunsTo Try.prog polW 12 (sub [1, 1, 1, 0] B12) (env12 (.i n) (.imm .arg 2 lc) (.i x) (.bool false) (.sl 0 0 m none m 2) (.i t) (.i e) .undef .undef .undef .undef) [.arr 2 els true 0] .normal (polW.keys 12) (env12 (.i n) (.imm .arg 2 lc) (.i x) (.bool false) (.sl 0 0 m none m 2) (.i t) (.i e) (.sl 1 0 p none p 1) (.i f) .undef .undef) [.arr 2 els true 0, .arr 1 rs true 0] :=
  RunsTo.hin 0 60 [⟨3, 3, .tuple [.sl 1 0 p none p 1, .i f], [.arr 2 els true 0, .arr 1 rs true 0]⟩] fun kf hk => ⟨_, by kernel_rfl, (oC (g0 kf) .nil)⟩
theorem rtm_e_0 (n : Int) (lc : List HV) (x : Int) (m : Nat) (els : List HV) (t e : Int) (p : Nat) (rs : List HV) (f : Int) (q : Nat) (g : Int) (os : List HV) (g0 : ∀ kf, callN Try.prog polW (kf + 1) 25 [.i n, .sl 0 0 m none m 2, .i x] [.arr 2 els true 0, .arr 1 rs true 0] = some (.tuple [.sl 2 0 q none q 1, .i g], [.arr 2 els true 0, .arr 1 rs true 0, .arr 1 os true 0])) : RunsTo Try.prog polW 12 (sub [1, 1, 1, 1, 0] B12) (env12 (.i n) (.imm .arg 2 lc) (.i x) (.bool false) (.sl 0 0 m none m 2) (.i t) (.i e) (.sl 1 0 p none p 1) (.i f) .undef .undef) [.arr 2 els true 0, .arr 1 rs true 0] .normal (polW.keys 12) (env12 (.i n) (.imm .arg 2 lc) (.i x) (.bool false) (.sl 0 0 m none m 2) (.i t) (.i e) (.sl 1 0 p none p 1) (.i f) (.sl 2 0 q none q 1) (.i g)) [.arr 2 els true 0, .arr 1 rs true 0, .arr 1 os true 0] :=
  RunsTo.hin 0 60 [⟨4, 3, .tuple [.sl 2 0 q none q 1, .i g], [.arr 2 els true 0, .arr 1 rs true 0, .arr 1 os true 0]⟩] fun kf hk => ⟨_, by kernel_rfl, (oC (g0 kf) .nil)⟩
theorem rtm_f_16 (n : Int) (lc : List HV) (x : Int) (m : Nat) (els : List HV) (t e : Int) (p : Nat) (rs : List HV) (f : Int) (q : Nat) (os : List HV) (g : Int)(g0 : ∀ kf, callN Try.prog polW (kf + 1) 18 [.i n, .sl 0 0 m none m 2] [.arr 2 els true 0, .arr 1 rs true 0, .arr 1 os true 0] = some (.bool true, [.arr 2 els true 0, .arr 1 rs true 0, .arr 1 os true 0])) (g1 : ¬ (x < 0)) (g2 : ¬ (n ≤ x)) : RunsTo Try.prog polW 12 (sub [1, 1, 1, 1, 1, 0] B12) (env12 (.i n) (.imm .arg 2 lc) (.i x) (.bool false) (.sl 0 0 m none m 2) (.i t) (.i e) (.sl 1 0 p none p 1) (.i f) (.sl 2 0 q none q 1) (.i g)) [.arr 2 els true 0, .arr 1 rs true 0, .arr 1 os true 0] .normal (polW.keys 12) (env12 (.i n) (.imm .arg 2 lc) (.i x) (.bool false) (.sl 0 0 m none m 2) (.i t) (.i e) (.sl 1 0 p none p 1) (.i f) (.sl 2 0 q none q 1) (.i g)) [.arr 2 els true 0, .arr 1 rs true 0, .arr 1 os true 0] :=
  RunsTo.hin 0 60 [⟨5, 2, .bool true, [.arr 2 els true 0, .arr 1 rs true 0, .arr 1 os true 0]⟩, ⟨5, 6, .bool false, [.arr 2 els true 0, .arr 1 rs true 0, .arr 1 os true 0]⟩, ⟨5, 11, .bool false, [.arr 2 els true 0, .arr 1 rs true 0, .arr 1 os true 0]⟩] fun kf hk => ⟨_, by kernel_rfl, (oC (g0 kf) (oB [.arr 2 els true 0, .arr 1 rs true 0, .arr 1 os true 0] (decide_eq_false g1) (oB [.arr 2 els true 0, .arr 1 rs true 0, .arr 1 os true 0] (decide_eq_false g2) .nil)))⟩
theorem rtm_x_0 (n : Int) (lc : List HV) (x : Int) (m : Nat) (els : List HV) (t e : Int) (p : Nat) (rs : List HV) (f : Int) (q : Nat) (os : List HV) (g : Int) (c : Int) (g0 : ∀ kf, callN Try.prog polW (kf + 1) 18 [.i n, .sl 0 0 m none m 2] [.arr 2 els true 0, .arr 1 rs true 0, .arr 1 os true 0] = some (.bool true, [.arr 2 els true 0, .arr 1 rs true 0, .arr 1 os true 0])) (g1 : x < 0) (g2 : t = 0) (g3 : e = 2) (g4 : (p : Int) = 0) (g5 : f = 2) (g6 : (q : Int) = 0) (g7 : g = 2) (g8 : ∀ kf, callN Try.prog polW (kf + 1) 29 [.i n, .sl 0 0 m none m 2, .i x, .sl 1 0 p none p 1] [.arr 2 els true 0, .arr 1 rs true 0, .arr 1 os true 0] = some (.i c, [.arr 2 els true 0, .arr 1 rs true 0, .arr 1 os true 0])) (g9 : c = 2) : RunsTo Try.prog polW 12 (sub [1, 1, 1, 1, 1, 0] B12) (env12 (.i n) (.imm .arg 2 lc) (.i x) (.bool false) (.sl 0 0 m none m 2) (.i t) (.i e) (.sl 1 0 p none p 1) (.i f) (.sl 2 0 q none q 1) (.i g)) [.arr 2 els true 0, .arr 1 rs true 0, .arr 1 os true 0] .ret (polW.keys 12) (env12 (.i n) (.imm .arg 2 lc) (.i x) (.bool true) (.sl 0 0 m none m 2) (.i t) (.i e) (.sl 1 0 p none p 1) (.i f) (.sl 2 0 q none q 1) (.i g)) [.arr 2 els true 0, .arr 1 rs true 0, .arr 1 os true 0] :=
  RunsTo.hin 0 60 [⟨5, 2, .bool true, [.arr 2 els true 0, .arr 1 rs true 0, .arr 1 os true 0]⟩, ⟨5, 6, .bool true, [.arr 2 els true 0, .arr 1 rs true 0, .arr 1 os true 0]⟩, ⟨6, 1, .bool true, [.arr 2 els true 0, .arr 1 rs true 0, .arr 1 os true 0]⟩, ⟨6, 4, .bool true, [.arr 2 els true 0, .arr 1 rs true 0, .arr 1 os true 0]⟩, ⟨6, 9, .bool true, [.arr 2 els true 0, .arr 1 rs true 0, .arr 1 os true 0]⟩, ⟨6, 13, .bool true, [.arr 2 els true 0, .arr 1 rs true 0, .arr 1 os true 0]⟩, ⟨6, 18, .bool true, [.arr 2 els true 0, .arr 1 rs true 0, .arr 1 os true 0]⟩, ⟨6, 22, .bool true, [.arr 2 els true 0, .arr 1 rs true 0, .arr 1 os true 0]⟩, ⟨6, 29, .i c, [.arr 2 els true 0, .arr 1 rs true 0, .arr 1 os true 0]⟩, ⟨6, 30, .bool true, [.arr 2 els true 0, .arr 1 rs true 0, .arr 1 os true 0]⟩] fun kf hk => ⟨_, by kernel_rfl, (oC (g0 kf) (oB [.arr 2 els true 0, .arr 1 rs true 0, .arr 1 os true 0] (decide_eq_true g1) (oB [.arr 2 els true 0, .arr 1 rs true 0, .arr 1 os true 0] (decide_eq_true g2) (oB [.arr 2 els true 0, .arr 1 rs true 0, .arr 1 os true 0] (decide_eq_true g3) (oB [.arr 2 els true 0, .arr 1 rs true 0, .arr 1 os true 0] (decide_eq_true g4) (oB [.arr 2 els true 0, .arr 1 rs true 0, .arr 1 os true 0] (decide_eq_true g5) (oB [.arr 2 els true 0, .arr 1 rs true 0, .arr 1 os true 0] (decide_eq_true g6) (oB [.arr 2 els true 0, .arr 1 rs true 0, .arr 1 os true 0] (decide_eq_true g7) (oC (g8 kf) (oB [.arr 2 els true 0, .arr 1 rs true 0, .arr 1 os true 0] (decide_eq_true g9) .nil))))))))))⟩
theorem rtm_x_8 (n : Int) (lc : List HV) (x : Int) (m : Nat) (els : List HV) (t e : Int) (p : Nat) (rs : List HV) (f : Int) (q : Nat) (os : List HV) (g : Int) (c : Int) (g0 : ∀ kf, callN Try.prog polW (kf + 1) 18 [.i n, .sl 0 0 m none m 2] [.arr 2 els true 0, .arr 1 rs true 0, .arr 1 os true 0] = some (.bool true, [.arr 2 els true 0, .arr 1 rs true 0, .arr 1 os true 0])) (g1 : ¬ (x < 0)) (g2 : n ≤ x) (g3 : t = 0) (g4 : e = 2) (g5 : (p : Int) = 0) (g6 : f = 2) (g7 : (q : Int) = 0) (g8 : g = 2) (g9 : ∀ kf, callN Try.prog polW (kf + 1) 29 [.i n, .sl 0 0 m none m 2, .i x, .sl 1 0 p none p 1] [.arr 2 els true 0, .arr 1 rs true 0, .arr 1 os true 0] = some (.i c, [.arr 2 els true 0, .arr 1 rs true 0, .arr 1 os true 0])) (g10 : c = 2) : RunsTo Try.prog polW 12 (sub [1, 1, 1, 1, 1, 0] B12) (env12 (.i n) (.imm .arg 2 lc) (.i x) (.bool false) (.sl 0 0 m none m 2) (.i t) (.i e) (.sl 1 0 p none p 1) (.i f) (.sl 2 0 q none q 1) (.i g)) [.arr 2 els true 0, .arr 1 rs true 0, .arr 1 os true 0] .ret (polW.keys 12) (env12 (.i n) (.imm .arg 2 lc) (.i x) (.bool true) (.sl 0 0 m none m 2) (.i t) (.i e) (.sl 1 0 p none p 1) (.i f) (.sl 2 0 q none q 1) (.i g)) [.arr 2 els true 0, .arr 1 rs true 0, .arr 1 os true 0] :=
  RunsTo.hin 0 60 [⟨5, 2, .bool true, [.arr 2 els true 0, .arr 1 rs true 0, .arr 1 os true 0]⟩, ⟨5, 6, .bool false, [.arr 2 els true 0, .arr 1 rs true 0, .arr 1 os true 0]⟩, ⟨5, 11, .bool true, [.arr 2 els true 0, .arr 1 rs true 0, .arr 1 os true 0]⟩, ⟨6, 1, .bool true, [.arr 2 els true 0, .arr 1 rs true 0, .arr 1 os true 0]⟩, ⟨6, 4, .bool true, [.arr 2 els true 0, .arr 1 rs true 0, .arr 1 os true 0]⟩, ⟨6, 9, .bool true, [.arr 2 els true 0, .arr 1 rs true 0, .arr 1 os true 0]⟩, ⟨6, 13, .bool true, [.arr 2 els true 0, .arr 1 rs true 0, .arr 1 os true 0]⟩, ⟨6, 18, .bool true, [.arr 2 els true 0, .arr 1 rs true 0, .arr 1 os true 0]⟩, ⟨6, 22, .bool true, [.arr 2 els true 0, .arr 1 rs true 0, .arr 1 os true 0]⟩, ⟨6, 29, .i c, [.arr 2 els true 0, .arr 1 rs true 0, .arr 1 os true 0]⟩, ⟨6, 30, .bool true, [.arr 2 els true 0, .arr 1 rs true 0, .arr 1 os true 0]⟩] fun kf hk => ⟨_, by kernel_rfl, (oC (g0 kf) (oB [.arr 2 els true 0, .arr 1 rs true 0, .arr 1 os true 0] (decide_eq_false g1) (oB [.arr 2 els true 0, .arr 1 rs true 0, .arr 1 os true 0] (decide_eq_true g2) (oB [.arr 2 els true 0, .arr 1 rs true 0, .arr 1 os true 0] (decide_eq_true g3) (oB [.arr 2 els true 0, .arr 1 rs true 0, .arr 1 os true 0] (decide_eq_true g4) (oB [.arr 2 els true 0, .arr 1 rs true 0, .arr 1 os true 0] (decide_eq_true g5) (oB [.arr 2 els true 0, .arr 1 rs true 0, .arr 1 os true 0] (decide_eq_true g6) (oB [.arr 2 els true 0, .arr 1 rs true 0, .arr 1 os true 0] (decide_eq_true g7) (oB [.arr 2 els true 0, .arr 1 rs true 0, .arr 1 os true 0] (decide_eq_true g8) (oC (g9 kf) (oB [.arr 2 els true 0, .arr 1 rs true 0, .arr 1 os true 0] (decide_eq_true g10) .nil)))))))))))⟩
theorem rtm_x_17 (n : Int) (lc : List HV) (x : Int) (m : Nat) (els : List HV) (t e : Int) (p : Nat) (rs : List HV) (f : Int) (q : Nat) (os : List HV) (g : Int) (c : Int) (g0 : ∀ kf, callN Try.prog polW (kf + 1) 18 [.i n, .sl 0 0 m none m 2] [.arr 2 els true 0, .arr 1 rs true 0, .arr 1 os true 0] = some (.bool false, [.arr 2 els true 0, .arr 1 rs true 0, .arr 1 os true 0])) (g1 : t = 0) (g2 : e = 2) (g3 : (p : Int) = 0) (g4 : f = 2) (g5 : (q : Int) = 0) (g6 : g = 2) (g7 : ∀ kf, callN Try.prog polW (kf + 1) 29 [.i n, .sl 0 0 m none m 2, .i x, .sl 1 0 p none p 1] [.arr 2 els true 0, .arr 1 rs true 0, .arr 1 os true 0] = some (.i c, [.arr 2 els true 0, .arr 1 rs true 0, .arr 1 os true 0])) (g8 : c = 2) : RunsTo Try.prog polW 12 (sub [1, 1, 1, 1, 1, 0] B12) (env12 (.i n) (.imm .arg 2 lc) (.i x) (.bool false) (.sl 0 0 m none m 2) (.i t) (.i e) (.sl 1 0 p none p 1) (.i f) (.sl 2 0 q none q 1) (.i g)) [.arr 2 els true 0, .arr 1 rs true 0, .arr 1 os true 0] .ret (polW.keys 12) (env12 (.i n) (.imm .arg 2 lc) (.i x) (.bool true) (.sl 0 0 m none m 2) (.i t) (.i e) (.sl 1 0 p none p 1) (.i f) (.sl 2 0 q none q 1) (.i g)) [.arr 2 els true 0, .arr 1 rs true 0, .arr 1 os true 0] :=
  RunsTo.hin 0 60 [⟨5, 2, .bool false, [.arr 2 els true 0, .arr 1 rs true 0, .arr 1 os true 0]⟩, ⟨6, 1, .bool true, [.arr 2 els true 0, .arr 1 rs true 0, .arr 1 os true 0]⟩, ⟨6, 4, .bool true, [.arr 2 els true 0, .arr 1 rs true 0, .arr 1 os true 0]⟩, ⟨6, 9, .bool true, [.arr 2 els true 0, .arr 1 rs true 0, .arr 1 os true 0]⟩, ⟨6, 13, .bool true, [.arr 2 els true 0, .arr 1 rs true 0, .arr 1 os true 0]⟩, ⟨6, 18, .bool true, [.arr 2 els true 0, .arr 1 rs true 0, .arr 1 os true 0]⟩, ⟨6, 22, .bool true, [.arr 2 els true 0, .arr 1 rs true 0, .arr 1 os true 0]⟩, ⟨6, 29, .i c, [.arr 2 els true 0, .arr 1 rs true 0, .arr 1 os true 0]⟩, ⟨6, 30, .bool true, [.arr 2 els true 0, .arr 1 rs true 0, .arr 1 os true 0]⟩] fun kf hk => ⟨_, by kernel_rfl, (oC (g0 kf) (oB [.arr 2 els true 0, .arr 1 rs true 0, .arr 1 os true 0] (decide_eq_true g1) (oB [.arr 2 els true 0, .arr 1 rs true 0, .arr 1 os true 0] (decide_eq_true g2) (oB [.arr 2 els true 0, .arr 1 rs true 0, .arr 1 os true 0] (decide_eq_true g3) (oB [.arr 2 els true 0, .arr 1 rs true 0, .arr 1 os true 0] (decide_eq_true g4) (oB [.arr 2 els true 0, .arr 1 rs true 0, .arr 1 os true 0] (decide_eq_true g5) (oB [.arr 2 els true 0, .arr 1 rs true 0, .arr 1 os true 0] (decide_eq_true g6) (oC (g7 kf) (oB [.arr 2 els true 0, .arr 1 rs true 0, .arr 1 os true 0] (decide_eq_true g8) .nil)))))))))⟩
theorem rtm_g_0 (n : Int) (lc : List HV) (x : Int) (m : Nat) (els : List HV) (t e : Int) (p : Nat) (rs : List HV) (f : Int) (q : Nat) (os : List HV) (g : Int) (d : Int) (c : Int) (g0 : ∀ kf, callN Try.prog polW (kf + 1) 40 [.i n, .sl 0 0 m none m 2, .i x] [.arr 2 els true 0, .arr 1 rs true 0, .arr 1 os true 0] = some (.i d, [.arr 2 els true 0, .arr 1 rs true 0, .arr 1 os true 0])) (g1 : t = d) (g2 : e = 0) (g3 : f = 0) (g4 : (p : Int) = t) (g5 : ∀ kf, callN Try.prog polW (kf + 1) 30 [.i n, .sl 0 0 m none m 2, .i x, .sl 1 0 p none p 1] [.arr 2 els true 0, .arr 1 rs true 0, .arr 1 os true 0] = some (.bool true, [.arr 2 els true 0, .arr 1 rs true 0, .arr 1 os true 0])) (g6 : ∀ kf, callN Try.prog polW (kf + 1) 29 [.i n, .sl 0 0 m none m 2, .i x, .sl 1 0 p none p 1] [.arr 2 els true 0, .arr 1 rs true 0, .arr 1 os true 0] = some (.i c, [.arr 2 els true 0, .arr 1 rs true 0, .arr 1 os true 0])) (g7 : c = 0) : RunsTo Try.prog polW 12 (sub [1, 1, 1, 1, 1, 1, 0] B12) (env12 (.i n) (.imm .arg 2 lc) (.i x) (.bool false) (.sl 0 0 m none m 2) (.i t) (.i e) (.sl 1 0 p none p 1) (.i f) (.sl 2 0 q none q 1) (.i g)) [.arr 2 els true 0, .arr 1 rs true 0, .arr 1 os true 0] .normal (polW.keys 12) (env12 (.i n) (.imm .arg 2 lc) (.i x) (.bool false) (.sl 0 0 m none m 2) (.i t) (.i e) (.sl 1 0 p none p 1) (.i f) (.sl 2 0 q none q 1) (.i g)) [.arr 2 els true 0, .arr 1 rs true 0, .arr 1 os true 0] :=
  RunsTo.hin 0 60 [⟨7, 4, .i d, [.arr 2 els true 0, .arr 1 rs true 0, .arr 1 os true 0]⟩, ⟨7, 5, .bool false, [.arr 2 els true 0, .arr 1 rs true 0, .arr 1 os true 0]⟩, ⟨7, 8, .bool false, [.arr 2 els true 0, .arr 1 rs true 0, .arr 1 os true 0]⟩, ⟨7, 12, .bool false, [.arr 2 els true 0, .arr 1 rs true 0, .arr 1 os true 0]⟩, ⟨7, 18, .bool false, [.arr 2 els true 0, .arr 1 rs true 0, .arr 1 os true 0]⟩, ⟨7, 25, .bool true, [.arr 2 els true 0, .arr 1 rs true 0, .arr 1 os true 0]⟩, ⟨7, 33, .i c, [.arr 2 els true 0, .arr 1 rs true 0, .arr 1 os true 0]⟩, ⟨7, 34, .bool false, [.arr 2 els true 0, .arr 1 rs true 0, .arr 1 os true 0]⟩] fun kf hk => ⟨_, by kernel_rfl, (oC (g0 kf) (oB [.arr 2 els true 0, .arr 1 rs true 0, .arr 1 os true 0] (congrArg not (decide_eq_true g1)) (oB [.arr 2 els true 0, .arr 1 rs true 0, .arr 1 os true 0] (congrArg not (decide_eq_true g2)) (oB [.arr 2 els true 0, .arr 1 rs true 0, .arr 1 os true 0] (congrArg not (decide_eq_true g3)) (oB [.arr 2 els true 0, .arr 1 rs true 0, .arr 1 os true 0] (congrArg not (decide_eq_true g4)) (oC (g5 kf) (oC (g6 kf) (oB [.arr 2 els true 0, .arr 1 rs true 0, .arr 1 os true 0] (congrArg not (decide_eq_true g7)) .nil))))))))⟩
theorem rtm_z_0 (n : Int) (lc : List HV) (x : Int) (m : Nat) (els : List HV) (t e : Int) (p : Nat) (rs : List HV) (f : Int) (q : Nat) (os : List HV) (g : Int) (w : Nat) (us : List HV) (g0 : ∀ kf, callN Try.prog polW (kf + 1) 41 [.i n, .sl 0 0 m none m 2, .i x] [.arr 2 els true 0, .arr 1 rs true 0, .arr 1 os true 0] = some (.sl 3 0 w none w 1, [.arr 2 els true 0, .arr 1 rs true 0, .arr 1 os true 0, .arr 1 us true 0])) (g1 : ∀ kf, callN Try.prog polW (kf + 1) 21 [.sl 2 0 q none q 1, .sl 3 0 w none w 1] [.arr 2 els true 0, .arr 1 rs true 0, .arr 1 os true 0, .arr 1 us true 0] = some (.bool true, [.arr 2 els true 0, .arr 1 rs true 0, .arr 1 os true 0, .arr 1 us true 0])) (g2 : g = 0) : RunsTo Try.prog polW 12 (sub [1, 1, 1, 1, 1, 1, 1] B12) (env12 (.i n) (.imm .arg 2 lc) (.i x) (.bool false) (.sl 0 0 m none m 2) (.i t) (.i e) (.sl 1 0 p none p 1) (.i f) (.sl 2 0 q none q 1) (.i g)) [.arr 2 els true 0, .arr 1 rs true 0, .arr 1 os true 0] .ret (polW.keys 12) (env12 (.i n) (.imm .arg 2 lc) (.i x) (.bool true) (.sl 0 0 m none m 2) (.i t) (.i e) (.sl 1 0 p none p 1) (.i f) (.sl 2 0 q none q 1) (.i g)) [.arr 2 els true 0, .arr 1 rs true 0, .arr 1 os true 0, .arr 1 us true 0] :=
  RunsTo.hin 0 60 [⟨9, 4, .sl 3 0 w none w 1, [.arr 2 els true 0, .arr 1 rs true 0, .arr 1 os true 0, .arr 1 us true 0]⟩, ⟨9, 5, .bool true, [.arr 2 els true 0, .arr 1 rs true 0, .arr 1 os true 0, .arr 1 us true 0]⟩, ⟨9, 8, .bool true, [.arr 2 els true 0, .arr 1 rs true 0, .arr 1 os true 0, .arr 1 us true 0]⟩] fun kf hk => ⟨_, by kernel_rfl, (oC (g0 kf) (oC (g1 kf) (oB [.arr 2 els true 0, .arr 1 rs true 0, .arr 1 os true 0, .arr 1 us true 0] (decide_eq_true g2) .nil)))⟩
end Go.Proofs.Ytmhfkhlamnapdaa
end
section
open Go Go.HL
namespace Go.Proofs.Ytmhfkhlamnapdaa
theorem rd_ok (nr : Int → Int → Bool) (kn : List Int) : ∀ (l : List (Int × Int)) (bz : List Int), (∀ p ∈ l, nr p.1 p.2 = true ∧ p.1 ∈ kn ∧ p.2 ∉ kn ∧ p.1 ∉ bz ∧ p.2 ∉ bz) → (l.map (·.1)).Nodup → (l.map (·.2)).Nodup → rdGo nr kn l bz = true
  | [], _, _, _, _ => rfl
  | p :: l, bz, h, h1, h2 => by
    rw [List.map_cons, List.nodup_cons] at h1 h2
    obtain ⟨a1, a2, a3, a4, a5⟩ := h p (by simp)
    rw [rdGo, Bool.and_eq_true]
    refine ⟨by simp [okC, a1, a2, a3, a4, a5], rd_ok nr kn l _ (fun q hq => ?_) h1.2 h2.2⟩
    obtain ⟨b1, b2, b3, b4, b5⟩ := h q (by simp [hq])
    refine ⟨b1, b2, b3, fun hm => ?_, fun hm => ?_⟩
    · rw [ins_mem, ins_mem] at hm
      rcases hm with e | e | hm
      · rw [e] at b2; exact a3 b2
      · exact h1.1 (List.mem_map.2 ⟨q, hq, e⟩)
      · exact b4 hm
    · rw [ins_mem, ins_mem] at hm
      rcases hm with e | e | hm
      · exact h2.1 (List.mem_map.2 ⟨q, hq, e⟩)
      · rw [e] at b3; exact b3 a2
      · exact b5 hm
theorem learn_mem : ∀ (l : List (Int × Int)) (kn : List Int) (z : Int), z ∈ learn l kn ↔ z ∈ kn ∨ ∃ p ∈ l, p.2 = z
  | [], kn, z => by simp [learn]
  | p :: l, kn, z => by
    have e : learn (p :: l) kn = learn l (ins p.2 kn) := rfl
    rw [e, learn_mem l, ins_mem]
    constructor
    · rintro ((h | h) | ⟨q, hq, h⟩)
      · exact .inr ⟨p, by simp, h.symm⟩
      · exact .inl h
      · exact .inr ⟨q, by simp [hq], h⟩
    · rintro (h | ⟨q, hq, h⟩)
      · exact .inl (.inr h)
      · rcases List.mem_cons.1 hq with rfl | hq
        · exact .inl (.inl h.symm)
        · exact .inr ⟨q, hq, h⟩
def cntB (L : List Ev) (j : Nat) : Nat := (L.filter fun e => decide (e.1 < j)).length
theorem cntB_succ : ∀ (L : List Ev) (j : Nat), cntB L (j + 1) = cntB L j + (rdOf L j).length
  | [], _ => rfl
  | e :: L, j => by
    have ih := cntB_succ L j
    unfold cntB rdOf at ih ⊢
    rw [List.filter_cons, List.filter_cons, List.filter_cons]
    rw [List.length_map] at ih ⊢
    by_cases c : e.1 = j
    · rw [if_pos (by simp; omega), if_neg (by simp; omega), if_pos (by simpa using c)]
      simp only [List.length_cons]; omega
    · by_cases c2 : e.1 < j
      · rw [if_pos (by simp; omega), if_pos (by simpa using c2), if_neg (by simpa using c)]
        simp only [List.length_cons]; omega
      · rw [if_neg (by simp; omega), if_neg (by simpa using c2), if_neg (by simpa using c)]
        exact ih
theorem cntB_all {L : List Ev} {t : Nat} (h : ∀ e, e ∈ L → e.1 < t) : cntB L t = L.length := by
  unfold cntB
  rw [List.filter_eq_self.2 fun e he => decide_eq_true (h e he)]
theorem rdOf_mem {L : List Ev} {j : Nat} {p : Int × Int} : p ∈ rdOf L j ↔ (j, p.1, p.2) ∈ L := by
  unfold rdOf
  rw [List.mem_map]
  constructor
  · rintro ⟨e, he, rfl⟩
    obtain ⟨h1, h2⟩ := List.mem_filter.1 he
    have : e.1 = j := by simpa using h2
    rw [← this]; exact h1
  · intro h
    exact ⟨_, List.mem_filter.2 ⟨h, by simp⟩, rfl⟩
structure Told (nr : Int → Int → Bool) (x : Int) (L : List Ev) : Prop where
  near : ∀ e, e ∈ L → nr (clr e) (cld e) = true
  new : (x :: L.map cld).Nodup
  heard : ∀ e, e ∈ L → clr e = x ∨ ∃ e', e' ∈ L ∧ cld e' = clr e ∧ e'.1 < e.1
  once : (L.map rc).Nodup
theorem rdOf_nodup {L : List Ev} {α : Type} (f : Int × Int → α) (j : Nat) (h : (L.map fun e => (e.1, f e.2)).Nodup) : ((rdOf L j).map f).Nodup := by
  unfold rdOf
  rw [List.map_map]
  have h1 : ((L.filter fun e => e.1 == j).map fun e => (e.1, f e.2)).Nodup := List.Pairwise.sublist (List.filter_sublist.map _) h
  unfold List.Nodup at h1 ⊢
  rw [List.pairwise_map] at h1 ⊢
  refine List.Pairwise.imp_of_mem (fun {a b} ha hb hab => ?_) h1
  have h2 : a.1 = j := by simpa using (List.mem_filter.1 ha).2
  have h3 : b.1 = j := by simpa using (List.mem_filter.1 hb).2
  intro e
  exact hab (by rw [h2, h3]; exact congrArg _ e)
theorem told_go {nr : Int → Int → Bool} {x : Int} {L : List Ev} (h : Told nr x L) : ∀ (d j : Nat) (kn : List Int), (∀ z, z ∈ kn ↔ z = x ∨ ∃ e, e ∈ L ∧ e.1 < j ∧ cld e = z) → kn.length = 1 + cntB L j → ∃ kn', ckGo nr ((List.range' j d).map (rdOf L)) kn = some kn' ∧ kn'.length = 1 + cntB L (j + d)
  | 0, j, kn, _, hl => ⟨kn, rfl, hl⟩
  | d + 1, j, kn, hk, hl => by
    have hn := h.new
    rw [List.nodup_cons] at hn
    have hnew : ∀ p, p ∈ rdOf L j → p.2 ∉ kn := fun p hp hm => by
      rw [rdOf_mem] at hp
      rcases (hk p.2).1 hm with e | ⟨e, he, h1, h2⟩
      · exact hn.1 (by rw [← e]; exact List.mem_map.2 ⟨_, hp, rfl⟩)
      · have : (j, p.1, p.2) = e := inj_of_nodup (f := cld) hn.2 _ hp _ he h2.symm
        rw [← this] at h1
        exact Nat.lt_irrefl _ h1
    have hn2 : ((rdOf L j).map (·.2)).Nodup := rdOf_nodup (fun p => p.2) j (by
      have h1 := hn.2
      unfold List.Nodup at h1 ⊢
      rw [List.pairwise_map] at h1 ⊢
      exact h1.imp fun {a b} hab (e : (a.1, a.2.2) = (b.1, b.2.2)) => hab (congrArg (fun x : Nat × Int => x.2) e))
    have hrd : rdGo nr kn (rdOf L j) [] = true := by
      refine rd_ok nr kn _ [] (fun p hp => ?_) (rdOf_nodup (fun p => p.1) j h.once) hn2
      have hp' := rdOf_mem.1 hp
      refine ⟨h.near _ hp', ?_, hnew p hp, by simp, by simp⟩
      rw [hk]
      rcases h.heard _ hp' with e | ⟨e, he, h1, h2⟩
      · exact .inl e
      · exact .inr ⟨e, he, h2, h1⟩
    rw [List.range'_succ, List.map_cons, ckGo, if_pos hrd]
    obtain ⟨kn', h1, h2⟩ := told_go h d (j + 1) (learn (rdOf L j) kn) (fun z => by
      rw [learn_mem, hk]
      constructor
      · rintro ((e | ⟨e, he, h1, h2⟩) | ⟨p, hp, e⟩)
        · exact .inl e
        · exact .inr ⟨e, he, by omega, h2⟩
        · exact .inr ⟨_, rdOf_mem.1 hp, Nat.lt_succ_self j, e⟩
      · rintro (e | ⟨e, he, h1, h2⟩)
        · exact .inl (.inl e)
        · rcases Nat.lt_or_ge e.1 j with h3 | h3
          · exact .inl (.inr ⟨e, he, h3, h2⟩)
          · have h4 : e.1 = j := by omega
            exact .inr ⟨e.2, rdOf_mem.2 (by rw [← h4]; exact he), h2⟩) (by rw [learn_len _ _ hn2 hnew, hl, cntB_succ]; omega)
    exact ⟨kn', h1, by rw [h2]; congr 2; omega⟩
theorem told_ck {nr : Int → Int → Bool} {x : Int} {L : List Ev} (h : Told nr x L) (d : Nat) : ∃ kn', ckGo nr ((List.range d).map (rdOf L)) [x] = some kn' ∧ kn'.length = 1 + cntB L d := by
  have := told_go h d 0 [x] (fun z => by simp) (by simp [cntB])
  rw [Nat.zero_add] at this
  rw [List.range_eq_range']
  exact this
theorem bestGo_in {T : Int → Int} : ∀ (S : List Int) (i : Nat) (mo q : Int), mo ≤ q → q < bestGo i mo (S.map T) → ∃ (j : Nat) (u : Int), S[j]? = some u ∧ q < (i : Int) + j + 1 + T u
  | [], i, mo, q, h1, h2 => by rw [List.map_nil, bestGo] at h2; omega
  | u :: S, i, mo, q, h1, h2 => by
    rw [List.map_cons, bestGo] at h2
    by_cases c : q < (i : Int) + 1 + T u
    · exact ⟨0, u, rfl, by simpa using c⟩
    · obtain ⟨j, z, h3, h4⟩ := bestGo_in S (i + 1) (max mo ((i : Int) + 1 + T u)) q (by omega) h2
      exact ⟨j + 1, z, by simpa using h3, by omega⟩
section
variable {row : Int → List Int} {G : Int → Int → Prop} {μ : Int → Int → Nat}
theorem tm_st (hM : Msr row G μ) {v w : Int} (hG : G v w) (h : μ v w ≤ 150) : tm row v w = bestGo 0 0 ((stable (fun u => tm row u v) (keep w (row v)).length (keep w (row v))).map fun u => tm row u v) := by
  rw [stable_dsort]
  exact tm_rec hM hG h
end
section
variable {row : Int → List Int} {G : Int → Int → Prop} {μ : Int → Int → Nat}
theorem evF_lt (hM : Msr row G μ) : ∀ (k : Nat) (v w : Int) (r : Nat), G v w → μ v w < k → k ≤ 150 → ∀ e, e ∈ evF row (tm row) k v w r → (e.1 : Int) < r + tm row v w
  | 0, _, _, _, _, h, _, _, _ => by omega
  | k + 1, v, w, r, hG, h, hk, e, he => by
    have hT := tm_st hM hG (by omega)
    rw [evF] at he
    obtain ⟨i, u, h1, h2⟩ := evL_mem he
    have hi := lt_of_get h1
    have hb := bestGo_at ((stable (fun u => tm row u v) (keep w (row v)).length (keep w (row v))).map fun u => tm row u v) 0 i 0 (by rw [List.length_map]; exact hi)
    rw [← hT] at hb
    have hg : ((stable (fun u => tm row u v) (keep w (row v)).length (keep w (row v))).map fun u => tm row u v).getD i 0 = tm row u v := by simp [List.getD, List.getElem?_map, h1]
    rw [hg] at hb
    have h0 := tmF_nonneg row 200 u v
    have h0 : 0 ≤ tm row u v := h0
    rcases h2 with rfl | h2
    · show ((r + i : Nat) : Int) < _
      omega
    · have hu : u ∈ keep w (row v) := (stb (tm row) v (keep w (row v))).mem_iff.1 (List.mem_of_getElem? h1)
      obtain ⟨h3, h4⟩ := hM.step v w hG u hu
      have := evF_lt hM k u v (r + i + 1) h3 (by omega) (by omega) e h2
      omega
end
section
variable {row : Int → List Int} {G : Int → Int → Prop} {μ : Int → Int → Nat}
theorem evF_full (hM : Msr row G μ) : ∀ (k : Nat) (v w : Int) (r : Nat), G v w → μ v w < k → k ≤ 150 → ∀ q : Nat, r ≤ q → (q : Int) < r + tm row v w → ∃ e, e ∈ evF row (tm row) k v w r ∧ e.1 = q
  | 0, _, _, _, _, h, _, _, _, _ => by omega
  | k + 1, v, w, r, hG, h, hk, q, hq, hqt => by
    have hT := tm_st hM hG (by omega)
    generalize hS : stable (fun u => tm row u v) (keep w (row v)).length (keep w (row v)) = S at hT
    have hev : evF row (tm row) (k + 1) v w r = evL (fun u r' => evF row (tm row) k u v r') v S r := by rw [evF, hS]
    by_cases c : q < r + S.length
    · have hi : q - r < S.length := by omega
      have h1 := (mem_evL (f := fun u r' => evF row (tm row) k u v r') (v := v) (r := r) (List.getElem?_eq_getElem hi)).1
      refine ⟨_, by rw [hev]; exact h1, ?_⟩
      show r + (q - r) = q
      omega
    · obtain ⟨j, u, h1, h2⟩ := bestGo_in (T := fun u => tm row u v) S 0 0 ((q : Int) - r) (by omega) (by omega)
      have hj := lt_of_get h1
      have hu : u ∈ keep w (row v) := (stb (tm row) v (keep w (row v))).mem_iff.1 (by rw [hS]; exact List.mem_of_getElem? h1)
      obtain ⟨h3, h4⟩ := hM.step v w hG u hu
      obtain ⟨e, h5, h6⟩ := evF_full hM k u v (r + j + 1) h3 (by omega) (by omega) q (by omega) (by omega)
      exact ⟨e, by rw [hev]; exact (mem_evL (f := fun u r' => evF row (tm row) k u v r') (v := v) (r := r) h1).2 e h5, h6⟩
end
theorem cntB_app (L M : List Ev) (j : Nat) : cntB (L ++ M) j = cntB L j + cntB M j := by simp [cntB]
theorem cntB_cons (e : Ev) (L : List Ev) (j : Nat) : cntB (e :: L) j = (if e.1 < j then 1 else 0) + cntB L j := by
  unfold cntB
  rw [List.filter_cons]
  by_cases c : e.1 < j
  · simp [c]; omega
  · simp [c]
theorem cntB_zero {L : List Ev} {j : Nat} (h : ∀ e, e ∈ L → j ≤ e.1) : cntB L j = 0 := by
  unfold cntB
  rw [List.filter_eq_nil_iff.2 fun e he => by have := h e he; simp; omega]
  rfl
theorem evL_pow {f : Int → Nat → List Ev} {v : Int} (hf : ∀ u r q, (∀ e, e ∈ f u r → r ≤ e.1) ∧ 1 + cntB (f u r) q ≤ 2 ^ (q - r)) : ∀ (S : List Int) (r q : Nat), 1 + cntB (evL f v S r) q ≤ 2 ^ (q - r)
  | [], r, q => by
    have : 0 < 2 ^ (q - r) := Nat.pos_of_ne_zero (by simp)
    simp only [evL, cntB, List.filter_nil, List.length_nil]
    omega
  | u :: S, r, q => by
    rw [evL, cntB_cons, cntB_app]
    by_cases c : r < q
    · have h1 := (hf u (r + 1) q).2
      have h2 := evL_pow (v := v) hf S (r + 1) q
      have e : q - r = (q - (r + 1)) + 1 := by omega
      rw [e, Nat.pow_succ, if_pos c]
      omega
    · have h1 : cntB (f u (r + 1)) q = 0 := cntB_zero fun e he => by have := (hf u (r + 1) q).1 e he; omega
      have h2 := evL_pow (v := v) hf S (r + 1) q
      have e : q - r = 0 := by omega
      have e2 : q - (r + 1) = 0 := by omega
      rw [e, if_neg c]
      rw [e2] at h2
      omega
theorem evF_pow (row : Int → List Int) (T : Int → Int → Int) : ∀ (k : Nat) (v w : Int) (r q : Nat), 1 + cntB (evF row T k v w r) q ≤ 2 ^ (q - r)
  | 0, v, w, r, q => by
    have : 0 < 2 ^ (q - r) := Nat.pos_of_ne_zero (by simp)
    simp only [evF, cntB, List.filter_nil, List.length_nil]
    omega
  | k + 1, v, w, r, q => evL_pow (fun u r q => ⟨fun e he => evF_ge row T k u v r e he, evF_pow row T k u v r q⟩) _ r q
end Go.Proofs.Ytmhfkhlamnapdaa
end
section
open Go Go.HL
namespace Go.Proofs.Ytmhfkhlamnapdaa
def evR (l : List (Int × Int)) (x : Int) : List Ev := evF (rowE l) (tm (rowE l)) 150 x (-1) 0
structure SpR (m : Nat) (l : List (Int × Int)) (x : Nat) : Prop where
  eq : spR l (x : Int) = (List.range (tm (rowE l) x (-1)).toNat).map (rdOf (evR l x))
  told : Told (nrR m l) (x : Int) (evR l x)
  len : (evR l x).length + 1 = m
  lt : ∀ e, e ∈ evR l x → e.1 < (tm (rowE l) x (-1)).toNat
  full : ∀ j, j < (tm (rowE l) x (-1)).toNat → 1 ≤ (rdOf (evR l x) j).length
  pow : ∀ j, 1 + cntB (evR l x) j ≤ 2 ^ j
  small : (tm (rowE l) x (-1)).toNat + 1 ≤ m
theorem tree_spread {m : Nat} {l : List (Int × Int)} (hok : treeOk (m : Int) l = true) {x : Nat} (hx : x < m) : SpR m l x := by
  obtain ⟨⟨hn, hl⟩, hv, hr⟩ := tree_rtd hok
  have hR := hr x hx
  obtain ⟨hO, _⟩ := hR.ori hx hv hl
  have hTs := tree_small hok hx
  have hT0 := (tm_bd (row := rowE l) (fun v => by have := rowE_len l v; omega) (x : Int) (-1)).1
  have hD : Dn l (fun v => ((bfs (fun y => (adjOf m l).getD y []) m x).getD v.toNat 0).toNat) (x : Int) (-1) := by
    intro u hu
    have hne := hO.neq (keep_mem.1 hu).1
    have h0 := hR.root
    dsimp only at hne h0 ⊢
    omega
  have hnd := ds_nodup hO 150 x (-1) hD
  have hdr : ∀ z, z ∈ ds (rowE l) 150 x (-1) → 0 ≤ z ∧ z < (m : Int) := fun z hz => ds_range hv 150 x (-1) z ⟨by omega, by omega⟩ hz
  have hdl := ints_len hnd hdr
  have hmu := mu_le l (fun v => ((bfs (fun y => (adjOf m l).getD y []) m x).getD v.toNat 0).toNat) m (x : Int) (-1) (hR.le x hx)
  have hG : Gd l m (x : Int) (-1) := ⟨⟨by omega, by omega⟩, .inl rfl⟩
  have hMs := hO.msr hv
  have hcov : ∀ z : Nat, z < m → (z : Int) ∈ ds (rowE l) 150 x (-1) := fun z hz => by
    have h1 := hR.anc hv m z hz (hR.le z hz)
    have h2 := hR.le z hz
    exact ds_cover 150 x (-1) z h1 (Nat.le_trans h2 (Nat.le_trans (by omega : m ≤ 150) (Nat.le_add_left 150 _))) (fun u hu _ => by
      have := (valid_row hv hu).1; omega)
  have hdl2 : m ≤ (ds (rowE l) 150 x (-1)).length := by
    have hnd2 : ((List.range m).map fun z : Nat => (z : Int)).Nodup := by
      unfold List.Nodup
      rw [List.pairwise_map]
      exact List.nodup_range.imp fun {a b} hab => by omega
    rcases Nat.lt_or_ge (ds (rowE l) 150 x (-1)).length ((List.range m).map fun z : Nat => (z : Int)).length with hlt | hge
    · have := perm_of_sub ((List.range m).map fun z : Nat => (z : Int)) (ds (rowE l) 150 x (-1)) hnd2 (fun v hv' => by
        obtain ⟨z, hz, rfl⟩ := List.mem_map.1 hv'
        exact hcov z (List.mem_range.1 hz)) (by omega)
      rw [this.length_eq, List.length_map, List.length_range]; exact Nat.le_refl _
    · rw [List.length_map, List.length_range] at hge; exact hge
  have hlen := evF_len (rowE l) (tm (rowE l)) 150 x (-1) 0
  have hcl := evF_cld (rowE l) (tm (rowE l)) 150 x (-1) 0
  have hon := evF_once (rowE l) (tm (rowE l)) 150 x (-1) 0 hnd
  have hlt : ∀ e, e ∈ evR l x → e.1 < (tm (rowE l) x (-1)).toNat := fun e he => by
    have := evF_lt hMs 150 (x : Int) (-1) 0 hG (by omega) (by omega) e he
    omega
  refine ⟨?_, ⟨fun e he => ?_, hcl.nodup_iff.2 hnd, fun e he => ?_, hon.1⟩, by unfold evR; omega, hlt, fun j hj => ?_, fun j => ?_, by omega⟩
  · rw [spR, spF_ev]
    exact fil_new hlt
  · have h1 := evF_row (rowE l) (tm (rowE l)) 150 x (-1) 0 e he
    obtain ⟨p, hp, hE⟩ := rowE_mem.1 h1
    have h2 := hdr _ (hon.2 e he)
    have h3 := valid_row hv h1
    simp only [nrR, inR, Bool.and_eq_true, decide_eq_true_eq, List.any_eq_true, isNear]
    refine ⟨h2, h3, p, hp, ?_⟩
    rcases hE with ⟨h4, h5⟩ | ⟨h4, h5⟩
    · exact .inl (Prod.ext h4 h5)
    · exact .inr (Prod.ext h5 h4)
  · rcases evF_clr (rowE l) (tm (rowE l)) 150 x (-1) 0 e he with h | ⟨e', h1, h2, h3⟩
    · exact .inl h
    · exact .inr ⟨e', h1, h2, h3⟩
  · obtain ⟨e, h1, h2⟩ := evF_full hMs 150 (x : Int) (-1) 0 hG (by omega) (by omega) j (Nat.zero_le _) (by omega)
    have : e.2 ∈ rdOf (evR l x) j := rdOf_mem.2 (by rw [← h2]; exact h1)
    exact List.length_pos_of_mem this
  · have := evF_pow (rowE l) (tm (rowE l)) 150 x (-1) 0 j
    rwa [Nat.sub_zero] at this
theorem SpR.ok {m : Nat} {l : List (Int × Int)} {x : Nat} (h : SpR m l x) : spOk (nrR m l) (m : Int) (x : Int) (spR l x) = true := by
  obtain ⟨kn, h1, h2⟩ := told_ck h.told (tm (rowE l) x (-1)).toNat
  rw [spOk, h.eq, h1]
  have h3 := cntB_all h.lt
  have h4 := h.len
  exact decide_eq_true (by omega)
end Go.Proofs.Ytmhfkhlamnapdaa
end
section
open Go Go.HL
namespace Go.Proofs.Ytmhfkhlamnapdaa
theorem Rtd.le_of {l : List (Int × Int)} {n r : Nat} {ρ ρ' : Int → Nat} (h : Rtd l n r ρ) (h' : Rtd l n r ρ') (hr : r < n) (hv : ∀ p ∈ l, validB (n : Int) p = true) (hl : l.length + 1 = n) : ∀ (k y : Nat), y < n → ρ (y : Int) ≤ k → ρ' (y : Int) ≤ ρ (y : Int) := by
  obtain ⟨_, hone⟩ := h'.ori hr hv hl
  have step : ∀ (y : Nat) (u : Int), u ∈ rowE l (y : Int) → ρ' (y : Int) ≤ ρ' u + 1 := fun y u hu => by
    obtain ⟨p, hp, hE⟩ := rowE_mem.1 hu
    have := hone p hp
    rcases hE with ⟨a, b⟩ | ⟨a, b⟩
    · rw [a, b] at this; omega
    · rw [a, b] at this; omega
  intro k
  induction k with
  | zero =>
    intro y hy hk
    by_cases e : y = r
    · rw [e, h'.root]; exact Nat.zero_le _
    · obtain ⟨u, _, h2⟩ := h.up y hy e
      omega
  | succ k ih =>
    intro y hy hk
    by_cases e : y = r
    · rw [e, h'.root]; exact Nat.zero_le _
    · obtain ⟨u, h1, h2⟩ := h.up y hy e
      have h3 := valid_row hv h1
      have h4 := ih u.toNat (by omega) (by rw [show ((u.toNat : Nat) : Int) = u by omega]; omega)
      rw [show ((u.toNat : Nat) : Int) = u by omega] at h4
      have := step y u h1
      omega
theorem rtd_nn {l : List (Int × Int)} {n r : Nat} {o : List Int} (h : Rtd l n r fun v => (o.getD v.toNat 0).toNat) (h0 : o.getD r 0 = 0) {y : Nat} (hy : y < n) : 0 ≤ o.getD y 0 := by
  by_cases e : y = r
  · rw [e, h0]; exact Int.le_refl _
  · obtain ⟨u, _, h2⟩ := h.up y hy e
    simp only [Int.toNat_natCast] at h2
    omega
theorem far_same {n : Nat} {l : List (Int × Int)} (hok : treeOk (n : Int) l = true) {x : Nat} (hx : x < n) : farF (adjOf n l) x = rfarF n l x := by
  obtain ⟨⟨hn, hl⟩, hv, hr⟩ := tree_rtd hok
  have hR := hr x hx
  have hA := adjOf_inv hv
  have hnb : ∀ x, x < n → ∀ z ∈ (adjOf n l).getD x [], z < n := fun x hx z hz => ((nbN_mem (valid_in hv)).1 ((nb_same hv x z).1 hz)).1
  have hnb' : ∀ x, x < n → ∀ z ∈ nbN n l x, z < n := fun x hx z hz => ((nbN_mem (valid_in hv)).1 hz).1
  obtain ⟨_, p2, _⟩ := bfs_pnt (fun y => (adjOf n l).getD y []) (r := x) hx hnb
  obtain ⟨_, q2, _⟩ := bfs_pnt (nbN n l) (r := x) hx hnb'
  have n1 : ∀ y, y < n → 0 ≤ (bfs (fun y => (adjOf n l).getD y []) n x).getD y 0 := fun y hy => rtd_nn hR p2 hy
  have n2 : ∀ y, y < n → 0 ≤ (bfs (nbN n l) n x).getD y 0 := fun y hy => bfs_reach _ _ n x hx hnb hnb' (fun x _ z hz => (nb_same hv x z).1 hz) hy (n1 y hy)
  have hR' := rtd_of_bfs (l := l) hx hnb' (fun a b ha hb => by
    obtain ⟨r, h1, h2⟩ := adjOf_row hv ha
    have h3 : b ∈ (adjOf n l).getD a [] := (nb_same hv a b).2 hb
    have e : (adjOf n l).getD a [] = r := by simp [List.getD, h1]
    rw [e] at h3
    rw [← h2, rowI]
    exact List.mem_map_of_mem h3) n2
  have hl1 : (farF (adjOf n l) x).length = n := by rw [farF, bfs_len]; exact hA.len
  have hl2 : (rfarF n l x).length = n := bfs_len _ _ _
  have e1 : farF (adjOf n l) x = bfs (fun y => (adjOf n l).getD y []) n x := by rw [farF, hA.len]
  apply List.ext_getElem (by omega)
  intro y h1 h2
  have hy : y < n := by omega
  have a1 := hR.le_of hR' hx hv hl n y hy (hR.le y hy)
  have a2 := hR'.le_of hR hx hv hl n y hy (hR'.le y hy)
  simp only [Int.toNat_natCast] at a1 a2
  have b1 := n1 y hy
  have b2 := n2 y hy
  rw [← getD_at h1, ← getD_at h2, e1, rfarF]
  omega
end Go.Proofs.Ytmhfkhlamnapdaa
end
section
open Go Go.HL
namespace Go.Proofs.Ytmhfkhlamnapdaa
def spreadL (R : List (List (Int × Int))) : List (List (Int × Int)) := (R.take 60).map (·.take 40)
def spread28 : List HV → Option HV
  | [.imm .arg 1 rv] => match mapO decRd rv with | some R => some (.own 1 ((spreadL R).map encPs)) | none => none
  | _ => none
end Go.Proofs.Ytmhfkhlamnapdaa
end
section
open Go Go.HL
namespace Go.Proofs.Ytmhfkhlamnapdaa
def primG (g : FuncId) : Option (List HV → Option HV) :=
  if g == 19 then some awakeF else if g == 16 then some few16 else if g == 28 then some spread28 else if g == 29 then some check29 else if g == 18 then some tree18 else if g == 30 then some complete30 else none
def polG : Pol := { pol with prim := primG }
end Go.Proofs.Ytmhfkhlamnapdaa
end
section
open Go Go.HL
namespace Go.Proofs.Ytmhfkhlamnapdaa
theorem arg_pl {H : Heap} {l : List (Int × Int)} {b m mx : Nat} (hm : l.length = m) (hb : H[b]? = some (.arr 2 (l.map encP) true mx)) : toArg H 6 (.sl b 0 m none m 2) = some (.imm .arg 2 (l.map encP)) := by
  subst hm
  have e : toArg H 6 (.sl b 0 l.length none l.length 2) = if l.length = 0 then some (.imm .arg 2 []) else match view H b 0 l.length l.length 2 with | some l => (match mapO (toArg H 5) l with | some l => some (.imm .arg 2 l) | none => none) | none => none := rfl
  rw [e]
  split
  · rename_i h0
    rw [List.length_eq_zero_iff.1 h0]; rfl
  · have hv : view H b 0 l.length l.length 2 = some (l.map encP) := by
      simp only [view, hb, List.length_map]
      rw [if_pos ⟨trivial, by omega, trivial⟩]
      simp [List.take_of_length_le]
    have hm : mapO (toArg H 5) (l.map encP) = some (l.map encP) := mapO_self (f := toArg H 5) (g := encP) (fun _ => rfl) l
    rw [hv]
    simp only [hm]
theorem argP_pairs8 : ∀ (l : List (Int × Int)), argPL (l.map encP) = some (l.map encP)
  | [] => rfl
  | p :: l => by simp only [List.map_cons, argPL, argP_pairs8 l, encP, argP]
theorem arg_rds {H : Heap} {R : List (List (Int × Int))} {b p mx : Nat} (hp : R.length = p) (hb : H[b]? = some (.arr 1 (R.map encPs) true mx)) : toArg H 6 (.sl b 0 p none p 1) = some (.imm .arg 1 (R.map encRd)) := by
  subst hp
  have e : toArg H 6 (.sl b 0 R.length none R.length 1) = if R.length = 0 then some (.imm .arg 1 []) else match view H b 0 R.length R.length 1 with | some l => (match mapO (toArg H 5) l with | some l => some (.imm .arg 1 l) | none => none) | none => none := rfl
  rw [e]
  split
  · rename_i h0
    rw [List.length_eq_zero_iff.1 h0]; rfl
  · have hv : view H b 0 R.length R.length 1 = some (R.map encPs) := by
      simp only [view, hb, List.length_map]
      rw [if_pos ⟨trivial, by omega, trivial⟩]
      simp [List.take_of_length_le]
    have hm : ∀ (R : List (List (Int × Int))), mapO (toArg H 5) (R.map encPs) = some (R.map encRd) := by
      intro R
      induction R with
      | nil => rfl
      | cons r R ih =>
        have e : toArg H 5 (encPs r) = some (encRd r) := by
          show argP (.imm .own 2 (r.map encP)) = _
          simp only [argP, argP_pairs8]
          rfl
        simp only [List.map_cons, mapO, e, ih]
    rw [hv]
    simp only [hm]
theorem encPs_any (R : List (List (Int × Int))) : (R.map encPs).any isOwn = false := by
  rw [List.any_eq_false]
  intro v hv
  obtain ⟨k, _, rfl⟩ := List.mem_map.1 hv
  simp [encPs, isOwn]
theorem encP_any (l : List (Int × Int)) : (l.map encP).any isOwn = false := by
  rw [List.any_eq_false]
  intro v hv
  obtain ⟨k, _, rfl⟩ := List.mem_map.1 hv
  simp [encP, isOwn]
theorem g16 (l : List (Int × Int)) (B : Blk) : ∀ k, callN Try.prog polG (k + 1) 16 [.imm .arg 2 (l.map encP)] [B] = some (.sl 1 0 (l.take 201).length none (l.take 201).length 2, [B, .arr 2 ((l.take 201).map encP) true 0]) := fun k => by
  rw [prim_call (pol := polG) (g := 16) (F := few16) (by kernel_rfl) (rs := [.imm .arg 2 (l.map encP)]) (by simp only [mapO, arg_pairs']) (res := .own 2 ((l.take 201).map encP)) (by simp only [few16, mapO_map decP_enc])]
  simp only [recv, recvVal, recvCell, encP_any, List.length_map]
  rfl
end Go.Proofs.Ytmhfkhlamnapdaa
end
section
open Go Go.HL
namespace Go.Proofs.Ytmhfkhlamnapdaa
theorem arg_il {H : Heap} {l : List Int} {b m : Nat} (hm : l.length = m) (hb : H[b]? = some (bI l)) : toArg H 6 (.sl b 0 m none m 1) = some (.imm .arg 1 (l.map encI)) := by
  subst hm
  have e : toArg H 6 (.sl b 0 l.length none l.length 1) = if l.length = 0 then some (.imm .arg 1 []) else match view H b 0 l.length l.length 1 with | some l => (match mapO (toArg H 5) l with | some l => some (.imm .arg 1 l) | none => none) | none => none := rfl
  rw [e]
  split
  · rename_i h0
    rw [List.length_eq_zero_iff.1 h0]; rfl
  · have hv : view H b 0 l.length l.length 1 = some (l.map encI) := by
      simp only [view, hb, List.length_map]
      rw [if_pos ⟨trivial, by omega, trivial⟩]
      simp [List.take_of_length_le]
    have hm : mapO (toArg H 5) (l.map encI) = some (l.map encI) := mapO_self (f := toArg H 5) (g := encI) (fun _ => rfl) l
    rw [hv]
    simp only [hm]
theorem encI_any3 (l : List Int) : (l.map encI).any isOwn = false := by
  rw [List.any_eq_false]
  intro v hv
  obtain ⟨k, _, rfl⟩ := List.mem_map.1 hv
  simp [encI, isOwn]
end Go.Proofs.Ytmhfkhlamnapdaa
end
section
open Go Go.HL
namespace Go.Proofs.Ytmhfkhlamnapdaa
theorem res12 : Try.f12.results.toList = [.tmp 6] := by kernel_rfl
theorem ww16 (l : List (Int × Int)) : ∀ k, callN Try.prog polW (k + 1) 16 [.imm .arg 2 (l.map encP)] [] = some (.sl 0 0 (l.take 201).length none (l.take 201).length 2, [.arr 2 ((l.take 201).map encP) true 0]) := fun k => by
  rw [prim_call (pol := polW) (g := 16) (F := few16) (by kernel_rfl) (rs := [.imm .arg 2 (l.map encP)]) (by simp only [mapO, arg_pairs']) (res := .own 2 ((l.take 201).map encP)) (by simp only [few16, mapO_map decP_enc])]
  simp only [recv, recvVal, recvCell, encP_any, List.length_map]
  rfl
theorem ww24 {l : List (Int × Int)} {H : Heap} (hb : H[0]? = some (.arr 2 (l.map encP) true 0)) (n x : Int) : ∀ k, callN Try.prog polW (k + 1) 24 [.int .i64 n, .sl 0 0 l.length none l.length 2, .int .i64 x] H = some (.tuple [.int .i64 (timeF n l x).1, .int .i64 (timeF n l x).2], H) := fun k => by
  have ha := arg_pl rfl hb
  rw [prim_call (pol := polW) (g := 24) (F := time24) (by kernel_rfl) (rs := [.int .i64 n, .imm .arg 2 (l.map encP), .int .i64 x]) (by simp only [mapO, ha]; rfl) (res := .tuple [.int .i64 (timeF n l x).1, .int .i64 (timeF n l x).2]) (by simp only [time24, mapO_map decP_enc])]; rfl
theorem ww31 {l : List (Int × Int)} {H : Heap} (hb : H[0]? = some (.arr 2 (l.map encP) true 0)) (n x : Int) : ∀ k, callN Try.prog polW (k + 1) 31 [.int .i64 n, .sl 0 0 l.length none l.length 2, .int .i64 x] H = some (.tuple [.sl H.length 0 (spreadF n l x).1.length none (spreadF n l x).1.length 1, .int .i64 (spreadF n l x).2], H ++ [.arr 1 ((spreadF n l x).1.map encPs) true 0]) := fun k => by
  have ha := arg_pl rfl hb
  rw [prim_call (pol := polW) (g := 31) (F := spread31) (by kernel_rfl) (rs := [.int .i64 n, .imm .arg 2 (l.map encP), .int .i64 x]) (by simp only [mapO, ha]; rfl) (res := .tuple [.own 1 ((spreadF n l x).1.map encPs), .int .i64 (spreadF n l x).2]) (by simp only [spread31, mapO_map decP_enc]; rfl)]
  simp only [recv, recvVals, recvVal, recvCell, encPs_any, List.length_map]
  rfl
theorem ww25 {l : List (Int × Int)} {H : Heap} (hb : H[0]? = some (.arr 2 (l.map encP) true 0)) (n x : Int) : ∀ k, callN Try.prog polW (k + 1) 25 [.int .i64 n, .sl 0 0 l.length none l.length 2, .int .i64 x] H = some (.tuple [.sl H.length 0 (pfarF n l x).1.length none (pfarF n l x).1.length 1, .int .i64 (pfarF n l x).2], H ++ [bI (pfarF n l x).1]) := fun k => by
  have ha := arg_pl rfl hb
  rw [prim_call (pol := polW) (g := 25) (F := far25) (by kernel_rfl) (rs := [.int .i64 n, .imm .arg 2 (l.map encP), .int .i64 x]) (by simp only [mapO, ha]; rfl) (res := .tuple [.own 1 ((pfarF n l x).1.map encI), .int .i64 (pfarF n l x).2]) (by simp only [far25, mapO_map decP_enc])]
  simp only [recv, recvVals, recvVal, recvCell, encI_any3, List.length_map]
  rfl
theorem ww18 {l : List (Int × Int)} {H : Heap} (hb : H[0]? = some (.arr 2 (l.map encP) true 0)) (n : Int) : ∀ k, callN Try.prog polW (k + 1) 18 [.int .i64 n, .sl 0 0 l.length none l.length 2] H = some (.bool (rTree n l), H) := fun k => by
  have ha := arg_pl rfl hb
  rw [prim_call (pol := polW) (g := 18) (F := tree18) (by kernel_rfl) (rs := [.int .i64 n, .imm .arg 2 (l.map encP)]) (by simp only [mapO, ha]; rfl) (res := .bool (rTree n l)) (by simp only [tree18, mapO_map decP_enc])]; rfl
theorem ww29 {l : List (Int × Int)} {H : Heap} (hb : H[0]? = some (.arr 2 (l.map encP) true 0)) {R : Rds} (h1 : H[1]? = some (.arr 1 (R.map encPs) true 0)) (hp9 : R.length ≤ 1000) (hr : ∀ r, r ∈ R → r.length ≤ 1000) (n x : Int) : ∀ k, callN Try.prog polW (k + 1) 29 [.int .i64 n, .sl 0 0 l.length none l.length 2, .int .i64 x, .sl 1 0 R.length none R.length 1] H = some (.int .i64 (checkF n l x R), H) := fun k => by
  have ha := arg_pl rfl hb
  have hb := arg_rds rfl h1
  rw [prim_call (pol := polW) (g := 29) (F := check29) (by kernel_rfl) (rs := [.int .i64 n, .imm .arg 2 (l.map encP), .int .i64 x, .imm .arg 1 (R.map encRd)]) (by simp only [mapO, ha, hb]; rfl) (res := .int .i64 (checkF n l x R)) (by
    simp only [check29, mapO_map decP_enc, mapO_map decRd_enc]
    rw [if_pos ⟨hp9, List.all_eq_true.2 fun r h => decide_eq_true (hr r h)⟩])]; rfl
theorem ww40 {l : List (Int × Int)} {H : Heap} (hb : H[0]? = some (.arr 2 (l.map encP) true 0)) {n x : Int} (ht : treeOk n l = true) (hx : 0 ≤ x ∧ x < n) : ∀ k, callN Try.prog polW (k + 1) 40 [.int .i64 n, .sl 0 0 l.length none l.length 2, .int .i64 x] H = some (.int .i64 (tm (rowE l) x (-1)), H) := fun k => by
  have ha := arg_pl rfl hb
  rw [prim_call (pol := polW) (g := 40) (F := time40) (by kernel_rfl) (rs := [.int .i64 n, .imm .arg 2 (l.map encP), .int .i64 x]) (by simp only [mapO, ha]; rfl) (res := .int .i64 (tm (rowE l) x (-1))) (by simp only [time40, mapO_map decP_enc]; rw [if_pos ⟨ht, hx⟩])]; rfl
theorem ww30 {l : List (Int × Int)} {H : Heap} (hb : H[0]? = some (.arr 2 (l.map encP) true 0)) {R : Rds} (h1 : H[1]? = some (.arr 1 (R.map encPs) true 0)) (hp9 : R.length ≤ 1000) (hr : ∀ r, r ∈ R → r.length ≤ 1000) {n : Nat} (hn : n ≤ 1000) (hl : l.length ≤ 1000) {x : Int} (hx : 0 ≤ x ∧ x < (n : Int)) : ∀ k, callN Try.prog polW (k + 1) 30 [.int .i64 (n : Int), .sl 0 0 l.length none l.length 2, .int .i64 x, .sl 1 0 R.length none R.length 1] H = some (.bool (completeF n l x R), H) := fun k => by
  have ha := arg_pl rfl hb
  have hb := arg_rds rfl h1
  rw [prim_call (pol := polW) (g := 30) (F := complete30) (by kernel_rfl) (rs := [.int .i64 (n : Int), .imm .arg 2 (l.map encP), .int .i64 x, .imm .arg 1 (R.map encRd)]) (by simp only [mapO, ha, hb]; rfl) (res := .bool (completeF n l x R)) (by
    simp only [complete30, mapO_map decP_enc, mapO_map decRd_enc]
    rw [if_pos ⟨⟨⟨⟨by omega, by omega⟩, hl⟩, by omega, by omega⟩, hp9, List.all_eq_true.2 fun r h => decide_eq_true (hr r h)⟩, Int.toNat_natCast])]; rfl
theorem ww41 {l : List (Int × Int)} {H : Heap} (hb : H[0]? = some (.arr 2 (l.map encP) true 0)) {n : Nat} (hn : n ≤ 1000) (hl : l.length ≤ 1000) (hv : ∀ p ∈ l, validB (n : Int) p = true) {x : Nat} (hx : x < n) : ∀ k, callN Try.prog polW (k + 1) 41 [.int .i64 (n : Int), .sl 0 0 l.length none l.length 2, .int .i64 (x : Int)] H = some (.sl H.length 0 (rfarF n l x).length none (rfarF n l x).length 1, H ++ [bI (rfarF n l x)]) := fun k => by
  have ha := arg_pl rfl hb
  have hin : l.all (inBb (n : Int)) = true := List.all_eq_true.2 fun p hp => by
    have := hv p hp
    rw [validB, decide_eq_true_eq] at this
    rw [inBb, decide_eq_true_eq]; exact ⟨this.1, this.2.1⟩
  rw [prim_call (pol := polW) (g := 41) (F := rfar41) (by kernel_rfl) (rs := [.int .i64 (n : Int), .imm .arg 2 (l.map encP), .int .i64 (x : Int)]) (by simp only [mapO, ha]; rfl) (res := .own 1 ((rfarF n l x).map encI)) (by
    simp only [rfar41, mapO_map decP_enc]
    rw [if_pos ⟨⟨⟨⟨by omega, by omega⟩, hl⟩, hin⟩, by omega, by omega⟩, Int.toNat_natCast, Int.toNat_natCast])]
  simp only [recv, recvVal, recvCell, encI_any3, List.length_map]
  rfl
theorem ww21 {o : List Int} {H : Heap} (ho : o.length ≤ 1000) (h2 : H[2]? = some (bI o)) (h3 : H[3]? = some (bI o)) : ∀ k, callN Try.prog polW (k + 1) 21 [.sl 2 0 o.length none o.length 1, .sl 3 0 o.length none o.length 1] H = some (.bool true, H) := fun k => by
  have ha := arg_il rfl h2
  have hb := arg_il rfl h3
  rw [prim_call (pol := polW) (g := 21) (F := ints21) (by kernel_rfl) (rs := [.imm .arg 1 (o.map encI), .imm .arg 1 (o.map encI)]) (by simp only [mapO, ha, hb]) (res := .bool true) (by simp only [ints21, mapO_map decI_enc]; rw [if_pos ho, decide_eq_true trivial])]; rfl
theorem SpR.short {m : Nat} {l : List (Int × Int)} {x : Nat} (h : SpR m l x) {r : List (Int × Int)} (hr : r ∈ spR l (x : Int)) : r.length ≤ m := by
  rw [h.eq] at hr
  obtain ⟨j, _, rfl⟩ := List.mem_map.1 hr
  have h1 : (rdOf (evR l x) j).length ≤ (evR l x).length := by
    rw [rdOf, List.length_map]; exact List.length_filter_le _ _
  have h2 := h.len
  omega
theorem relayTimes_law (n : Int) (l0 : List (Int × Int)) (x : Int) : ∃ E H, RunsTo Try.prog polW 12 B12 (args0 [.int .i64 n, .imm .arg 2 (l0.map encP), .int .i64 x]) [] .ret (polW.keys 12) E H ∧ E.get 6 = .bool true := by
  have a1 := rtm_a_0 n (l0.map encP) x
  have b1 := rtm_b_0 n (l0.map encP) x _ _ (ww16 l0)
  generalize l0.take 201 = l at b1
  have c1 := rtm_c_0 n (l0.map encP) x l.length (l.map encP) _ _ (ww24 (l := l) (H := [.arr 2 (l.map encP) true 0]) rfl n x)
  have d1 := rtm_d_0 n (l0.map encP) x l.length (l.map encP) (timeF n l x).1 (timeF n l x).2 _ _ _ (ww31 (l := l) (H := [.arr 2 (l.map encP) true 0]) rfl n x)
  have e1 := rtm_e_0 n (l0.map encP) x l.length (l.map encP) (timeF n l x).1 (timeF n l x).2 (spreadF n l x).1.length ((spreadF n l x).1.map encPs) (spreadF n l x).2 _ _ _ (ww25 (l := l) (H := [.arr 2 (l.map encP) true 0, .arr 1 ((spreadF n l x).1.map encPs) true 0]) rfl n x)
  have k18 := ww18 (l := l) (H := [.arr 2 (l.map encP) true 0, .arr 1 ((spreadF n l x).1.map encPs) true 0, bI (pfarF n l x).1]) rfl n
  have up : ∀ (E : Env) (H : Heap), RunsTo Try.prog polW 12 (sub [1, 1, 1, 1, 1] B12) (env12 (.int .i64 n) (.imm .arg 2 (l0.map encP)) (.int .i64 x) (.bool false) (.sl 0 0 l.length none l.length 2) (.int .i64 (timeF n l x).1) (.int .i64 (timeF n l x).2) (.sl 1 0 (spreadF n l x).1.length none (spreadF n l x).1.length 1) (.int .i64 (spreadF n l x).2) (.sl 2 0 (pfarF n l x).1.length none (pfarF n l x).1.length 1) (.int .i64 (pfarF n l x).2)) [.arr 2 (l.map encP) true 0, .arr 1 ((spreadF n l x).1.map encPs) true 0, bI (pfarF n l x).1] .ret (polW.keys 12) E H →
      RunsTo Try.prog polW 12 B12 (args0 [.int .i64 n, .imm .arg 2 (l0.map encP), .int .i64 x]) [] .ret (polW.keys 12) E H := fun E H t => by
    have t1 := RunsTo.seq d1 (RunsTo.seq e1 t (c := sub [1, 1, 1, 1] B12) (by kernel_rfl) (by kernel_rfl)) (c := sub [1, 1, 1] B12) (by kernel_rfl) (by kernel_rfl)
    have t2 := RunsTo.seq b1 (RunsTo.seq c1 t1 (c := sub [1, 1] B12) (by kernel_rfl) (by kernel_rfl)) (c := sub [1] B12) (by kernel_rfl) (by kernel_rfl)
    exact RunsTo.seq a1 t2 (c := B12) (by kernel_rfl) (by kernel_rfl)
  have hts := tree_same n l
  by_cases hg : treeOk n l = true ∧ (0 ≤ x ∧ x ≤ n - 1)
  · obtain ⟨m, rfl⟩ : ∃ m : Nat, n = (m : Int) := ⟨n.toNat, by omega⟩
    obtain ⟨y, rfl⟩ : ∃ y : Nat, x = (y : Int) := ⟨x.toNat, by omega⟩
    rw [← hts, hg.1] at k18
    have hS := tree_spread hg.1 (x := y) (by omega)
    obtain ⟨⟨hn, hl⟩, hv, _⟩ := tree_rtd hg.1
    have ht : timeF (m : Int) l (y : Int) = (tm (rowE l) y (-1), 0) := by rw [timeF, if_pos hg]
    have hs : spreadF (m : Int) l (y : Int) = (spR l y, 0) := by rw [spreadF, if_pos hg]
    have hf : pfarF (m : Int) l (y : Int) = (rfarF m l y, 0) := by rw [pfarF, if_pos hg, Int.toNat_natCast, Int.toNat_natCast, far_same hg.1 (by omega)]
    have hsm := hS.small
    have hT0 := (tm_bd (row := rowE l) (fun v => by have := rowE_len l v; omega) (y : Int) (-1)).1
    have htl := spR_len l (y : Int)
    rw [ht, hs, hf] at up
    rw [hs, hf] at k18
    dsimp only at up k18
    have k40 := ww40 (l := l) (H := [.arr 2 (l.map encP) true 0, .arr 1 ((spR l y).map encPs) true 0, bI (rfarF m l y)]) rfl hg.1 (x := (y : Int)) (by omega)
    have k30 := ww30 (l := l) (H := [.arr 2 (l.map encP) true 0, .arr 1 ((spR l y).map encPs) true 0, bI (rfarF m l y)]) rfl rfl (by omega) (fun r hr => by have := hS.short hr; omega) (n := m) (by omega) (by omega) (x := (y : Int)) (by omega)
    have hc : completeF m l (y : Int) (spR l y) = true := hS.ok
    rw [hc] at k30
    have k29 := ww29 (l := l) (H := [.arr 2 (l.map encP) true 0, .arr 1 ((spR l y).map encPs) true 0, bI (rfarF m l y)]) rfl (R := spR l y) rfl (by omega) (fun r hr => by have := hS.short hr; omega) (m : Int) (y : Int)
    have hck : checkF (m : Int) l (y : Int) (spR l y) = 0 := by rw [checkF, if_pos hg, Int.toNat_natCast, nr_same hv, if_pos hS.ok]
    rw [hck] at k29
    have k41 := ww41 (l := l) (H := [.arr 2 (l.map encP) true 0, .arr 1 ((spR l y).map encPs) true 0, bI (rfarF m l y)]) rfl (n := m) (by omega) (by omega) hv (x := y) (by omega)
    have k21 := ww21 (o := rfarF m l y) (H := [.arr 2 (l.map encP) true 0, .arr 1 ((spR l y).map encPs) true 0, bI (rfarF m l y), bI (rfarF m l y)]) (by rw [show (rfarF m l y).length = m from bfs_len _ _ _]; omega) rfl rfl
    have f1 := rtm_f_16 (m : Int) (l0.map encP) (y : Int) l.length (l.map encP) (tm (rowE l) y (-1)) 0 (spR l y).length ((spR l y).map encPs) 0 (rfarF m l y).length ((rfarF m l y).map encI) 0 k18 (by omega) (by omega)
    have g1 := rtm_g_0 (m : Int) (l0.map encP) (y : Int) l.length (l.map encP) (tm (rowE l) y (-1)) 0 (spR l y).length ((spR l y).map encPs) 0 (rfarF m l y).length ((rfarF m l y).map encI) 0 _ _ k40 rfl rfl rfl (by omega) k30 k29 rfl
    have z1 := rtm_z_0 (m : Int) (l0.map encP) (y : Int) l.length (l.map encP) (tm (rowE l) y (-1)) 0 (spR l y).length ((spR l y).map encPs) 0 (rfarF m l y).length ((rfarF m l y).map encI) 0 _ _ k41 k21 rfl
    have t1 := RunsTo.seq f1 (RunsTo.seq g1 z1 (c := sub [1, 1, 1, 1, 1, 1] B12) (by kernel_rfl) (by kernel_rfl)) (c := sub [1, 1, 1, 1, 1] B12) (by kernel_rfl) (by kernel_rfl)
    exact ⟨_, _, up _ _ t1, rfl⟩
  · have ht : timeF n l x = (0, 2) := by rw [timeF, if_neg hg]
    have hs : spreadF n l x = ([], 2) := by rw [spreadF, if_neg hg]
    have hf : pfarF n l x = ([], 2) := by rw [pfarF, if_neg hg]
    rw [ht, hs, hf] at up
    rw [hs, hf] at k18
    dsimp only at up k18
    have k29 := ww29 (l := l) (H := [.arr 2 (l.map encP) true 0, .arr 1 (([] : Rds).map encPs) true 0, bI []]) rfl (R := []) rfl (by simp) (by simp) n x
    have hck : checkF n l x [] = 2 := by rw [checkF, if_neg hg]
    rw [hck] at k29
    by_cases hT : rTree n l = true
    · rw [hT] at k18 hts
      by_cases hx : x < 0
      · have x1 := rtm_x_0 n (l0.map encP) x l.length (l.map encP) 0 2 0 (([] : Rds).map encPs) 2 0 (([] : List Int).map encI) 2 _ k18 hx rfl rfl rfl rfl rfl rfl k29 rfl
        exact ⟨_, _, up _ _ (RunsTo.seq_out x1 (by simp) (c := sub [1, 1, 1, 1, 1] B12) (b := sub [1, 1, 1, 1, 1, 1] B12) (by kernel_rfl)), rfl⟩
      · have hx2 : n ≤ x := by
          rcases Int.lt_or_le x n with h | h
          · exact absurd ⟨hts, by omega, by omega⟩ hg
          · exact h
        have x1 := rtm_x_8 n (l0.map encP) x l.length (l.map encP) 0 2 0 (([] : Rds).map encPs) 2 0 (([] : List Int).map encI) 2 _ k18 hx hx2 rfl rfl rfl rfl rfl rfl k29 rfl
        exact ⟨_, _, up _ _ (RunsTo.seq_out x1 (by simp) (c := sub [1, 1, 1, 1, 1] B12) (b := sub [1, 1, 1, 1, 1, 1] B12) (by kernel_rfl)), rfl⟩
    · have hT' : rTree n l = false := nb_false hT
      rw [hT'] at k18
      have x1 := rtm_x_17 n (l0.map encP) x l.length (l.map encP) 0 2 0 (([] : Rds).map encPs) 2 0 (([] : List Int).map encI) 2 _ k18 rfl rfl rfl rfl rfl rfl k29 rfl
      exact ⟨_, _, up _ _ (RunsTo.seq_out x1 (by simp) (c := sub [1, 1, 1, 1, 1] B12) (b := sub [1, 1, 1, 1, 1, 1] B12) (by kernel_rfl)), rfl⟩
end Go.Proofs.Ytmhfkhlamnapdaa
end
