/- A part of the proof: X42c. -/
import Derived.Test.YtmhfkhlamnapdaaXM
import Derived.Test.YtmhfkhlamnapdaaX42
set_option linter.unusedVariables false
set_option linter.unusedSimpArgs false
open Go Go.HL
namespace Go.Proofs.Ytmhfkhlamnapdaa
def truesFrom (r : List Bool) : Nat → Nat → List Int → List Int
  | _, 0, l => l
  | x, d + 1, l => truesFrom r (x + 1) d (if bitAt r x then l ++ [(x : Int)] else l)
def tRows (M : Mat) : Nat → Nat → List (List Int) → List (List Int)
  | _, 0, L => L
  | j, d + 1, L => tRows M (j + 1) d (L ++ [truesFrom (rowAt M j) 0 20 []])
theorem truesFrom_length (r : List Bool) : ∀ (d x : Nat) (l : List Int), (truesFrom r x d l).length ≤ l.length + d
  | 0, _, _ => Nat.le_refl _
  | d + 1, x, l => by
    rw [truesFrom]
    have := truesFrom_length r d (x + 1) (if bitAt r x then l ++ [(x : Int)] else l)
    split at this
    · rename_i h; rw [if_pos h]; simp only [List.length_append, List.length_singleton] at this; omega
    · rename_i h; rw [if_neg h]; omega

abbrev gE (n : Int) (lc : List HV) (m : Nat) (R : Nat) (j : Nat) (v10 v11 v28 v29 : HV) : Env :=
  env42 (.int .i64 n) (.imm .arg 2 lc) (.imm .lit 1 []) (.int .i64 0) .undef .undef (.sl 1 0 R none R 1) v10 v11 .undef .undef (.sl 0 0 m none m 20) (.int .i64 (m : Int)) (.int .i64 (j : Int)) v28 v29

theorem trues_loop (n : Int) (lc : List HV) (m j : Nat) (els rws : List HV) (R : Nat) (r : List Bool) (hr : r.length = 20) : ∀ (d x : Nat) (l : List Int), x + d = 20 → l.length ≤ x →
    RunsTo Try.prog polC 42 (sub [1, 1, 1, 1, 0, 1, 0, 0, 1, 1, 0, 0, 1, 1, 0, 1, 0] B42) (gE n lc m R j .undef (.sl 3 0 l.length none l.length 1) (.agg (r.map .bool)) (.int .i64 (x : Int))) [.arr 20 els true 0, .arr 1 rws true 0, bR r, .arr 1 (l.map encI) true 0]
      (.exit 2) (polC.keys 42) (gE n lc m R j .undef (.sl 3 0 (truesFrom r x d l).length none (truesFrom r x d l).length 1) (.agg (r.map .bool)) (.int .i64 ((20 : Nat) : Int))) [.arr 20 els true 0, .arr 1 rws true 0, bR r, .arr 1 ((truesFrom r x d l).map encI) true 0] := by
  intro d
  induction d with
  | zero =>
    intro x l hx hl
    have hx : x = 20 := by omega
    subst hx
    exact RunsTo.loop_out (kn_l_2 n lc m els rws R j (r.map .bool) (l.map encI) l.length 20 (by omega)) (by simp) (by kernel_rfl) (by kernel_rfl)
  | succ d ih =>
    intro x l hx hl
    have hx20 : x < 20 := by omega
    have h := ih (x + 1) (if bitAt r x then l ++ [(x : Int)] else l) (by omega) (by
      split
      · simp only [List.length_append, List.length_singleton]; omega
      · omega)
    rw [show truesFrom r x (d + 1) l = truesFrom r (x + 1) d (if bitAt r x then l ++ [(x : Int)] else l) from rfl]
    have g1 : elemV Try.prog 89 (.agg (r.map .bool)) (.int .i64 (x : Int)) = some (.bool (bitAt r x)) := elem_arr u89 z4 a4 i4 (by omega) (by omega) (by simpa using bit_get hr hx20)
    cases hb : bitAt r x with
    | true =>
      rw [hb] at g1
      simp only [hb, if_true] at h ⊢
      have hap := app_sl (H := [.arr 20 els true 0, .arr 1 rws true 0, bR r, .arr 1 (l.map encI) true 0]) (k := 1) (bytes := 8) (b := 3) (n := l.length) (mx := 0) (els := l.map encI) (xs := [encI (x : Int)]) rfl (by simp) (by simp) (by simp only [List.length_singleton, roomMax]; omega) rfl
      have s1 := kn_l_0 n lc m els rws R j (r.map .bool) (l.map encI) l.length x (by omega) g1 hap
      rw [wrap_succ (by omega)] at s1
      have e1 : (l ++ [(x : Int)]).map encI = l.map encI ++ [encI (x : Int)] := by simp
      have e2 : (l ++ [(x : Int)]).length = l.length + 1 := by simp
      rw [e1, e2] at h
      exact RunsTo.loop s1 (by kernel_rfl) (gc_same (by simp)) h rfl (by kernel_rfl) (by kernel_rfl)
    | false =>
      rw [hb] at g1
      simp only [hb, Bool.false_eq_true, if_false] at h ⊢
      have s1 := kn_l_1 n lc m els rws R j (r.map .bool) (l.map encI) l.length x (by omega) g1
      rw [wrap_succ (by omega)] at s1
      exact RunsTo.loop s1 (by kernel_rfl) (gc_same (by simp)) h rfl (by kernel_rfl) (by kernel_rfl)

theorem knownRows_loop (n : Int) (lc : List HV) (m : Nat) (hm : m ≤ 20) (M : Mat) (hM : Wf m M) : ∀ (d j : Nat) (L : List (List Int)), j + d = m → L.length = j →
    RunsTo Try.prog polC 42 (sub [1, 1, 1, 1, 0, 1, 0] B42) (gE n lc m L.length j .undef .undef .undef .undef) [bM M, bIs L]
      (.exit 0) (polC.keys 42) (gE n lc m (tRows M j d L).length m .undef .undef .undef .undef) [bM M, bIs (tRows M j d L)] := by
  intro d
  induction d with
  | zero =>
    intro j L hj hL
    have hj : j = m := by omega
    subst hj
    have s1 := kn_f_1 n lc j (M.map encRow) (L.map encIs) L.length j (by omega)
    have s2 := kn_gf_0 n lc j (M.map encRow) (L.map encIs) L.length j
    have t1 := RunsTo.seq_out s2 (by simp) (c := sub [1, 1, 1, 1, 0, 1, 0, 0, 1] B42) (b := sub [1, 1, 1, 1, 0, 1, 0, 0, 1, 1] B42) (by kernel_rfl)
    have t2 := RunsTo.seq s1 t1 (c := sub [1, 1, 1, 1, 0, 1, 0, 0] B42) (by kernel_rfl) (by kernel_rfl)
    exact RunsTo.loop_out t2 (by simp) (by kernel_rfl) (by kernel_rfl)
  | succ d ih =>
    intro j L hj hL
    have hjm : j < m := by omega
    obtain ⟨r1, r2⟩ := rowAt_get hM hjm
    have h := ih (j + 1) (L ++ [truesFrom (rowAt M j) 0 20 []]) (by omega) (by simp [hL])
    rw [show tRows M j (d + 1) L = tRows M (j + 1) d (L ++ [truesFrom (rowAt M j) 0 20 []]) from rfl]
    have g1 : idxV Try.prog 85 (.sl 0 0 m none m 20) (.int .i64 (j : Int)) = some (.ptr 0 j 0 m) := by simpa using idx85n (m := m) (n := (j : Int)) (by omega) (by omega)
    have g2 : loadV Try.prog [bM M, bIs L] 89 (.ptr 0 j 0 m) = some (.agg ((rowAt M j).map .bool)) := load_agg (b := 0) rfl (by rw [List.length_map]; exact hM.1.symm) (encM_get hM hjm) a89 (by rw [z89]; simp [r2])
    have g3 : storeV Try.prog [bM M, bIs L, bR zero20] 89 (.ptr 2 0 0 1) (.agg ((rowAt M j).map .bool)) = some [bM M, bIs L, bR (rowAt M j)] :=
      store_agg (P := Try.prog) (H := [bM M, bIs L, bR zero20]) (t := 89) (b := 2) (i := 0) (tot := 1) (new := (rowAt M j).map HV.bool) rfl rfl rfl (by rw [z89]; simp [r2]) (by simp [r2, zero20]) (by simp [r2]) (bools_cellV _) (bools_bnd _)
    have g4 : loadV Try.prog [bM M, bIs L, bR (rowAt M j), .arr 1 [] true 0] 89 (.ptr 2 0 0 1) = some (.agg ((rowAt M j).map .bool)) := load_agg (b := 2) (i := 0) (tot := 1) rfl rfl rfl a89 (by rw [z89]; simp [r2])
    have s1 := kn_f_0 n lc m (M.map encRow) (L.map encIs) L.length j (by omega)
    have s2 := kn_gt_0 n lc m (M.map encRow) (L.map encIs) L.length j
    have s3 := kn_h_0 n lc m (M.map encRow) (L.map encIs) L.length j ((rowAt M j).map .bool) g1 g2 g3
    have s4 := kn_i_0 n lc m (M.map encRow) (L.map encIs) L.length j ((rowAt M j).map .bool)
    have s5 := kn_k_0 n lc m (M.map encRow) (L.map encIs) L.length j ((rowAt M j).map .bool) [] 0 g4
    have s6 := trues_loop n lc m j (M.map encRow) (L.map encIs) L.length (rowAt M j) r2 20 0 [] (by omega) (by simp)
    have hrl := truesFrom_length (rowAt M j) 20 0 []
    generalize truesFrom (rowAt M j) 0 20 [] = row at h s6 hrl ⊢
    obtain ⟨w, hlit⟩ := lit_seal' (P := Try.prog) (H := [bM M, bIs L, bR (rowAt M j), .arr 1 (row.map encI) true 0]) (t := 55) (b := 3) (p := row.length) u55f info24 rfl rfl rfl (by simp) (ints_res row)
    have hap := app_sl (H := [bM M, bIs L, bR (rowAt M j), .arr 1 (row.map encI) w 0]) (k := 1) (bytes := 24) (b := 1) (n := L.length) (mx := 0) (els := L.map encIs) (xs := [.imm .own 1 (row.map encI)]) rfl (by simp) (by simp) (by simp only [List.length_singleton, roomMax]; omega) rfl
    have s7 := kn_m_0 n lc m (M.map encRow) (L.map encIs) L.length j ((rowAt M j).map .bool) (row.map encI) row.length 20 w hlit hap
    have s8 := kn_n_0 n lc m (M.map encRow) (L.map encIs ++ [.imm .own 1 (row.map encI)]) (L.length + 1) j ((rowAt M j).map .bool) (row.map encI) row.length 20 w
    rw [wrap_succ (by omega)] at s8
    have e3 : (L ++ [row]).length = L.length + 1 := by simp
    have e4 : (L ++ [row]).map encIs = L.map encIs ++ [.imm .own 1 (row.map encI)] := by simp [encIs]
    unfold bIs at h
    rw [e3, e4] at h
    have s6' := RunsTo.loop_in (e0 := gE n lc m L.length j (.ptr 2 0 0 1) (.sl 3 0 0 none 0 1) (.agg ((rowAt M j).map .bool)) (.int .i64 0)) s6 (b := sub [1, 1, 1, 1, 0, 1, 0, 0, 1, 1, 0, 0, 1, 1, 0, 1, 0, 0] B42) (by kernel_rfl) (by kernel_rfl) (by kernel_rfl)
    have t1 := RunsTo.seq s5 (RunsTo.block_exit (c := sub [1, 1, 1, 1, 0, 1, 0, 0, 1, 1, 0, 0, 1, 1, 0, 1] B42) s6' (by kernel_rfl)) (c := sub [1, 1, 1, 1, 0, 1, 0, 0, 1, 1, 0, 0, 1, 1, 0] B42) (by kernel_rfl) (by kernel_rfl)
    have t2 := RunsTo.seq t1 s7 (c := sub [1, 1, 1, 1, 0, 1, 0, 0, 1, 1, 0, 0, 1, 1] B42) (by kernel_rfl) (by kernel_rfl)
    have t3 := RunsTo.seq s4 t2 (c := sub [1, 1, 1, 1, 0, 1, 0, 0, 1, 1, 0, 0, 1] B42) (by kernel_rfl) (by kernel_rfl)
    have t4 := RunsTo.seq s3 t3 (c := sub [1, 1, 1, 1, 0, 1, 0, 0, 1, 1, 0, 0] B42) (by kernel_rfl) (by kernel_rfl)
    have t5 := RunsTo.block_normal t4 (c := sub [1, 1, 1, 1, 0, 1, 0, 0, 1, 1, 0] B42) (i := 1) (by kernel_rfl)
    have t6 := RunsTo.seq t5 s8 (c := sub [1, 1, 1, 1, 0, 1, 0, 0, 1, 1] B42) (by kernel_rfl) (by kernel_rfl)
    have t7 := RunsTo.seq s2 t6 (c := sub [1, 1, 1, 1, 0, 1, 0, 0, 1] B42) (by kernel_rfl) (by kernel_rfl)
    have t8 := RunsTo.seq s1 t7 (c := sub [1, 1, 1, 1, 0, 1, 0, 0] B42) (by kernel_rfl) (by kernel_rfl)
    exact RunsTo.loop t8 (by kernel_rfl) (by kernel_rfl) h rfl (by kernel_rfl) (by kernel_rfl)

def known42 : List HV → Option HV
  | [.int .i64 n, .imm .arg 2 lc] =>
    match mapO decP lc with
    | some l => some (match knownF n l with | some M => .tuple [.own 1 ((tRows M 0 n.toNat []).map encIs), .int .i64 0] | none => .tuple [.own 1 [], .int .i64 2])
    | none => none
  | _ => none
theorem res42 : Try.f42.results.toList = [.tmp 4, .tmp 5] := by kernel_rfl
theorem known42_ok : PrimOk Try.prog 42 known42 := by
  refine primOk_pure (pol := polC) (fn := Try.f42) (cd := B42) follows_mixed soundC (by kernel_rfl) (by kernel_rfl) (fnok polC.prim _ _ (by kernel_rfl)) (by kernel_rfl) ?_
  intro args res h
  unfold known42 at h
  split at h
  · rename_i n lc
    split at h
    · rename_i l hl
      cases h
      rw [mapO_inv decP_inv hl]
      have a1 := kn_a_0 n (l.map encP)
      have hp : ∀ {res : HV}, known58 [.int .i64 n, .imm .arg 2 (l.map encP)] = some res → ∀ k, callN Try.prog polC (k + 1) 58 [.int .i64 n, .imm .arg 2 (l.map encP)] [] = some (recv res []) := fun {res} h k =>
        prim_call (pol := polC) (g := 58) (F := known58) (by kernel_rfl) (rs := [.int .i64 n, .imm .arg 2 (l.map encP)]) (by simp only [mapO, arg_pairs]; rfl) h
      have hk : known58 [.int .i64 n, .imm .arg 2 (l.map encP)] = some (match knownF n l with | some M => .tuple [.own 20 (M.map encRow), .bool true] | none => .tuple [.own 20 [], .bool false]) := by
        simp only [known58, mapO_map decP_enc]
        cases knownF n l <;> rfl
      cases hM : knownF n l with
      | none =>
        rw [hM] at hk
        have b1 := kn_b_1 n (l.map encP) (fun k => (hp hk k).trans rfl)
        have t1 := RunsTo.seq_out (kn_cc_0 n (l.map encP)) (by simp) (c := sub [1, 1] B42) (b := sub [1, 1, 1] B42) (by kernel_rfl)
        have t2 := RunsTo.seq b1 t1 (c := sub [1] B42) (by kernel_rfl) (by kernel_rfl)
        have t3 := RunsTo.seq a1 t2 (c := B42) (by kernel_rfl) (by kernel_rfl)
        exact ⟨_, _, _, .tuple [.imm .lit 1 [], .int .i64 2], t3, by simp, by simp only [resultsV, res42]; rfl, rfl⟩
      | some M =>
        obtain ⟨hn, hW⟩ := knownF_wf hM
        rw [hM] at hk
        have b1 := kn_b_0 n (l.map encP) n.toNat (M.map encRow) (fun k => by
          rw [hp hk k]
          simp only [recv, recvVals, recvVal, recvCell, rows_any, List.length_map, hW.1]
          rfl)
        have c1 := kn_c_0 n (l.map encP) n.toNat (M.map encRow)
        have d1 := kn_d_0 n (l.map encP) n.toNat (M.map encRow)
        have e1 := kn_e_0 n (l.map encP) n.toNat (M.map encRow) [] 0
        have f1 := knownRows_loop n (l.map encP) n.toNat (by omega) M hW n.toNat 0 [] (by omega) rfl
        have z1 := kn_z_0 n (l.map encP) n.toNat (M.map encRow) ((tRows M 0 n.toNat []).map encIs) (tRows M 0 n.toNat []).length n.toNat
        have f1' := RunsTo.loop_in (e0 := env42 (.int .i64 n) (.imm .arg 2 (l.map encP)) (.imm .lit 1 []) (.int .i64 0) (.sl 0 0 n.toNat none n.toNat 20) (.bool true) (.sl 1 0 0 none 0 1) .undef .undef .undef .undef (.sl 0 0 n.toNat none n.toNat 20) (.int .i64 (n.toNat : Int)) (.int .i64 0) .undef .undef) f1 (b := sub [1, 1, 1, 1, 0, 1, 0, 0] B42) (by kernel_rfl) (by kernel_rfl) (by kernel_rfl)
        have t1 := RunsTo.seq e1 (RunsTo.block_exit (c := sub [1, 1, 1, 1, 0, 1] B42) f1' (by kernel_rfl)) (c := sub [1, 1, 1, 1, 0] B42) (by kernel_rfl) (by kernel_rfl)
        have t2 := RunsTo.seq t1 z1 (c := sub [1, 1, 1, 1] B42) (by kernel_rfl) (by kernel_rfl)
        have t3 := RunsTo.seq d1 t2 (c := sub [1, 1, 1] B42) (by kernel_rfl) (by kernel_rfl)
        have t4 := RunsTo.seq c1 t3 (c := sub [1, 1] B42) (by kernel_rfl) (by kernel_rfl)
        have t5 := RunsTo.seq b1 t4 (c := sub [1] B42) (by kernel_rfl) (by kernel_rfl)
        have t6 := RunsTo.seq a1 t5 (c := B42) (by kernel_rfl) (by kernel_rfl)
        have hr := resCell_sl (H := [bM M, bIs (tRows M 0 n.toNat [])]) (no := [1]) (b := 1) (k := 1) (m := (tRows M 0 n.toNat []).length) (cap := none) (els := (tRows M 0 n.toNat []).map encIs) rfl (by simp) (mapO_self frz_ints _)
        have ho : ownedAll [bM M, bIs (tRows M 0 n.toNat [])] false (.tuple [.sl 1 0 (tRows M 0 n.toNat []).length none (tRows M 0 n.toNat []).length 1, .int .i64 0]) = [1] := rfl
        refine ⟨_, _, _, .tuple [.sl 1 0 (tRows M 0 n.toNat []).length none (tRows M 0 n.toNat []).length 1, .int .i64 0], t6, by simp, by simp only [resultsV, res42]; rfl, ?_⟩
        show toRes _ false _ = _
        simp only [toRes, ho, List.nodup_cons, List.not_mem_nil, not_false_eq_true, List.nodup_nil, and_self, if_true, mapO, resVal, hr]
        rfl
    · cases h
  · cases h

/-- The rows that both read. -/
theorem trues_eq {m : Nat} (hm : m ≤ 20) {F : List Bool} {M : Mat} (h : Same m F M) {j : Nat} (hj : j < m) : truesFrom (rowAt M j) 0 20 [] = rRow m j F 0 m [] := by
  have tail : ∀ (d x : Nat) (l : List Int), m ≤ x → truesFrom (rowAt M j) x d l = l := by
    intro d
    induction d with
    | zero => intro x l _; rfl
    | succ d ih => intro x l hx; rw [truesFrom, h.rest j x hj hx]; exact ih (x + 1) l (by omega)
  have main : ∀ (d x e : Nat) (l : List Int), x + d = m → x + e = 20 → truesFrom (rowAt M j) x e l = rRow m j F x d l := by
    intro d
    induction d with
    | zero => intro x e l hx he; rw [rRow]; exact tail e x l (by omega)
    | succ d ih =>
      intro x e l hx he
      obtain ⟨e, rfl⟩ : ∃ e', e = e' + 1 := ⟨e - 1, by omega⟩
      rw [truesFrom, rRow, h.bits j x hj (by omega)]
      exact ih (x + 1) e _ (by omega) (by omega)
  exact main m 0 20 [] (by omega) (by omega)
theorem tRows_eq {m : Nat} (hm : m ≤ 20) {F : List Bool} {M : Mat} (h : Same m F M) : ∀ (d j : Nat) (L : List (List Int)), j + d = m → tRows M j d L = rRows m F j d L
  | 0, _, _, _ => rfl
  | d + 1, j, L, hj => by rw [tRows, rRows, trues_eq hm h (by omega)]; exact tRows_eq hm h d (j + 1) _ (by omega)
theorem known_eq {n : Int} {m : Nat} (hn : (m : Int) = n) (h1 : 1 ≤ m) (hm : m ≤ 20) (l : List (Int × Int)) (hv : l.all (validB n) = true) (hl : l.length ≤ 200) : ∃ M, knownF n l = some M ∧ tRows M 0 m [] = rKnown m l := by
  obtain ⟨M', h2, h3⟩ := same_go hn l _ _ (same_init m hm) hv
  exact ⟨M', by rw [knownF, if_pos ⟨by omega, hl⟩, show n.toNat = m by omega]; exact h2, tRows_eq hm h3 m 0 [] (by omega)⟩
theorem known_none {n : Int} (l : List (Int × Int)) (h : ¬ ((1 ≤ n ∧ n ≤ 20) ∧ rCalls n l = true)) : knownF n l = none := by
  unfold knownF
  split
  · rename_i hg
    have hv : ¬ l.all (validB n) = true := fun hv => h ⟨hg.1, by rw [rCalls, hv, decide_eq_true hg.2]; rfl⟩
    have go : ∀ (l : List (Int × Int)) (M : Mat), ¬ l.all (validB n) = true → knGo n l M = none := by
      intro l
      induction l with
      | nil => intro M hv; exact absurd rfl hv
      | cons p l ih =>
        intro M hv
        rw [knGo]
        split
        · rename_i hp
          apply ih
          intro hl
          apply hv
          rw [List.all_cons, hl, Bool.and_true, validB]
          exact decide_eq_true ⟨⟨hp.1.1, by omega⟩, ⟨hp.2.1.1, by omega⟩, hp.2.2⟩
        · rfl
    exact go l _ hv
  · rfl
end Go.Proofs.Ytmhfkhlamnapdaa
