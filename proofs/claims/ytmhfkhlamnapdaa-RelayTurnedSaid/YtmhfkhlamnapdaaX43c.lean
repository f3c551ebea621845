/- A part of the proof: X43c. -/
import Derived.Test.YtmhfkhlamnapdaaX43
set_option linter.unusedVariables false
set_option linter.unusedSimpArgs false
open Go Go.HL
namespace Go.Proofs.Ytmhfkhlamnapdaa
theorem knGo_wf {n : Int} {m : Nat} (hn : (m : Int) = n) : ∀ (l : List (Int × Int)) (M M' : Mat), Wf m M → knGo n l M = some M' → Wf m M'
  | [], M, M', hM, h => by cases h; exact hM
  | p :: l, M, M', hM, h => by
    simp only [knGo] at h
    split at h
    · rename_i hg
      exact knGo_wf hn l _ M' (knStep_wf hM (by omega) (by omega)) h
    · cases h
theorem diag_wf {m : Nat} : ∀ (d j : Nat) (M : Mat), j + d = m → Wf m M → Wf m (diag j d M)
  | 0, _, _, _, hM => hM
  | d + 1, j, M, hj, hM => by
    rw [diag]
    exact diag_wf d (j + 1) _ (by omega) (hM.set (by simp [(rowAt_get hM (i := j) (by omega)).2]))
theorem knInit_wf (m : Nat) : Wf m (knInit m) := diag_wf m 0 _ (by omega) ⟨by simp, fun i r hi => by
  rw [List.getElem?_replicate] at hi
  split at hi
  · cases hi; rfl
  · cases hi⟩
theorem knownF_wf {n : Int} {l : List (Int × Int)} {M : Mat} (h : knownF n l = some M) : (1 ≤ n ∧ n ≤ 20) ∧ Wf n.toNat M := by
  unfold knownF at h
  split at h
  · rename_i hg
    exact ⟨hg.1, knGo_wf (m := n.toNat) (by omega) l _ M (knInit_wf _) h⟩
  · cases h

def setFrom : Nat → Nat → List Bool → List Bool
  | _, 0, r => r
  | j, d + 1, r => setFrom (j + 1) d (r.set j true)
theorem setFrom_length : ∀ (d j : Nat) (r : List Bool), (setFrom j d r).length = r.length
  | 0, _, _ => rfl
  | d + 1, j, r => by rw [setFrom, setFrom_length d]; simp
def full (m : Nat) : List Bool := setFrom 0 m zero20
theorem full_length (m : Nat) : (full m).length = 20 := setFrom_length m 0 zero20
def enoughF (n : Int) (l : List (Int × Int)) : Int :=
  match knownF n l with
  | none => 2
  | some M => if M.all (fun r => decide (r = full n.toNat)) then 0 else 10
def enough43 : List HV → Option HV
  | [.int .i64 n, .imm .arg 2 lc] => match mapO decP lc with | some l => some (.int .i64 (enoughF n l)) | none => none
  | _ => none

theorem rows_any : ∀ (M : Mat), (M.map encRow).any isOwn = false
  | [] => rfl
  | r :: M => by simp only [List.map_cons, List.any_cons, rows_any M, encRow, isOwn, Bool.or_self]
theorem argP_pairs : ∀ (l : List (Int × Int)), argPL (l.map encP) = some (l.map encP)
  | [] => rfl
  | p :: l => by simp only [List.map_cons, argPL, argP_pairs l, encP, argP]
theorem arg_pairs (H : Heap) (l : List (Int × Int)) : toArg H 6 (.imm .arg 2 (l.map encP)) = some (.imm .arg 2 (l.map encP)) := by
  show argP (.imm .arg 2 (l.map encP)) = _
  simp only [argP, argP_pairs]

theorem row_neq (a b : List Bool) (ha : a.length = 20) : binV Try.prog .neq 89 (.agg (a.map .bool)) (.agg (b.map .bool)) = (aggEq (a.map .bool) (b.map .bool)).map fun r => .bool !r := by
  have h : plainCells Try.prog 89 (a.map HV.bool) = true := by
    have h1 : plainTy Try.prog false 20 89 = true := by kernel_rfl
    have h2 : (a.map HV.bool).all isBoolV = true := by simp [isBoolV]
    simp only [plainCells, z89, h1, h2, List.length_map, ha]
    simp
  have he : Try.prog.eqGuardType Try.prog.depth 89 = false := by kernel_rfl
  simp only [binV, h, he, a89]
  cases aggEq (a.map HV.bool) (b.map HV.bool) <;> rfl
theorem aggEq_rows : ∀ (a b : List Bool), a.length = b.length → aggEq (a.map .bool) (b.map .bool) = some (decide (a = b))
  | [], [], _ => rfl
  | x :: a, y :: b, h => by
    simp only [List.map_cons, aggEq, scEq, aggEq_rows a b (by simpa using h)]
    by_cases hxy : x = y
    · by_cases hab : a = b
      · simp [hxy, hab]
      · simp [hxy, hab]
    · simp [hxy]
  | [], y :: b, h => by simp at h
  | x :: a, [], h => by simp at h

abbrev eE (n : Int) (lc : List HV) (m : Nat) (v7 v19 v20 v26 v27 v28 : HV) : Env := env43 (.int .i64 n) (.imm .arg 2 lc) (.int .i64 0) (.sl 0 0 m none m 20) (.bool true) v7 .undef .undef v19 v20 v26 v27 v28

theorem enough_l1 (n : Int) (lc : List HV) (m : Nat) (els : List HV) (h20 : n ≤ 20) : ∀ (d j : Nat) (r : List Bool), ((j + d : Nat) : Int) = n → r.length = 20 →
    RunsTo Try.prog polC 43 (sub [1, 1, 1, 1, 0, 1, 0] B43) (eE n lc m (.ptr 1 0 0 1) (.int .i64 n) (.int .i64 (j : Int)) .undef .undef .undef) [.arr 20 els true 0, bR r]
      (.exit 0) (polC.keys 43) (eE n lc m (.ptr 1 0 0 1) (.int .i64 n) (.int .i64 n) .undef .undef .undef) [.arr 20 els true 0, bR (setFrom j d r)] := by
  intro d
  induction d with
  | zero =>
    intro j r hj hr
    subst hj
    exact RunsTo.loop_out (e_l1_1 _ lc m els (r.map .bool) j (by omega)) (by simp) (by kernel_rfl) (by kernel_rfl)
  | succ d ih =>
    intro j r hj hr
    have h := ih (j + 1) (r.set j true) (by omega) (by simp [hr])
    have s1 := e_l1_0 n lc m els (r.map .bool) j ((r.set j true).map .bool) (by omega)
      (by simpa using idx89 (b := 1) (i := 0) (m := 1) (n := (j : Int)) (by omega) (by omega))
      (by
        rw [store_cell (H := [.arr 20 els true 0, bR r]) (b := 1) (i := 0) (off := j) (tot := 1) rfl rfl rfl z4 rfl rfl rfl (by simp [hr]; omega)]
        simp [List.map_set])
    rw [wrap_succ (by omega)] at s1
    exact RunsTo.loop s1 (by kernel_rfl) (gc_same (by simp)) h rfl (by kernel_rfl) (by kernel_rfl)

theorem idx85n {m : Nat} {n : Int} (h0 : 0 ≤ n) (h : n.toNat < m) : idxV Try.prog 85 (.sl 0 0 m none m 20) (.int .i64 n) = some (.ptr 0 n.toNat 0 m) := idx_sl u85 z89 h0 h

theorem enough_l2 (n : Int) (lc : List HV) (m q : Nat) (M : Mat) (hM : Wf m M) (hm : m ≤ 20) (r : List Bool) (hr : r.length = 20) : ∀ (d j : Nat), j + d = m →
    ∃ x E H, RunsTo Try.prog polC 43 (sub [1, 1, 1, 1, 1, 0, 1, 0] B43) (eE n lc m (.ptr 1 0 0 1) (.int .i64 n) (.int .i64 (q : Int)) (.sl 0 0 m none m 20) (.int .i64 (m : Int)) (.int .i64 (j : Int))) [bM M, bR r] x (polC.keys 43) E H ∧
      (((M.drop j).all (fun s => decide (s = r)) = true ∧ x = .exit 2 ∧ E = eE n lc m (.ptr 1 0 0 1) (.int .i64 n) (.int .i64 (q : Int)) (.sl 0 0 m none m 20) (.int .i64 (m : Int)) (.int .i64 (m : Int)) ∧ H = [bM M, bR r]) ∨
       ((M.drop j).all (fun s => decide (s = r)) = false ∧ x = .ret ∧ E.get 4 = .int .i64 10)) := by
  intro d
  induction d with
  | zero =>
    intro j hj
    have hj : j = m := by omega
    subst hj
    refine ⟨_, _, _, RunsTo.loop_out (e_l2_2 n lc j (M.map encRow) (r.map .bool) q j (by omega)) (by simp) (by kernel_rfl) (by kernel_rfl), .inl ⟨?_, rfl, rfl, rfl⟩⟩
    rw [List.drop_eq_nil_of_le (by rw [hM.1]; omega)]
    rfl
  | succ d ih =>
    intro j hj
    have hjm : j < m := by omega
    obtain ⟨r1, r2⟩ := rowAt_get hM hjm
    have hd : M.drop j = rowAt M j :: M.drop (j + 1) := by
      have hl : j < M.length := by rw [hM.1]; exact hjm
      rw [List.drop_eq_getElem_cons hl]
      rw [List.getElem?_eq_getElem hl] at r1
      rw [Option.some.inj r1]
    have g1 : idxV Try.prog 85 (.sl 0 0 m none m 20) (.int .i64 (j : Int)) = some (.ptr 0 j 0 m) := by simpa using idx85n (m := m) (n := (j : Int)) (by omega) (by omega)
    have g2 : loadV Try.prog [bM M, bR r] 89 (.ptr 0 j 0 m) = some (.agg ((rowAt M j).map .bool)) := load_agg (b := 0) rfl (by rw [List.length_map]; exact hM.1.symm) (encM_get hM hjm) a89 (by rw [z89]; simp [r2])
    have g3 : storeV Try.prog [bM M, bR r, bR zero20] 89 (.ptr 2 0 0 1) (.agg ((rowAt M j).map .bool)) = some [bM M, bR r, bR (rowAt M j)] :=
      store_agg (P := Try.prog) (H := [bM M, bR r, bR zero20]) (t := 89) (b := 2) (i := 0) (tot := 1) (new := (rowAt M j).map HV.bool) rfl rfl rfl (by rw [z89]; simp [r2]) (by simp [r2, zero20]) (by simp [r2]) (bools_cellV _) (bools_bnd _)
    have g4 : loadV Try.prog [bM M, bR r, bR (rowAt M j)] 89 (.ptr 2 0 0 1) = some (.agg ((rowAt M j).map .bool)) := load_agg (b := 2) (i := 0) (tot := 1) rfl rfl rfl a89 (by rw [z89]; simp [r2])
    have g5 : loadV Try.prog [bM M, bR r, bR (rowAt M j)] 89 (.ptr 1 0 0 1) = some (.agg (r.map .bool)) := load_agg (b := 1) (i := 0) (tot := 1) rfl rfl rfl a89 (by rw [z89]; simp [hr])
    have g6 : binV Try.prog .neq 89 (.agg ((rowAt M j).map .bool)) (.agg (r.map .bool)) = some (.bool (!decide (rowAt M j = r))) := by
      rw [row_neq _ _ r2, aggEq_rows _ _ (by omega)]; rfl
    by_cases he : rowAt M j = r
    · obtain ⟨x, E, H, h1, h2⟩ := ih (j + 1) (by omega)
      have s1 := e_l2_1 n lc m (M.map encRow) (r.map .bool) q j ((rowAt M j).map .bool) (by omega) g1 g2 g3 g4 g5 (by rw [g6, decide_eq_true he]; rfl)
      rw [wrap_succ (by omega)] at s1
      refine ⟨x, E, H, RunsTo.loop s1 (by kernel_rfl) (by kernel_rfl) h1 rfl (by kernel_rfl) (by kernel_rfl), ?_⟩
      rw [hd, List.all_cons, decide_eq_true he, Bool.true_and]
      exact h2
    · have s1 := e_l2_0 n lc m (M.map encRow) (r.map .bool) q j ((rowAt M j).map .bool) (by omega) g1 g2 g3 g4 g5 (by rw [g6, decide_eq_false he]; rfl)
      refine ⟨_, _, _, RunsTo.loop_out s1 (by simp) (by kernel_rfl) (by kernel_rfl), .inr ⟨?_, rfl, rfl⟩⟩
      rw [hd, List.all_cons, decide_eq_false he, Bool.false_and]

theorem res43 : Try.f43.results.toList = [.tmp 4] := by kernel_rfl
theorem enough_run (n : Int) (l : List (Int × Int)) : ∃ E H, RunsTo Try.prog polC 43 B43 (args0 [.int .i64 n, .imm .arg 2 (l.map encP)]) [] .ret (polC.keys 43) E H ∧ E.get 4 = .int .i64 (enoughF n l) := by
  have a1 := e_a_0 n (l.map encP)
  have hp : ∀ {res : HV}, known58 [.int .i64 n, .imm .arg 2 (l.map encP)] = some res → ∀ k, callN Try.prog polC (k + 1) 58 [.int .i64 n, .imm .arg 2 (l.map encP)] [] = some (recv res []) := fun {res} h k =>
    prim_call (pol := polC) (g := 58) (F := known58) (by kernel_rfl) (rs := [.int .i64 n, .imm .arg 2 (l.map encP)]) (by simp only [mapO, arg_pairs]; rfl) h
  have hk : known58 [.int .i64 n, .imm .arg 2 (l.map encP)] = some (match knownF n l with | some M => .tuple [.own 20 (M.map encRow), .bool true] | none => .tuple [.own 20 [], .bool false]) := by
    simp only [known58, mapO_map decP_enc]
    cases knownF n l <;> rfl
  cases hM : knownF n l with
  | none =>
    rw [hM] at hk
    have b1 := e_b_1 n (l.map encP) (fun k => (hp hk k).trans rfl)
    have t1 := RunsTo.seq_out (e_cc_0 n (l.map encP)) (by simp) (c := sub [1, 1] B43) (b := sub [1, 1, 1] B43) (by kernel_rfl)
    have t2 := RunsTo.seq b1 t1 (c := sub [1] B43) (by kernel_rfl) (by kernel_rfl)
    have t3 := RunsTo.seq a1 t2 (c := B43) (by kernel_rfl) (by kernel_rfl)
    exact ⟨_, _, t3, by rw [enoughF, hM]; rfl⟩
  | some M =>
    obtain ⟨hn, hW⟩ := knownF_wf hM
    rw [hM] at hk
    have b1 := e_b_0 n (l.map encP) n.toNat (M.map encRow) (fun k => by
      rw [hp hk k]
      simp only [recv, recvVals, recvVal, recvCell, rows_any, List.length_map, hW.1]
      rfl)
    have c1 := e_c_0 n (l.map encP) n.toNat (M.map encRow)
    have d1 := e_d_0 n (l.map encP) n.toNat (M.map encRow)
    have f1 := e_e_0 n (l.map encP) n.toNat (M.map encRow) (zero20.map .bool)
    have l1 := enough_l1 n (l.map encP) n.toNat (M.map encRow) hn.2 n.toNat 0 zero20 (by omega) rfl
    obtain ⟨q, hq⟩ : ∃ q : Nat, (q : Int) = n := ⟨n.toNat, by omega⟩
    rw [← hq] at l1
    have f2 := e_f_0 (q : Int) (l.map encP) (q : Int).toNat (M.map encRow) ((full (q : Int).toNat).map .bool) q
    obtain ⟨x, E, H, g1, g2⟩ := enough_l2 (q : Int) (l.map encP) (q : Int).toNat q M (by rw [hq]; exact hW) (by omega) (full (q : Int).toNat) (full_length _) (q : Int).toNat 0 (by omega)
    rw [← hq] at a1 b1 c1 d1 f1 ⊢
    have u1 := RunsTo.seq f1 (RunsTo.block_exit (c := sub [1, 1, 1, 1, 0, 1] B43) l1 (by kernel_rfl)) (c := sub [1, 1, 1, 1, 0] B43) (by kernel_rfl) (by kernel_rfl)
    have up : ∀ E H, RunsTo Try.prog polC 43 (sub [1, 1, 1, 1, 1] B43) (eE (q : Int) (l.map encP) (q : Int).toNat (.ptr 1 0 0 1) (.int .i64 (q : Int)) (.int .i64 (q : Int)) .undef .undef .undef) [bM M, bR (full (q : Int).toNat)] .ret (polC.keys 43) E H →
        RunsTo Try.prog polC 43 B43 (args0 [.int .i64 (q : Int), .imm .arg 2 (l.map encP)]) [] .ret (polC.keys 43) E H := by
      intro E H t
      have t1 := RunsTo.seq u1 t (c := sub [1, 1, 1, 1] B43) (by kernel_rfl) (by kernel_rfl)
      have t2 := RunsTo.seq d1 t1 (c := sub [1, 1, 1] B43) (by kernel_rfl) (by kernel_rfl)
      have t3 := RunsTo.seq c1 t2 (c := sub [1, 1] B43) (by kernel_rfl) (by kernel_rfl)
      have t4 := RunsTo.seq b1 t3 (c := sub [1] B43) (by kernel_rfl) (by kernel_rfl)
      exact RunsTo.seq a1 t4 (c := B43) (by kernel_rfl) (by kernel_rfl)
    rcases g2 with ⟨k1, rfl, rfl, rfl⟩ | ⟨k1, rfl, k2⟩
    · have z1 := e_z_0 (q : Int) (l.map encP) (q : Int).toNat (M.map encRow) ((full (q : Int).toNat).map .bool) q (q : Int).toNat
      have t1 := RunsTo.seq f2 (RunsTo.block_exit (c := sub [1, 1, 1, 1, 1, 0, 1] B43) g1 (by kernel_rfl)) (c := sub [1, 1, 1, 1, 1, 0] B43) (by kernel_rfl) (by kernel_rfl)
      have t2 := RunsTo.seq t1 z1 (c := sub [1, 1, 1, 1, 1] B43) (by kernel_rfl) (by kernel_rfl)
      refine ⟨_, _, up _ _ t2, ?_⟩
      rw [enoughF, hq, hM]
      rw [hq] at k1
      simp only [List.drop_zero] at k1
      simp only [k1, if_true]
      rfl
    · have t1 := RunsTo.seq f2 (RunsTo.block_ret (c := sub [1, 1, 1, 1, 1, 0, 1] B43) (i := 2) g1 (by kernel_rfl)) (c := sub [1, 1, 1, 1, 1, 0] B43) (by kernel_rfl) (by kernel_rfl)
      have t2 := RunsTo.seq_out t1 (by simp) (c := sub [1, 1, 1, 1, 1] B43) (b := sub [1, 1, 1, 1, 1, 1] B43) (by kernel_rfl)
      refine ⟨_, _, up _ _ t2, ?_⟩
      rw [k2, enoughF, hq, hM]
      rw [hq] at k1
      simp only [List.drop_zero] at k1
      simp [k1]

theorem enough_ok : PrimOk Try.prog 43 enough43 := by
  refine primOk_pure (pol := polC) (fn := Try.f43) (cd := B43) follows_mixed soundC (by kernel_rfl) (by kernel_rfl) (fnok polC.prim _ _ (by kernel_rfl)) (by kernel_rfl) ?_
  intro args res h
  unfold enough43 at h
  split at h
  · rename_i n lc
    split at h
    · rename_i l hl
      cases h
      rw [mapO_inv decP_inv hl]
      obtain ⟨E, H, h1, h2⟩ := enough_run n l
      exact ⟨_, E, H, .int .i64 (enoughF n l), h1, by simp, by simp only [resultsV, res43, mapO, resultV, h2], rfl⟩
    · cases h
  · cases h
end Go.Proofs.Ytmhfkhlamnapdaa
