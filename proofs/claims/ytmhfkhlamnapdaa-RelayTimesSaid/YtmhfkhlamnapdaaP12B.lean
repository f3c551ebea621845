/- A part of the proof. -/
import Derived.Test.YtmhfkhlamnapdaaP12A
set_option linter.unusedVariables false
set_option linter.unusedSimpArgs false
section
open Go Go.HL
namespace Go.Proofs.Ytmhfkhlamnapdaa
theorem good_res {E : Env} {H : Heap} {b : Bool} {v : HV} (h4 : E.get 4 = .ptr 0 0 0 1) (h5 : E.get 5 = .bool b) (h : loadV Try.prog H 72 (.ptr 0 0 0 1) = some v) : resultsV Try.prog Try.f46 E H = some (.tuple [v, .bool b]) := by
  simp only [resultsV, res46, mapO, resultV, h4, h5, h]
def farOk (adj : List (List Nat)) : Bool := decide ((-1 : Int) ∉ farF adj 0)
def newTreeF (n : Int) (l : List (Int × Int)) : HV :=
  if ((1 ≤ n ∧ n ≤ 30) ∧ (l.length : Int) = n - 1) ∧ l.all (validB n) = true then .tuple [treeV (adjOf n.toNat l), .bool (farOk (adjOf n.toNat l))] else .tuple [.agg [.own 0 [], .nilmap], .bool false]
def newTree46 : List HV → Option HV
  | [.int .i64 n, .imm .arg 2 lc] => match mapO decP lc with | some l => some (newTreeF n l) | none => none
  | _ => none
theorem ainv_ok {n k : Nat} (hk : k ≤ 1000) {adj : List (List Nat)} (h : AInv n k adj) : rowsOk adj = true := rowsOk_iff.2 fun r hr => by
  have := h.row r hr
  rw [h.len]
  exact ⟨by omega, this.2⟩
theorem m50 {n k : Nat} (h0 : 0 < n) (hn : n ≤ 1000) (hk : k ≤ 1000) {adj : List (List Nat)} {H : Heap} (hT : TS n adj H) (hA : AInv n k adj) : ∀ kf, callN Try.prog polM (kf + 1) 50 [trV n, .int .i64 0] H = some (.sl H.length 0 n none n 1, H ++ [bI (farF adj 0)]) := fun kf => by
  rw [prim_call (pol := polM) (g := 50) (F := far50) (by kernel_rfl) (rs := [.agg [.imm .arg 1 (adj.map encR), .imap .arg [] []], .int .i64 0]) (by simp only [mapO, toArg_tree h0 hT]; rfl) (res := .own 1 ((farF adj 0).map encI)) (by
    simp only [far50, mapO_map decR_enc]
    rw [if_pos ⟨⟨by rw [hA.len]; exact hn, ainv_ok hk hA⟩, by omega, by rw [hA.len]; omega⟩]; rfl)]
  have hno : ((farF adj 0).map encI).any isOwn = false := by
    rw [List.any_eq_false]
    intro v hv
    obtain ⟨k, _, rfl⟩ := List.mem_map.1 hv
    simp [encI, isOwn]
  have hlen : (farF adj 0).length = n := by rw [farF, bfs_len]; exact hA.len
  simp only [recv, recvVal, recvCell, hno, List.length_map, hlen]
  rfl
theorem m52 {n : Nat} (hn : n ≤ 1000) (o : List Int) (ho : o.length = n) (H : Heap) (q : Nat) (hq : H[q]? = some (bI o)) : ∀ kf, callN Try.prog polM (kf + 1) 52 [.sl q 0 n none n 1, .int .i64 (-1)] H = some (.bool (decide ((-1 : Int) ∈ o)), H) := fun kf => by
  have e : toArg H 6 (.sl q 0 n none n 1) = some (.imm .arg 1 (o.map encI)) := by
    have e : toArg H 6 (.sl q 0 n none n 1) = if n = 0 then some (.imm .arg 1 []) else match view H q 0 n n 1 with | some l => (match mapO (toArg H 5) l with | some l => some (.imm .arg 1 l) | none => none) | none => none := rfl
    rw [e]
    split
    · rename_i h0
      rw [h0] at ho
      rw [List.length_eq_zero_iff.1 ho]; rfl
    · have hv : view H q 0 n n 1 = some (o.map encI) := by
        simp only [view, hq, List.length_map, ho]
        rw [if_pos ⟨trivial, by omega, trivial⟩, List.drop_zero, List.take_of_length_le (by rw [List.length_map]; omega)]
      have hm : mapO (toArg H 5) (o.map encI) = some (o.map encI) := mapO_self (f := toArg H 5) (g := encI) (fun _ => rfl) o
      rw [hv]
      simp only [hm]
  rw [prim_call (pol := polM) (g := 52) (F := contains52) (by kernel_rfl) (rs := [.imm .arg 1 (o.map encI), .int .i64 (-1)]) (by simp only [mapO, e]; rfl) (res := .bool (decide ((-1 : Int) ∈ o))) (by simp only [contains52, mapO_map decI_enc]; rw [if_pos (by omega)])]; rfl
theorem newTree_ok : PrimOk Try.prog 46 newTree46 := by
  refine primOk_pure (pol := polM) (fn := Try.f46) (cd := B46) follows_mixed soundM (by kernel_rfl) (by kernel_rfl) (fnok polM.prim _ _ (by kernel_rfl)) (by kernel_rfl) ?_
  intro args res h
  unfold newTree46 at h
  split at h
  · rename_i n lc
    split at h
    · rename_i l hlc
      cases h
      rw [mapO_inv decP_inv hlc]
      have a1 := nt_a_0 n (l.map encP)
      have hml : ((l.map encP).length : Int) = (l.length : Int) := by simp
      have bad : ∀ E H, RunsTo Try.prog polM 46 (sub [1] B46) (env46 (.int .i64 n) (.imm .arg 2 (l.map encP)) (.ptr 0 0 0 1) (.bool false) .undef .undef .undef .undef .undef) [.arr 2 [Zt] true 0] .ret (polM.keys 46) E H → resultsV Try.prog Try.f46 E H = some (.tuple [Zt, .bool false]) →
          ¬ (((1 ≤ n ∧ n ≤ 30) ∧ (l.length : Int) = n - 1) ∧ l.all (validB n) = true) → ∃ x E H' v, RunsTo Try.prog polM 46 B46 (args0 [.int .i64 n, .imm .arg 2 (l.map encP)]) [] x (polM.keys 46) E H' ∧ (∀ i, x ≠ .exit i) ∧ resultsV Try.prog Try.f46 E H' = some v ∧ toRes H' (polM.deep 46) v = some (newTreeF n l) := by
        intro E H t hr hc
        refine ⟨_, _, _, _, RunsTo.seq a1 t (c := B46) (by kernel_rfl) (by kernel_rfl), by simp, hr, ?_⟩
        rw [newTreeF, if_neg hc]; rfl
      have lz : loadV Try.prog [.arr 2 [Zt] true 0] 72 (.ptr 0 0 0 1) = some Zt := load_agg (b := 0) rfl rfl rfl a72 s72
      by_cases c1 : 1 ≤ n ∧ n ≤ 30
      · by_cases c2 : (l.length : Int) = n - 1
        · obtain ⟨m, rfl⟩ : ∃ m : Nat, n = (m : Int) := ⟨n.toNat, by omega⟩
          have hw : IntKind.i64.wrap ((m : Int) - 1) = (m : Int) - 1 := by rw [wrapI64]; omega
          have b1 := nt_b_0 (m : Int) (l.map encP) (m49 _ _ _ true (decide_eq_true c1) _) (by rw [hml, hw]; exact c2)
          obtain ⟨H0, H1, H2, H3, g0, g1, g2, g3, hT⟩ := ts_init (n := m) (by omega)
          have d1 := nt_c_0 (m : Int) (l.map encP) m [.arr 2 [Zt] true 0] H0 H1 H2 H3 g0 g1 g2 g3
          have e1 := nt_d_0 (m : Int) (l.map encP) m H3
          rw [hml] at e1
          obtain ⟨x, E, H', r1, h1⟩ := nt_loop m (by omega) l (by omega) l.length 0 (List.replicate m []) H3 (by omega) hT (AInv.init m)
          rw [List.drop_zero] at h1
          rcases h1 with ⟨hv, rfl, rfl, hT2, hA2⟩ | ⟨hv, rfl, hres⟩
          · have t1 := RunsTo.seq e1 (RunsTo.block_exit (c := sub [1, 1, 1, 0, 1] B46) r1 (by kernel_rfl)) (c := sub [1, 1, 1, 0] B46) (by kernel_rfl) (by kernel_rfl)
            have hfl : (farF (adjGo l (List.replicate m [])) 0).length = m := by rw [farF, bfs_len]; exact hA2.len
            have c50 := m50 (by omega) (by omega) (by omega) hT2 hA2
            generalize hadj : adjGo l (List.replicate m []) = adj at hT2 hA2 hfl c50
            have hq : (H' ++ [bI (farF adj 0)])[H'.length]? = some (bI (farF adj 0)) := by simp
            have c52 := m52 (n := m) (by omega) (farF adj 0) hfl (H' ++ [bI (farF adj 0)]) H'.length hq
            have hlt : m + 4 ≤ H'.length := hT2.len
            have hT3 : TS m adj (H' ++ [bI (farF adj 0)]) := hT2.ext (fun k hk => by rw [List.getElem?_append_left (by omega)]) (by simp; omega) (sameH_app hT2.rf (same_arr fun v hv => by
              obtain ⟨k, _, rfl⟩ := List.mem_map.1 hv
              simp [encI, same]))
            have lt2 : ∀ {H : Heap}, TS m adj H → loadV Try.prog H 72 (.ptr (m + 3) 0 0 1) = some (trV m) := fun hT => by
              obtain ⟨mx, h2⟩ := hT.tr
              exact load_agg (b := m + 3) h2 rfl rfl a72 s72
            have hst : storeV Try.prog (H' ++ [bI (farF adj 0)]) 72 (.ptr 0 0 0 1) (trV m) = some ((H' ++ [bI (farF adj 0)]).set 0 (.arr 2 [trV m] true (max 0 (bnd (trV m))))) := by
              have hz := s72
              simp only [storeV, hT3.z, cellsOf, hz, List.length_singleton, List.length_cons, List.length_nil]
              rw [if_pos ⟨trivial, trivial⟩]
              rfl
            have l1 := lt2 hT2
            have l2 := lt2 hT3
            have sm : same (trV m) (trV m) = true := by simp [same, sameL]
            have gS : (recL ((loadV Try.prog H' 72 (.ptr (m + 3) 0 0 1)).map (fun v => (v, (H' : Heap)))) ((loadV Try.prog (H' ++ [bI (farF adj 0)]) 72 (.ptr (m + 3) 0 0 1)).map (fun v => (v, ((H' ++ [bI (farF adj 0)]) : Heap)))) H' (H' ++ [bI (farF adj 0)]) && (recL ((loadV Try.prog H' 72 (.ptr (m + 3) 0 0 1)).map (fun v => (v, (H' : Heap)))) ((loadV Try.prog (H' ++ [bI (farF adj 0)]) 72 (.ptr (m + 3) 0 0 1)).map (fun v => (v, ((H' ++ [bI (farF adj 0)]) : Heap)))) H' (H' ++ [bI (farF adj 0)]) && true)) = true := by
              have r1 := hT2.rf
              have r2 := hT3.rf
              simp only [l1, l2, Option.map, recL, sm, r1, r2, Bool.and_self]
            have up : ∀ E H, RunsTo Try.prog polM 46 (sub [1, 1, 1, 1] B46) (ntE (m : Int) (l.map encP) m (.imm .arg 2 (l.map encP)) (.int .i64 (l.length : Int)) (.int .i64 (l.length : Int))) H' .ret (polM.keys 46) E H → RunsTo Try.prog polM 46 B46 (args0 [.int .i64 (m : Int), .imm .arg 2 (l.map encP)]) [] .ret (polM.keys 46) E H := by
              intro E H t
              have t2 := RunsTo.seq t1 t (c := sub [1, 1, 1] B46) (by kernel_rfl) (by kernel_rfl)
              have t3 := RunsTo.seq d1 t2 (c := sub [1, 1] B46) (by kernel_rfl) (by kernel_rfl)
              have t4 := RunsTo.seq b1 t3 (c := sub [1] B46) (by kernel_rfl) (by kernel_rfl)
              exact RunsTo.seq a1 t4 (c := B46) (by kernel_rfl) (by kernel_rfl)
            have hF : newTreeF (m : Int) l = .tuple [treeV adj, .bool (farOk adj)] := by
              rw [newTreeF, if_pos ⟨⟨c1, c2⟩, hv⟩, Int.toNat_natCast, adjOf, hadj]
            have lz2 : loadV Try.prog ((H' ++ [bI (farF adj 0)]).set 0 (.arr 2 [trV m] true (max 0 (bnd (trV m))))) 72 (.ptr 0 0 0 1) = some (trV m) :=
              load_agg (b := 0) (by rw [List.getElem?_set_self (by simp)]) rfl rfl a72 s72
            have hTR := toRes_tree (by omega) (hT3.tr'.set0 (.arr 2 [trV m] true (max 0 (bnd (trV m)))))
            by_cases hin : (-1 : Int) ∈ farF adj 0
            · have z1 := nt_z_0 (m : Int) (l.map encP) m H' l.length _ _ _ _ l1 l1 c50 (by rw [decide_eq_true hin] at c52; exact c52) hst gS
              rw [hml] at z1
              refine ⟨_, _, _, _, up _ _ z1, by simp, good_res rfl rfl lz2, ?_⟩
              rw [hF, farOk, decide_eq_false (fun h => h hin)]
              exact hTR false
            · have z1 := nt_z_1 (m : Int) (l.map encP) m H' l.length _ _ _ _ l1 l1 c50 (by rw [decide_eq_false hin] at c52; exact c52) hst gS
              rw [hml] at z1
              refine ⟨_, _, _, _, up _ _ z1, by simp, good_res rfl rfl lz2, ?_⟩
              rw [hF, farOk, decide_eq_true hin]
              exact hTR true
          · have t1 := RunsTo.seq e1 (RunsTo.block_ret (i := 0) (c := sub [1, 1, 1, 0, 1] B46) r1 (by kernel_rfl)) (c := sub [1, 1, 1, 0] B46) (by kernel_rfl) (by kernel_rfl)
            have t2 := RunsTo.seq_out t1 (by simp) (c := sub [1, 1, 1] B46) (b := sub [1, 1, 1, 1] B46) (by kernel_rfl)
            have t3 := RunsTo.seq d1 t2 (c := sub [1, 1] B46) (by kernel_rfl) (by kernel_rfl)
            have t4 := RunsTo.seq b1 t3 (c := sub [1] B46) (by kernel_rfl) (by kernel_rfl)
            exact bad _ _ t4 hres (fun h => by rw [hv] at h; exact absurd h.2 (by simp))
        · have hw : IntKind.i64.wrap (n - 1) = n - 1 := by rw [wrapI64]; omega
          have b1 := nt_b_1 n (l.map encP) (m49 _ _ _ true (decide_eq_true c1) _) (by rw [hml, hw]; exact c2)
          exact bad _ _ (RunsTo.seq_out b1 (by simp) (c := sub [1] B46) (b := sub [1, 1] B46) (by kernel_rfl)) (bad_res rfl rfl lz) (fun h => c2 h.1.2)
      · have b1 := nt_b_2 n (l.map encP) (m49 _ _ _ false (decide_eq_false c1) _)
        exact bad _ _ (RunsTo.seq_out b1 (by simp) (c := sub [1] B46) (b := sub [1, 1] B46) (by kernel_rfl)) (bad_res rfl rfl lz) (fun h => c1 h.1.1)
    · cases h
  · cases h
end Go.Proofs.Ytmhfkhlamnapdaa
end
section
open Go Go.HL
namespace Go.Proofs.Ytmhfkhlamnapdaa
def lkH (P : Program) (T : TypeId) (H : Heap) (b : Nat) (k : HV) : Option (HV × Heap) :=
  match H[b]? with
  | some (.map ks vs _) => (lookV P T ks vs k false).map fun v => (v, H)
  | _ => none
def primV (g : FuncId) : Option (List HV → Option HV) := if g == 49 then some withinF else if g == 46 then some newTree46 else if g == 52 then some contains52 else none
def polV : Pol := { pol with prim := primV }
theorem primV_ok (g : FuncId) (f : List HV → Option HV) (h : primV g = some f) : PrimOk Try.prog g f := by
  unfold primV at h
  split at h
  · rename_i hg; cases h; rw [eq_of_beq hg]; exact within_ok
  split at h
  · rename_i hg; cases h; rw [eq_of_beq hg]; exact newTree_ok
  split at h
  · rename_i hg; cases h; rw [eq_of_beq hg]; exact contains_ok
  · cases h
theorem soundV (n : Nat) : CallSound Try.prog (callN Try.prog polV n) := sound_prim primV primV_ok n
end Go.Proofs.Ytmhfkhlamnapdaa
end
section
open Go Go.HL
namespace Go.Proofs.Ytmhfkhlamnapdaa
set_option maxRecDepth 100000
noncomputable def B29 : Code := Try.f29.body.getD .skip
abbrev env29 (v0 v1 v2 v3 v8 v9 v10 v11 v13 v14 v16 v17 v18 v20 v39 v40 v41 v46 v47 v48 v97 v98 v99 : HV) : Env := [(0, v0), (1, v1), (2, v2), (3, v3), (8, v8), (9, v9), (10, v10), (11, v11), (13, v13), (14, v14), (16, v16), (17, v17), (18, v18), (20, v20), (39, v39), (40, v40), (41, v41), (46, v46), (47, v47), (48, v48), (97, v97), (98, v98), (99, v99)]
theorem ck_a_0 (n : Int) (lc : List HV) (x : Int) (rds : List HV) : RunsTo Try.prog polV 29 (sub [0] B29) [(0, .i n), (1, .imm .arg 2 lc), (2, .i x), (3, .imm .arg 1 rds)] [] .normal (polV.keys 29) (env29 (.i n) (.imm .arg 2 lc) (.i x) (.imm .arg 1 rds) (.i 0) .undef .undef .undef .undef .undef .undef .undef .undef .undef .undef .undef .undef .undef .undef .undef .undef .undef .undef) [] :=
  RunsTo.hin 0 60 [] fun kf hk => ⟨_, by kernel_rfl, .nil⟩
theorem ck_b_0 (n : Int) (lc : List HV) (x : Int) (rds : List HV) (m : Nat) (rows : List HV) (g0 : ∀ kf, callN Try.prog polV (kf + 1) 46 [.i n, .imm .arg 2 lc] [] = some (.tuple [.agg [.sl 0 0 m none m 1, .map 1], .bool true], [.arr 1 rows true 0, .map [] [] 0])) : RunsTo Try.prog polV 29 (sub [1, 0] B29) (env29 (.i n) (.imm .arg 2 lc) (.i x) (.imm .arg 1 rds) (.i 0) .undef .undef .undef .undef .undef .undef .undef .undef .undef .undef .undef .undef .undef .undef .undef .undef .undef .undef) [] .normal (polV.keys 29) (env29 (.i n) (.imm .arg 2 lc) (.i x) (.imm .arg 1 rds) (.i 0) (.ptr 2 0 0 1) (.bool true) .undef .undef .undef .undef .undef .undef .undef .undef .undef .undef .undef .undef .undef .undef .undef .undef) [.arr 1 rows true 0, .map [] [] 0, .arr 2 [.agg [.sl 0 0 m none m 1, .map 1]] true 2] :=
  RunsTo.hin 0 60 [⟨1, 2, .tuple [.agg [.sl 0 0 m none m 1, .map 1], .bool true], [.arr 1 rows true 0, .map [] [] 0]⟩] fun kf hk => ⟨_, by kernel_rfl, (oC (g0 kf) .nil)⟩
theorem ck_b_1 (n : Int) (lc : List HV) (x : Int) (rds : List HV) (m : Nat) (rows : List HV) (g0 : ∀ kf, callN Try.prog polV (kf + 1) 46 [.i n, .imm .arg 2 lc] [] = some (.tuple [.agg [.sl 0 0 m none m 1, .map 1], .bool false], [.arr 1 rows true 0, .map [] [] 0])) : RunsTo Try.prog polV 29 (sub [1, 0] B29) (env29 (.i n) (.imm .arg 2 lc) (.i x) (.imm .arg 1 rds) (.i 0) .undef .undef .undef .undef .undef .undef .undef .undef .undef .undef .undef .undef .undef .undef .undef .undef .undef .undef) [] .normal (polV.keys 29) (env29 (.i n) (.imm .arg 2 lc) (.i x) (.imm .arg 1 rds) (.i 0) (.ptr 2 0 0 1) (.bool false) .undef .undef .undef .undef .undef .undef .undef .undef .undef .undef .undef .undef .undef .undef .undef .undef) [.arr 1 rows true 0, .map [] [] 0, .arr 2 [.agg [.sl 0 0 m none m 1, .map 1]] true 2] :=
  RunsTo.hin 0 60 [⟨1, 2, .tuple [.agg [.sl 0 0 m none m 1, .map 1], .bool false], [.arr 1 rows true 0, .map [] [] 0]⟩] fun kf hk => ⟨_, by kernel_rfl, (oC (g0 kf) .nil)⟩
theorem ck_b_2 (n : Int) (lc : List HV) (x : Int) (rds : List HV)(g0 : ∀ kf, callN Try.prog polV (kf + 1) 46 [.i n, .imm .arg 2 lc] [] = some (.tuple [.agg [.sl 0 0 0 none 0 0, .nilmap], .bool false], [.arr 0 [] true 0])) : RunsTo Try.prog polV 29 (sub [1, 0] B29) (env29 (.i n) (.imm .arg 2 lc) (.i x) (.imm .arg 1 rds) (.i 0) .undef .undef .undef .undef .undef .undef .undef .undef .undef .undef .undef .undef .undef .undef .undef .undef .undef .undef) [] .normal (polV.keys 29) (env29 (.i n) (.imm .arg 2 lc) (.i x) (.imm .arg 1 rds) (.i 0) (.ptr 1 0 0 1) (.bool false) .undef .undef .undef .undef .undef .undef .undef .undef .undef .undef .undef .undef .undef .undef .undef .undef) [.arr 0 [] true 0, .arr 2 [.agg [.sl 0 0 0 none 0 0, .nilmap]] true 1] :=
  RunsTo.hin 0 60 [⟨1, 2, .tuple [.agg [.sl 0 0 0 none 0 0, .nilmap], .bool false], [.arr 0 [] true 0]⟩] fun kf hk => ⟨_, by kernel_rfl, (oC (g0 kf) .nil)⟩
theorem ck_c_0 (n : Int) (lc : List HV) (x : Int) (rds : List HV) (m : Nat) (rows : List HV)(g0 : ∀ kf, callN Try.prog polV (kf + 1) 49 [.i x, .i 0, .i (IntKind.i64.wrap (n - 1))] [.arr 1 rows true 0, .map [] [] 0, .arr 2 [.agg [.sl 0 0 m none m 1, .map 1]] true 2] = some (.bool true, [.arr 1 rows true 0, .map [] [] 0, .arr 2 [.agg [.sl 0 0 m none m 1, .map 1]] true 2])) : RunsTo Try.prog polV 29 (sub [1, 1, 0] B29) (env29 (.i n) (.imm .arg 2 lc) (.i x) (.imm .arg 1 rds) (.i 0) (.ptr 2 0 0 1) (.bool true) .undef .undef .undef .undef .undef .undef .undef .undef .undef .undef .undef .undef .undef .undef .undef .undef) [.arr 1 rows true 0, .map [] [] 0, .arr 2 [.agg [.sl 0 0 m none m 1, .map 1]] true 2] .normal (polV.keys 29) (env29 (.i n) (.imm .arg 2 lc) (.i x) (.imm .arg 1 rds) (.i 0) (.ptr 2 0 0 1) (.bool true) .undef .undef .undef .undef .undef .undef .undef .undef .undef .undef .undef .undef .undef .undef .undef .undef) [.arr 1 rows true 0, .map [] [] 0, .arr 2 [.agg [.sl 0 0 m none m 1, .map 1]] true 2] :=
  RunsTo.hin 0 60 [⟨2, 6, .bool true, [.arr 1 rows true 0, .map [] [] 0, .arr 2 [.agg [.sl 0 0 m none m 1, .map 1]] true 2]⟩] fun kf hk => ⟨_, by kernel_rfl, (oC (g0 kf) .nil)⟩
theorem ck_c_1 (n : Int) (lc : List HV) (x : Int) (rds : List HV) (m : Nat) (rows : List HV)(g0 : ∀ kf, callN Try.prog polV (kf + 1) 49 [.i x, .i 0, .i (IntKind.i64.wrap (n - 1))] [.arr 1 rows true 0, .map [] [] 0, .arr 2 [.agg [.sl 0 0 m none m 1, .map 1]] true 2] = some (.bool false, [.arr 1 rows true 0, .map [] [] 0, .arr 2 [.agg [.sl 0 0 m none m 1, .map 1]] true 2])) : RunsTo Try.prog polV 29 (sub [1, 1, 0] B29) (env29 (.i n) (.imm .arg 2 lc) (.i x) (.imm .arg 1 rds) (.i 0) (.ptr 2 0 0 1) (.bool true) .undef .undef .undef .undef .undef .undef .undef .undef .undef .undef .undef .undef .undef .undef .undef .undef) [.arr 1 rows true 0, .map [] [] 0, .arr 2 [.agg [.sl 0 0 m none m 1, .map 1]] true 2] .ret (polV.keys 29) (env29 (.i n) (.imm .arg 2 lc) (.i x) (.imm .arg 1 rds) (.i 2) (.ptr 2 0 0 1) (.bool true) .undef .undef .undef .undef .undef .undef .undef .undef .undef .undef .undef .undef .undef .undef .undef .undef) [.arr 1 rows true 0, .map [] [] 0, .arr 2 [.agg [.sl 0 0 m none m 1, .map 1]] true 2] :=
  RunsTo.hin 0 60 [⟨2, 6, .bool false, [.arr 1 rows true 0, .map [] [] 0, .arr 2 [.agg [.sl 0 0 m none m 1, .map 1]] true 2]⟩] fun kf hk => ⟨_, by kernel_rfl, (oC (g0 kf) .nil)⟩
theorem ck_cf_0 (n : Int) (lc : List HV) (x : Int) (rds : List HV) (m : Nat) (rows : List HV) : RunsTo Try.prog polV 29 (sub [1, 1, 0] B29) (env29 (.i n) (.imm .arg 2 lc) (.i x) (.imm .arg 1 rds) (.i 0) (.ptr 2 0 0 1) (.bool false) .undef .undef .undef .undef .undef .undef .undef .undef .undef .undef .undef .undef .undef .undef .undef .undef) [.arr 1 rows true 0, .map [] [] 0, .arr 2 [.agg [.sl 0 0 m none m 1, .map 1]] true 2] .ret (polV.keys 29) (env29 (.i n) (.imm .arg 2 lc) (.i x) (.imm .arg 1 rds) (.i 2) (.ptr 2 0 0 1) (.bool false) .undef .undef .undef .undef .undef .undef .undef .undef .undef .undef .undef .undef .undef .undef .undef .undef) [.arr 1 rows true 0, .map [] [] 0, .arr 2 [.agg [.sl 0 0 m none m 1, .map 1]] true 2] :=
  RunsTo.hin 0 60 [] fun kf hk => ⟨_, by kernel_rfl, .nil⟩
theorem ck_cb_0 (n : Int) (lc : List HV) (x : Int) (rds : List HV) : RunsTo Try.prog polV 29 (sub [1, 1, 0] B29) (env29 (.i n) (.imm .arg 2 lc) (.i x) (.imm .arg 1 rds) (.i 0) (.ptr 1 0 0 1) (.bool false) .undef .undef .undef .undef .undef .undef .undef .undef .undef .undef .undef .undef .undef .undef .undef .undef) [.arr 0 [] true 0, .arr 2 [.agg [.sl 0 0 0 none 0 0, .nilmap]] true 1] .ret (polV.keys 29) (env29 (.i n) (.imm .arg 2 lc) (.i x) (.imm .arg 1 rds) (.i 2) (.ptr 1 0 0 1) (.bool false) .undef .undef .undef .undef .undef .undef .undef .undef .undef .undef .undef .undef .undef .undef .undef .undef) [.arr 0 [] true 0, .arr 2 [.agg [.sl 0 0 0 none 0 0, .nilmap]] true 1] :=
  RunsTo.hin 0 60 [] fun kf hk => ⟨_, by kernel_rfl, .nil⟩
theorem ck_d_0 (n : Int) (lc : List HV) (x : Int) (rds : List HV) (H : Heap) (kb : Nat) (H0 : Heap) (H1 : Heap) (g0 : some (HV.map H.length, H ++ [Blk.map [] [] 0]) = some (.map kb, H0)) (g1 : updV Try.prog false 79 (.map kb) (.i x) (.bool true) H0 = some H1) : RunsTo Try.prog polV 29 (sub [1, 1, 1, 0] B29) (env29 (.i n) (.imm .arg 2 lc) (.i x) (.imm .arg 1 rds) (.i 0) (.ptr 2 0 0 1) (.bool true) .undef .undef .undef .undef .undef .undef .undef .undef .undef .undef .undef .undef .undef .undef .undef .undef) H .normal (polV.keys 29) (env29 (.i n) (.imm .arg 2 lc) (.i x) (.imm .arg 1 rds) (.i 0) (.ptr 2 0 0 1) (.bool true) (.map kb) .undef .undef .undef .undef .undef .undef .undef .undef .undef .undef .undef .undef .undef .undef .undef) H1 :=
  RunsTo.hin 0 60 [⟨4, 0, .map kb, H0⟩, ⟨4, 2, .tuple [], H1⟩] fun kf hk => ⟨_, by kernel_rfl, (oC (g0) (oS g1 .nil))⟩
theorem ck_e_0 (n : Int) (lc : List HV) (x : Int) (rds : List HV) (H : Heap) (kb : Nat) : RunsTo Try.prog polV 29 (sub [1, 1, 1, 1, 0, 0] B29) (env29 (.i n) (.imm .arg 2 lc) (.i x) (.imm .arg 1 rds) (.i 0) (.ptr 2 0 0 1) (.bool true) (.map kb) .undef .undef .undef .undef .undef .undef .undef .undef .undef .undef .undef .undef .undef .undef .undef) H .normal (polV.keys 29) (env29 (.i n) (.imm .arg 2 lc) (.i x) (.imm .arg 1 rds) (.i 0) (.ptr 2 0 0 1) (.bool true) (.map kb) .undef .undef .undef .undef .undef .undef (.imm .arg 1 rds) (.i (rds.length : Int)) (.i 0) .undef .undef .undef .undef .undef .undef) H :=
  RunsTo.hin 0 60 [] fun kf hk => ⟨_, by kernel_rfl, .nil⟩
theorem ck_f_0 (n : Int) (lc : List HV) (x : Int) (rds : List HV) (H : Heap) (kb : Nat) (i : Nat)(g0 : (i : Int) < (rds.length : Int)) : RunsTo Try.prog polV 29 (sub [1, 1, 1, 1, 0, 1, 0, 0, 0] B29) (env29 (.i n) (.imm .arg 2 lc) (.i x) (.imm .arg 1 rds) (.i 0) (.ptr 2 0 0 1) .undef (.map kb) .undef .undef .undef .undef .undef .undef (.imm .arg 1 rds) (.i (rds.length : Int)) (.i (i : Int)) .undef .undef .undef .undef .undef .undef) H .normal [0, 1, 2, 3, 8, 9, 10, 11, 13, 14, 16, 17, 18, 20, 39, 40, 41, 46, 47, 48, 97, 98, 99, 42] [(0, .i n), (1, .imm .arg 2 lc), (2, .i x), (3, .imm .arg 1 rds), (8, .i 0), (9, .ptr 2 0 0 1), (10, .undef), (11, .map kb), (13, .undef), (14, .undef), (16, .undef), (17, .undef), (18, .undef), (20, .undef), (39, .imm .arg 1 rds), (40, .i (rds.length : Int)), (41, .i (i : Int)), (46, .undef), (47, .undef), (48, .undef), (97, .undef), (98, .undef), (99, .undef), (42, .bool true)] H :=
  RunsTo.hin 0 60 [⟨6, 0, .bool true, H⟩] fun kf hk => ⟨_, by kernel_rfl, (oB H (decide_eq_true g0) .nil)⟩
theorem ck_f_1 (n : Int) (lc : List HV) (x : Int) (rds : List HV) (H : Heap) (kb : Nat) (i : Nat)(g0 : ¬ ((i : Int) < (rds.length : Int))) : RunsTo Try.prog polV 29 (sub [1, 1, 1, 1, 0, 1, 0, 0, 0] B29) (env29 (.i n) (.imm .arg 2 lc) (.i x) (.imm .arg 1 rds) (.i 0) (.ptr 2 0 0 1) .undef (.map kb) .undef .undef .undef .undef .undef .undef (.imm .arg 1 rds) (.i (rds.length : Int)) (.i (i : Int)) .undef .undef .undef .undef .undef .undef) H .normal [0, 1, 2, 3, 8, 9, 10, 11, 13, 14, 16, 17, 18, 20, 39, 40, 41, 46, 47, 48, 97, 98, 99, 42] [(0, .i n), (1, .imm .arg 2 lc), (2, .i x), (3, .imm .arg 1 rds), (8, .i 0), (9, .ptr 2 0 0 1), (10, .undef), (11, .map kb), (13, .undef), (14, .undef), (16, .undef), (17, .undef), (18, .undef), (20, .undef), (39, .imm .arg 1 rds), (40, .i (rds.length : Int)), (41, .i (i : Int)), (46, .undef), (47, .undef), (48, .undef), (97, .undef), (98, .undef), (99, .undef), (42, .bool false)] H :=
  RunsTo.hin 0 60 [⟨6, 0, .bool false, H⟩] fun kf hk => ⟨_, by kernel_rfl, (oB H (decide_eq_false g0) .nil)⟩
theorem ck_g_0 (n : Int) (lc : List HV) (x : Int) (rds : List HV) (H : Heap) (kb : Nat) (i : Nat) : RunsTo Try.prog polV 29 (sub [1, 1, 1, 1, 0, 1, 0, 0, 1, 0] B29) [(0, .i n), (1, .imm .arg 2 lc), (2, .i x), (3, .imm .arg 1 rds), (8, .i 0), (9, .ptr 2 0 0 1), (10, .undef), (11, .map kb), (13, .undef), (14, .undef), (16, .undef), (17, .undef), (18, .undef), (20, .undef), (39, .imm .arg 1 rds), (40, .i (rds.length : Int)), (41, .i (i : Int)), (46, .undef), (47, .undef), (48, .undef), (97, .undef), (98, .undef), (99, .undef), (42, .bool true)] H .normal (polV.keys 29) (env29 (.i n) (.imm .arg 2 lc) (.i x) (.imm .arg 1 rds) (.i 0) (.ptr 2 0 0 1) .undef (.map kb) .undef .undef .undef .undef .undef .undef (.imm .arg 1 rds) (.i (rds.length : Int)) (.i (i : Int)) .undef .undef .undef .undef .undef .undef) H :=
  RunsTo.hin 0 60 [] fun kf hk => ⟨_, by kernel_rfl, .nil⟩
theorem ck_h_0 (n : Int) (lc : List HV) (x : Int) (rds : List HV) (H : Heap) (kb : Nat) (i : Nat) : RunsTo Try.prog polV 29 (sub [1, 1, 1, 1, 0, 1, 0, 0, 1, 0] B29) [(0, .i n), (1, .imm .arg 2 lc), (2, .i x), (3, .imm .arg 1 rds), (8, .i 0), (9, .ptr 2 0 0 1), (10, .undef), (11, .map kb), (13, .undef), (14, .undef), (16, .undef), (17, .undef), (18, .undef), (20, .undef), (39, .imm .arg 1 rds), (40, .i (rds.length : Int)), (41, .i (i : Int)), (46, .undef), (47, .undef), (48, .undef), (97, .undef), (98, .undef), (99, .undef), (42, .bool false)] H (.exit 0) (polV.keys 29) (env29 (.i n) (.imm .arg 2 lc) (.i x) (.imm .arg 1 rds) (.i 0) (.ptr 2 0 0 1) .undef (.map kb) .undef .undef .undef .undef .undef .undef (.imm .arg 1 rds) (.i (rds.length : Int)) (.i (i : Int)) .undef .undef .undef .undef .undef .undef) H :=
  RunsTo.hin 0 60 [] fun kf hk => ⟨_, by kernel_rfl, .nil⟩
theorem ck_i_0 (n : Int) (lc : List HV) (x : Int) (rds : List HV) (H : Heap) (kb : Nat) (i : Nat) (l0 : List HV) (g0 : idxV Try.prog 44 (.imm .arg 1 rds) (.i (i : Int)) = some (.vptr (.imm .arg 2 l0))) : RunsTo Try.prog polV 29 (sub [1, 1, 1, 1, 0, 1, 0, 0, 1, 1, 0, 0, 0] B29) (env29 (.i n) (.imm .arg 2 lc) (.i x) (.imm .arg 1 rds) (.i 0) (.ptr 2 0 0 1) .undef (.map kb) .undef .undef .undef .undef .undef .undef (.imm .arg 1 rds) (.i (rds.length : Int)) (.i (i : Int)) .undef .undef .undef .undef .undef .undef) H .normal (polV.keys 29) (env29 (.i n) (.imm .arg 2 lc) (.i x) (.imm .arg 1 rds) (.i 0) (.ptr 2 0 0 1) .undef (.map kb) (.imm .arg 2 l0) .undef .undef .undef .undef .undef (.imm .arg 1 rds) (.i (rds.length : Int)) (.i (i : Int)) .undef .undef .undef .undef .undef .undef) H :=
  RunsTo.hin 0 60 [⟨7, 0, .vptr (.imm .arg 2 l0), H⟩] fun kf hk => ⟨_, by kernel_rfl, (oP H g0 .nil)⟩
theorem ck_j_0 (n : Int) (lc : List HV) (x : Int) (rds : List HV) (H : Heap) (kb : Nat) (i : Nat) (r : List HV) (bb : Nat) (H0 : Heap) (g0 : some (HV.map H.length, H ++ [Blk.map [] [] 0]) = some (.map bb, H0)) : RunsTo Try.prog polV 29 (sub [1, 1, 1, 1, 0, 1, 0, 0, 1, 1, 0, 0, 1, 0] B29) (env29 (.i n) (.imm .arg 2 lc) (.i x) (.imm .arg 1 rds) (.i 0) (.ptr 2 0 0 1) .undef (.map kb) (.imm .arg 2 r) .undef .undef .undef .undef .undef (.imm .arg 1 rds) (.i (rds.length : Int)) (.i (i : Int)) .undef .undef .undef .undef .undef .undef) H .normal (polV.keys 29) (env29 (.i n) (.imm .arg 2 lc) (.i x) (.imm .arg 1 rds) (.i 0) (.ptr 2 0 0 1) .undef (.map kb) (.imm .arg 2 r) (.map bb) .undef .undef .undef .undef (.imm .arg 1 rds) (.i (rds.length : Int)) (.i (i : Int)) .undef .undef .undef .undef .undef .undef) H0 :=
  RunsTo.hin 0 60 [⟨8, 0, .map bb, H0⟩] fun kf hk => ⟨_, by kernel_rfl, (oC (g0) .nil)⟩
theorem ck_k_0 (n : Int) (lc : List HV) (x : Int) (rds : List HV) (H : Heap) (kb : Nat) (i : Nat) (r : List HV) (bb : Nat) : RunsTo Try.prog polV 29 (sub [1, 1, 1, 1, 0, 1, 0, 0, 1, 1, 0, 0, 1, 1, 0, 0] B29) (env29 (.i n) (.imm .arg 2 lc) (.i x) (.imm .arg 1 rds) (.i 0) (.ptr 2 0 0 1) .undef (.map kb) (.imm .arg 2 r) (.map bb) .undef .undef .undef .undef (.imm .arg 1 rds) (.i (rds.length : Int)) (.i (i : Int)) .undef .undef .undef .undef .undef .undef) H .normal (polV.keys 29) (env29 (.i n) (.imm .arg 2 lc) (.i x) (.imm .arg 1 rds) (.i 0) (.ptr 2 0 0 1) .undef (.map kb) (.imm .arg 2 r) (.map bb) .undef .undef .undef .undef (.imm .arg 1 rds) (.i (rds.length : Int)) (.i (i : Int)) (.imm .arg 2 r) (.i (r.length : Int)) (.i 0) .undef .undef .undef) H :=
  RunsTo.hin 0 60 [] fun kf hk => ⟨_, by kernel_rfl, .nil⟩
theorem ck_l_0 (n : Int) (lc : List HV) (x : Int) (rds : List HV) (H : Heap) (kb : Nat) (i : Nat) (r : List HV) (bb : Nat) (j : Nat) (m : Nat) (x0 : Int) (x1 : Int) (a0 : HV) (H0 : Heap) (H1 : Heap) (a1 : HV) (x2 : Int) (a2 : HV) (x3 : Int) (H2 : Heap) (v0 : HV) (H3 : Heap) (g0 : (j : Int) < (r.length : Int)) (g1 : idxV Try.prog 22 (.imm .arg 2 r) (.i (j : Int)) = some (.vptr (.agg [.i x0, .i x1]))) (g2 : some (newV (.agg [.i 0, .i 0]) H) = some (a0, H0)) (g3 : storeV Try.prog H0 33 (a0) (.agg [.i x0, .i x1]) = some H1) (g4 : idxV Try.prog 33 a0 (.i 0) = some (a1)) (g5 : loadV Try.prog H1 3 (a1) = some (.i x2)) (g6 : idxV Try.prog 33 a0 (.i 1) = some (a2)) (g7 : loadV Try.prog H1 3 (a2) = some (.i x3)) (g8 : ∀ kf, callN Try.prog polV (kf + 1) 49 [.i x2, .i 0, .i (IntKind.i64.wrap (n - 1))] H1 = some (.bool true, H2)) (g9 : loadV Try.prog H2 55 (.ptr 2 0 0 1) = some (.sl 0 0 m none m 1)) (g10 : idxV Try.prog 55 (.sl 0 0 m none m 1) (.i x2) = some (.ptr 0 ((x2).toNat) 0 m)) (g11 : loadV Try.prog H2 24 (.ptr 0 ((x2).toNat) 0 m) = some (v0)) (g12 : ∀ kf, callN Try.prog polV (kf + 1) 52 [v0, .i x3] H2 = some (.bool true, H3)) (g13 : lkH Try.prog 79 H3 kb (.i x2) = some (.bool true, H3)) (g14 : lkH Try.prog 79 H3 kb (.i x3) = some (.bool true, H3)) : RunsTo Try.prog polV 29 (sub [1, 1, 1, 1, 0, 1, 0, 0, 1, 1, 0, 0, 1, 1, 0, 1, 0, 0] B29) (env29 (.i n) (.imm .arg 2 lc) (.i x) (.imm .arg 1 rds) (.i 0) (.ptr 2 0 0 1) .undef (.map kb) (.imm .arg 2 r) (.map bb) .undef .undef .undef .undef (.imm .arg 1 rds) (.i (rds.length : Int)) (.i (i : Int)) (.imm .arg 2 r) (.i (r.length : Int)) (.i (j : Int)) .undef .undef .undef) H .ret (polV.keys 29) (env29 (.i n) (.imm .arg 2 lc) (.i x) (.imm .arg 1 rds) (.i 10) (.ptr 2 0 0 1) .undef (.map kb) (.imm .arg 2 r) (.map bb) a0 (.i x2) (.i x3) .undef (.imm .arg 1 rds) (.i (rds.length : Int)) (.i (i : Int)) (.imm .arg 2 r) (.i (r.length : Int)) (.i (j : Int)) .undef .undef .undef) H3 :=
  RunsTo.hin 0 60 [⟨10, 0, .bool true, H⟩, ⟨11, 0, .vptr (.agg [.i x0, .i x1]), H⟩, ⟨11, 2, a0, H0⟩, ⟨11, 3, .tuple [], H1⟩, ⟨12, 0, a1, H1⟩, ⟨12, 1, .i x2, H1⟩, ⟨12, 2, a2, H1⟩, ⟨12, 3, .i x3, H1⟩, ⟨13, 3, .bool true, H2⟩, ⟨13, 7, .sl 0 0 m none m 1, H2⟩, ⟨13, 9, .ptr 0 ((x2).toNat) 0 m, H2⟩, ⟨13, 10, v0, H2⟩, ⟨13, 12, .bool true, H3⟩, ⟨13, 18, .bool true, H3⟩, ⟨13, 24, .bool true, H3⟩] fun kf hk => ⟨_, by kernel_rfl, (oB H (decide_eq_true g0) (oP H g1 (oC (g2) (oS g3 (oP H1 g4 (oP H1 g5 (oP H1 g6 (oP H1 g7 (oC (g8 kf) (oP H2 g9 (oP H2 g10 (oP H2 g11 (oC (g12 kf) (oC (g13) (oC (g14) .nil)))))))))))))))⟩
theorem ck_l_1 (n : Int) (lc : List HV) (x : Int) (rds : List HV) (H : Heap) (kb : Nat) (i : Nat) (r : List HV) (bb : Nat) (j : Nat) (m : Nat) (x0 : Int) (x1 : Int) (a0 : HV) (H0 : Heap) (H1 : Heap) (a1 : HV) (x2 : Int) (a2 : HV) (x3 : Int) (H2 : Heap) (v0 : HV) (H3 : Heap) (g0 : (j : Int) < (r.length : Int)) (g1 : idxV Try.prog 22 (.imm .arg 2 r) (.i (j : Int)) = some (.vptr (.agg [.i x0, .i x1]))) (g2 : some (newV (.agg [.i 0, .i 0]) H) = some (a0, H0)) (g3 : storeV Try.prog H0 33 (a0) (.agg [.i x0, .i x1]) = some H1) (g4 : idxV Try.prog 33 a0 (.i 0) = some (a1)) (g5 : loadV Try.prog H1 3 (a1) = some (.i x2)) (g6 : idxV Try.prog 33 a0 (.i 1) = some (a2)) (g7 : loadV Try.prog H1 3 (a2) = some (.i x3)) (g8 : ∀ kf, callN Try.prog polV (kf + 1) 49 [.i x2, .i 0, .i (IntKind.i64.wrap (n - 1))] H1 = some (.bool true, H2)) (g9 : loadV Try.prog H2 55 (.ptr 2 0 0 1) = some (.sl 0 0 m none m 1)) (g10 : idxV Try.prog 55 (.sl 0 0 m none m 1) (.i x2) = some (.ptr 0 ((x2).toNat) 0 m)) (g11 : loadV Try.prog H2 24 (.ptr 0 ((x2).toNat) 0 m) = some (v0)) (g12 : ∀ kf, callN Try.prog polV (kf + 1) 52 [v0, .i x3] H2 = some (.bool true, H3)) (g13 : lkH Try.prog 79 H3 kb (.i x2) = some (.bool true, H3)) (g14 : lkH Try.prog 79 H3 kb (.i x3) = some (.bool false, H3)) (g15 : lkH Try.prog 79 H3 bb (.i x2) = some (.bool true, H3)) : RunsTo Try.prog polV 29 (sub [1, 1, 1, 1, 0, 1, 0, 0, 1, 1, 0, 0, 1, 1, 0, 1, 0, 0] B29) (env29 (.i n) (.imm .arg 2 lc) (.i x) (.imm .arg 1 rds) (.i 0) (.ptr 2 0 0 1) .undef (.map kb) (.imm .arg 2 r) (.map bb) .undef .undef .undef .undef (.imm .arg 1 rds) (.i (rds.length : Int)) (.i (i : Int)) (.imm .arg 2 r) (.i (r.length : Int)) (.i (j : Int)) .undef .undef .undef) H .ret (polV.keys 29) (env29 (.i n) (.imm .arg 2 lc) (.i x) (.imm .arg 1 rds) (.i 10) (.ptr 2 0 0 1) .undef (.map kb) (.imm .arg 2 r) (.map bb) a0 (.i x2) (.i x3) .undef (.imm .arg 1 rds) (.i (rds.length : Int)) (.i (i : Int)) (.imm .arg 2 r) (.i (r.length : Int)) (.i (j : Int)) .undef .undef .undef) H3 :=
  RunsTo.hin 0 60 [⟨10, 0, .bool true, H⟩, ⟨11, 0, .vptr (.agg [.i x0, .i x1]), H⟩, ⟨11, 2, a0, H0⟩, ⟨11, 3, .tuple [], H1⟩, ⟨12, 0, a1, H1⟩, ⟨12, 1, .i x2, H1⟩, ⟨12, 2, a2, H1⟩, ⟨12, 3, .i x3, H1⟩, ⟨13, 3, .bool true, H2⟩, ⟨13, 7, .sl 0 0 m none m 1, H2⟩, ⟨13, 9, .ptr 0 ((x2).toNat) 0 m, H2⟩, ⟨13, 10, v0, H2⟩, ⟨13, 12, .bool true, H3⟩, ⟨13, 18, .bool true, H3⟩, ⟨13, 24, .bool false, H3⟩, ⟨13, 29, .bool true, H3⟩] fun kf hk => ⟨_, by kernel_rfl, (oB H (decide_eq_true g0) (oP H g1 (oC (g2) (oS g3 (oP H1 g4 (oP H1 g5 (oP H1 g6 (oP H1 g7 (oC (g8 kf) (oP H2 g9 (oP H2 g10 (oP H2 g11 (oC (g12 kf) (oC (g13) (oC (g14) (oC (g15) .nil))))))))))))))))⟩
theorem ck_l_2 (n : Int) (lc : List HV) (x : Int) (rds : List HV) (H : Heap) (kb : Nat) (i : Nat) (r : List HV) (bb : Nat) (j : Nat) (m : Nat) (x0 : Int) (x1 : Int) (a0 : HV) (H0 : Heap) (H1 : Heap) (a1 : HV) (x2 : Int) (a2 : HV) (x3 : Int) (H2 : Heap) (v0 : HV) (H3 : Heap) (g0 : (j : Int) < (r.length : Int)) (g1 : idxV Try.prog 22 (.imm .arg 2 r) (.i (j : Int)) = some (.vptr (.agg [.i x0, .i x1]))) (g2 : some (newV (.agg [.i 0, .i 0]) H) = some (a0, H0)) (g3 : storeV Try.prog H0 33 (a0) (.agg [.i x0, .i x1]) = some H1) (g4 : idxV Try.prog 33 a0 (.i 0) = some (a1)) (g5 : loadV Try.prog H1 3 (a1) = some (.i x2)) (g6 : idxV Try.prog 33 a0 (.i 1) = some (a2)) (g7 : loadV Try.prog H1 3 (a2) = some (.i x3)) (g8 : ∀ kf, callN Try.prog polV (kf + 1) 49 [.i x2, .i 0, .i (IntKind.i64.wrap (n - 1))] H1 = some (.bool true, H2)) (g9 : loadV Try.prog H2 55 (.ptr 2 0 0 1) = some (.sl 0 0 m none m 1)) (g10 : idxV Try.prog 55 (.sl 0 0 m none m 1) (.i x2) = some (.ptr 0 ((x2).toNat) 0 m)) (g11 : loadV Try.prog H2 24 (.ptr 0 ((x2).toNat) 0 m) = some (v0)) (g12 : ∀ kf, callN Try.prog polV (kf + 1) 52 [v0, .i x3] H2 = some (.bool true, H3)) (g13 : lkH Try.prog 79 H3 kb (.i x2) = some (.bool true, H3)) (g14 : lkH Try.prog 79 H3 kb (.i x3) = some (.bool false, H3)) (g15 : lkH Try.prog 79 H3 bb (.i x2) = some (.bool false, H3)) (g16 : lkH Try.prog 79 H3 bb (.i x3) = some (.bool true, H3)) : RunsTo Try.prog polV 29 (sub [1, 1, 1, 1, 0, 1, 0, 0, 1, 1, 0, 0, 1, 1, 0, 1, 0, 0] B29) (env29 (.i n) (.imm .arg 2 lc) (.i x) (.imm .arg 1 rds) (.i 0) (.ptr 2 0 0 1) .undef (.map kb) (.imm .arg 2 r) (.map bb) .undef .undef .undef .undef (.imm .arg 1 rds) (.i (rds.length : Int)) (.i (i : Int)) (.imm .arg 2 r) (.i (r.length : Int)) (.i (j : Int)) .undef .undef .undef) H .ret (polV.keys 29) (env29 (.i n) (.imm .arg 2 lc) (.i x) (.imm .arg 1 rds) (.i 10) (.ptr 2 0 0 1) .undef (.map kb) (.imm .arg 2 r) (.map bb) a0 (.i x2) (.i x3) .undef (.imm .arg 1 rds) (.i (rds.length : Int)) (.i (i : Int)) (.imm .arg 2 r) (.i (r.length : Int)) (.i (j : Int)) .undef .undef .undef) H3 :=
  RunsTo.hin 0 60 [⟨10, 0, .bool true, H⟩, ⟨11, 0, .vptr (.agg [.i x0, .i x1]), H⟩, ⟨11, 2, a0, H0⟩, ⟨11, 3, .tuple [], H1⟩, ⟨12, 0, a1, H1⟩, ⟨12, 1, .i x2, H1⟩, ⟨12, 2, a2, H1⟩, ⟨12, 3, .i x3, H1⟩, ⟨13, 3, .bool true, H2⟩, ⟨13, 7, .sl 0 0 m none m 1, H2⟩, ⟨13, 9, .ptr 0 ((x2).toNat) 0 m, H2⟩, ⟨13, 10, v0, H2⟩, ⟨13, 12, .bool true, H3⟩, ⟨13, 18, .bool true, H3⟩, ⟨13, 24, .bool false, H3⟩, ⟨13, 29, .bool false, H3⟩, ⟨13, 34, .bool true, H3⟩] fun kf hk => ⟨_, by kernel_rfl, (oB H (decide_eq_true g0) (oP H g1 (oC (g2) (oS g3 (oP H1 g4 (oP H1 g5 (oP H1 g6 (oP H1 g7 (oC (g8 kf) (oP H2 g9 (oP H2 g10 (oP H2 g11 (oC (g12 kf) (oC (g13) (oC (g14) (oC (g15) (oC (g16) .nil)))))))))))))))))⟩
theorem ck_l_3 (n : Int) (lc : List HV) (x : Int) (rds : List HV) (H : Heap) (kb : Nat) (i : Nat) (r : List HV) (bb : Nat) (j : Nat) (m : Nat) (x0 : Int) (x1 : Int) (a0 : HV) (H0 : Heap) (H1 : Heap) (a1 : HV) (x2 : Int) (a2 : HV) (x3 : Int) (H2 : Heap) (v0 : HV) (H3 : Heap) (H4 : Heap) (H5 : Heap) (g0 : (j : Int) < (r.length : Int)) (g1 : idxV Try.prog 22 (.imm .arg 2 r) (.i (j : Int)) = some (.vptr (.agg [.i x0, .i x1]))) (g2 : some (newV (.agg [.i 0, .i 0]) H) = some (a0, H0)) (g3 : storeV Try.prog H0 33 (a0) (.agg [.i x0, .i x1]) = some H1) (g4 : idxV Try.prog 33 a0 (.i 0) = some (a1)) (g5 : loadV Try.prog H1 3 (a1) = some (.i x2)) (g6 : idxV Try.prog 33 a0 (.i 1) = some (a2)) (g7 : loadV Try.prog H1 3 (a2) = some (.i x3)) (g8 : ∀ kf, callN Try.prog polV (kf + 1) 49 [.i x2, .i 0, .i (IntKind.i64.wrap (n - 1))] H1 = some (.bool true, H2)) (g9 : loadV Try.prog H2 55 (.ptr 2 0 0 1) = some (.sl 0 0 m none m 1)) (g10 : idxV Try.prog 55 (.sl 0 0 m none m 1) (.i x2) = some (.ptr 0 ((x2).toNat) 0 m)) (g11 : loadV Try.prog H2 24 (.ptr 0 ((x2).toNat) 0 m) = some (v0)) (g12 : ∀ kf, callN Try.prog polV (kf + 1) 52 [v0, .i x3] H2 = some (.bool true, H3)) (g13 : lkH Try.prog 79 H3 kb (.i x2) = some (.bool true, H3)) (g14 : lkH Try.prog 79 H3 kb (.i x3) = some (.bool false, H3)) (g15 : lkH Try.prog 79 H3 bb (.i x2) = some (.bool false, H3)) (g16 : lkH Try.prog 79 H3 bb (.i x3) = some (.bool false, H3)) (g17 : updV Try.prog false 79 (.map bb) (.i x2) (.bool true) H3 = some H4) (g18 : updV Try.prog false 79 (.map bb) (.i x3) (.bool true) H4 = some H5) : RunsTo Try.prog polV 29 (sub [1, 1, 1, 1, 0, 1, 0, 0, 1, 1, 0, 0, 1, 1, 0, 1, 0, 0] B29) (env29 (.i n) (.imm .arg 2 lc) (.i x) (.imm .arg 1 rds) (.i 0) (.ptr 2 0 0 1) .undef (.map kb) (.imm .arg 2 r) (.map bb) .undef .undef .undef .undef (.imm .arg 1 rds) (.i (rds.length : Int)) (.i (i : Int)) (.imm .arg 2 r) (.i (r.length : Int)) (.i (j : Int)) .undef .undef .undef) H .normal (polV.keys 29) (env29 (.i n) (.imm .arg 2 lc) (.i x) (.imm .arg 1 rds) (.i 0) (.ptr 2 0 0 1) .undef (.map kb) (.imm .arg 2 r) (.map bb) a0 (.i x2) (.i x3) .undef (.imm .arg 1 rds) (.i (rds.length : Int)) (.i (i : Int)) (.imm .arg 2 r) (.i (r.length : Int)) (.i (IntKind.i64.wrap ((j : Int) + 1))) .undef .undef .undef) H5 :=
  RunsTo.hin 0 60 [⟨10, 0, .bool true, H⟩, ⟨11, 0, .vptr (.agg [.i x0, .i x1]), H⟩, ⟨11, 2, a0, H0⟩, ⟨11, 3, .tuple [], H1⟩, ⟨12, 0, a1, H1⟩, ⟨12, 1, .i x2, H1⟩, ⟨12, 2, a2, H1⟩, ⟨12, 3, .i x3, H1⟩, ⟨13, 3, .bool true, H2⟩, ⟨13, 7, .sl 0 0 m none m 1, H2⟩, ⟨13, 9, .ptr 0 ((x2).toNat) 0 m, H2⟩, ⟨13, 10, v0, H2⟩, ⟨13, 12, .bool true, H3⟩, ⟨13, 18, .bool true, H3⟩, ⟨13, 24, .bool false, H3⟩, ⟨13, 29, .bool false, H3⟩, ⟨13, 34, .bool false, H3⟩, ⟨15, 4, .tuple [], H4⟩, ⟨15, 5, .tuple [], H5⟩] fun kf hk => ⟨_, by kernel_rfl, (oB H (decide_eq_true g0) (oP H g1 (oC (g2) (oS g3 (oP H1 g4 (oP H1 g5 (oP H1 g6 (oP H1 g7 (oC (g8 kf) (oP H2 g9 (oP H2 g10 (oP H2 g11 (oC (g12 kf) (oC (g13) (oC (g14) (oC (g15) (oC (g16) (oS g17 (oS g18 .nil)))))))))))))))))))⟩
theorem ck_l_4 (n : Int) (lc : List HV) (x : Int) (rds : List HV) (H : Heap) (kb : Nat) (i : Nat) (r : List HV) (bb : Nat) (j : Nat) (m : Nat) (x0 : Int) (x1 : Int) (a0 : HV) (H0 : Heap) (H1 : Heap) (a1 : HV) (x2 : Int) (a2 : HV) (x3 : Int) (H2 : Heap) (v0 : HV) (H3 : Heap) (g0 : (j : Int) < (r.length : Int)) (g1 : idxV Try.prog 22 (.imm .arg 2 r) (.i (j : Int)) = some (.vptr (.agg [.i x0, .i x1]))) (g2 : some (newV (.agg [.i 0, .i 0]) H) = some (a0, H0)) (g3 : storeV Try.prog H0 33 (a0) (.agg [.i x0, .i x1]) = some H1) (g4 : idxV Try.prog 33 a0 (.i 0) = some (a1)) (g5 : loadV Try.prog H1 3 (a1) = some (.i x2)) (g6 : idxV Try.prog 33 a0 (.i 1) = some (a2)) (g7 : loadV Try.prog H1 3 (a2) = some (.i x3)) (g8 : ∀ kf, callN Try.prog polV (kf + 1) 49 [.i x2, .i 0, .i (IntKind.i64.wrap (n - 1))] H1 = some (.bool true, H2)) (g9 : loadV Try.prog H2 55 (.ptr 2 0 0 1) = some (.sl 0 0 m none m 1)) (g10 : idxV Try.prog 55 (.sl 0 0 m none m 1) (.i x2) = some (.ptr 0 ((x2).toNat) 0 m)) (g11 : loadV Try.prog H2 24 (.ptr 0 ((x2).toNat) 0 m) = some (v0)) (g12 : ∀ kf, callN Try.prog polV (kf + 1) 52 [v0, .i x3] H2 = some (.bool true, H3)) (g13 : lkH Try.prog 79 H3 kb (.i x2) = some (.bool false, H3)) : RunsTo Try.prog polV 29 (sub [1, 1, 1, 1, 0, 1, 0, 0, 1, 1, 0, 0, 1, 1, 0, 1, 0, 0] B29) (env29 (.i n) (.imm .arg 2 lc) (.i x) (.imm .arg 1 rds) (.i 0) (.ptr 2 0 0 1) .undef (.map kb) (.imm .arg 2 r) (.map bb) .undef .undef .undef .undef (.imm .arg 1 rds) (.i (rds.length : Int)) (.i (i : Int)) (.imm .arg 2 r) (.i (r.length : Int)) (.i (j : Int)) .undef .undef .undef) H .ret (polV.keys 29) (env29 (.i n) (.imm .arg 2 lc) (.i x) (.imm .arg 1 rds) (.i 10) (.ptr 2 0 0 1) .undef (.map kb) (.imm .arg 2 r) (.map bb) a0 (.i x2) (.i x3) .undef (.imm .arg 1 rds) (.i (rds.length : Int)) (.i (i : Int)) (.imm .arg 2 r) (.i (r.length : Int)) (.i (j : Int)) .undef .undef .undef) H3 :=
  RunsTo.hin 0 60 [⟨10, 0, .bool true, H⟩, ⟨11, 0, .vptr (.agg [.i x0, .i x1]), H⟩, ⟨11, 2, a0, H0⟩, ⟨11, 3, .tuple [], H1⟩, ⟨12, 0, a1, H1⟩, ⟨12, 1, .i x2, H1⟩, ⟨12, 2, a2, H1⟩, ⟨12, 3, .i x3, H1⟩, ⟨13, 3, .bool true, H2⟩, ⟨13, 7, .sl 0 0 m none m 1, H2⟩, ⟨13, 9, .ptr 0 ((x2).toNat) 0 m, H2⟩, ⟨13, 10, v0, H2⟩, ⟨13, 12, .bool true, H3⟩, ⟨13, 18, .bool false, H3⟩] fun kf hk => ⟨_, by kernel_rfl, (oB H (decide_eq_true g0) (oP H g1 (oC (g2) (oS g3 (oP H1 g4 (oP H1 g5 (oP H1 g6 (oP H1 g7 (oC (g8 kf) (oP H2 g9 (oP H2 g10 (oP H2 g11 (oC (g12 kf) (oC (g13) .nil))))))))))))))⟩
theorem ck_l_5 (n : Int) (lc : List HV) (x : Int) (rds : List HV) (H : Heap) (kb : Nat) (i : Nat) (r : List HV) (bb : Nat) (j : Nat) (m : Nat) (x0 : Int) (x1 : Int) (a0 : HV) (H0 : Heap) (H1 : Heap) (a1 : HV) (x2 : Int) (a2 : HV) (x3 : Int) (H2 : Heap) (v0 : HV) (H3 : Heap) (g0 : (j : Int) < (r.length : Int)) (g1 : idxV Try.prog 22 (.imm .arg 2 r) (.i (j : Int)) = some (.vptr (.agg [.i x0, .i x1]))) (g2 : some (newV (.agg [.i 0, .i 0]) H) = some (a0, H0)) (g3 : storeV Try.prog H0 33 (a0) (.agg [.i x0, .i x1]) = some H1) (g4 : idxV Try.prog 33 a0 (.i 0) = some (a1)) (g5 : loadV Try.prog H1 3 (a1) = some (.i x2)) (g6 : idxV Try.prog 33 a0 (.i 1) = some (a2)) (g7 : loadV Try.prog H1 3 (a2) = some (.i x3)) (g8 : ∀ kf, callN Try.prog polV (kf + 1) 49 [.i x2, .i 0, .i (IntKind.i64.wrap (n - 1))] H1 = some (.bool true, H2)) (g9 : loadV Try.prog H2 55 (.ptr 2 0 0 1) = some (.sl 0 0 m none m 1)) (g10 : idxV Try.prog 55 (.sl 0 0 m none m 1) (.i x2) = some (.ptr 0 ((x2).toNat) 0 m)) (g11 : loadV Try.prog H2 24 (.ptr 0 ((x2).toNat) 0 m) = some (v0)) (g12 : ∀ kf, callN Try.prog polV (kf + 1) 52 [v0, .i x3] H2 = some (.bool false, H3)) : RunsTo Try.prog polV 29 (sub [1, 1, 1, 1, 0, 1, 0, 0, 1, 1, 0, 0, 1, 1, 0, 1, 0, 0] B29) (env29 (.i n) (.imm .arg 2 lc) (.i x) (.imm .arg 1 rds) (.i 0) (.ptr 2 0 0 1) .undef (.map kb) (.imm .arg 2 r) (.map bb) .undef .undef .undef .undef (.imm .arg 1 rds) (.i (rds.length : Int)) (.i (i : Int)) (.imm .arg 2 r) (.i (r.length : Int)) (.i (j : Int)) .undef .undef .undef) H .ret (polV.keys 29) (env29 (.i n) (.imm .arg 2 lc) (.i x) (.imm .arg 1 rds) (.i 10) (.ptr 2 0 0 1) .undef (.map kb) (.imm .arg 2 r) (.map bb) a0 (.i x2) (.i x3) .undef (.imm .arg 1 rds) (.i (rds.length : Int)) (.i (i : Int)) (.imm .arg 2 r) (.i (r.length : Int)) (.i (j : Int)) .undef .undef .undef) H3 :=
  RunsTo.hin 0 60 [⟨10, 0, .bool true, H⟩, ⟨11, 0, .vptr (.agg [.i x0, .i x1]), H⟩, ⟨11, 2, a0, H0⟩, ⟨11, 3, .tuple [], H1⟩, ⟨12, 0, a1, H1⟩, ⟨12, 1, .i x2, H1⟩, ⟨12, 2, a2, H1⟩, ⟨12, 3, .i x3, H1⟩, ⟨13, 3, .bool true, H2⟩, ⟨13, 7, .sl 0 0 m none m 1, H2⟩, ⟨13, 9, .ptr 0 ((x2).toNat) 0 m, H2⟩, ⟨13, 10, v0, H2⟩, ⟨13, 12, .bool false, H3⟩] fun kf hk => ⟨_, by kernel_rfl, (oB H (decide_eq_true g0) (oP H g1 (oC (g2) (oS g3 (oP H1 g4 (oP H1 g5 (oP H1 g6 (oP H1 g7 (oC (g8 kf) (oP H2 g9 (oP H2 g10 (oP H2 g11 (oC (g12 kf) .nil)))))))))))))⟩
theorem ck_l_6 (n : Int) (lc : List HV) (x : Int) (rds : List HV) (H : Heap) (kb : Nat) (i : Nat) (r : List HV) (bb : Nat) (j : Nat) (m : Nat) (x0 : Int) (x1 : Int) (a0 : HV) (H0 : Heap) (H1 : Heap) (a1 : HV) (x2 : Int) (a2 : HV) (x3 : Int) (H2 : Heap) (g0 : (j : Int) < (r.length : Int)) (g1 : idxV Try.prog 22 (.imm .arg 2 r) (.i (j : Int)) = some (.vptr (.agg [.i x0, .i x1]))) (g2 : some (newV (.agg [.i 0, .i 0]) H) = some (a0, H0)) (g3 : storeV Try.prog H0 33 (a0) (.agg [.i x0, .i x1]) = some H1) (g4 : idxV Try.prog 33 a0 (.i 0) = some (a1)) (g5 : loadV Try.prog H1 3 (a1) = some (.i x2)) (g6 : idxV Try.prog 33 a0 (.i 1) = some (a2)) (g7 : loadV Try.prog H1 3 (a2) = some (.i x3)) (g8 : ∀ kf, callN Try.prog polV (kf + 1) 49 [.i x2, .i 0, .i (IntKind.i64.wrap (n - 1))] H1 = some (.bool false, H2)) : RunsTo Try.prog polV 29 (sub [1, 1, 1, 1, 0, 1, 0, 0, 1, 1, 0, 0, 1, 1, 0, 1, 0, 0] B29) (env29 (.i n) (.imm .arg 2 lc) (.i x) (.imm .arg 1 rds) (.i 0) (.ptr 2 0 0 1) .undef (.map kb) (.imm .arg 2 r) (.map bb) .undef .undef .undef .undef (.imm .arg 1 rds) (.i (rds.length : Int)) (.i (i : Int)) (.imm .arg 2 r) (.i (r.length : Int)) (.i (j : Int)) .undef .undef .undef) H .ret (polV.keys 29) (env29 (.i n) (.imm .arg 2 lc) (.i x) (.imm .arg 1 rds) (.i 10) (.ptr 2 0 0 1) .undef (.map kb) (.imm .arg 2 r) (.map bb) a0 (.i x2) (.i x3) .undef (.imm .arg 1 rds) (.i (rds.length : Int)) (.i (i : Int)) (.imm .arg 2 r) (.i (r.length : Int)) (.i (j : Int)) .undef .undef .undef) H2 :=
  RunsTo.hin 0 60 [⟨10, 0, .bool true, H⟩, ⟨11, 0, .vptr (.agg [.i x0, .i x1]), H⟩, ⟨11, 2, a0, H0⟩, ⟨11, 3, .tuple [], H1⟩, ⟨12, 0, a1, H1⟩, ⟨12, 1, .i x2, H1⟩, ⟨12, 2, a2, H1⟩, ⟨12, 3, .i x3, H1⟩, ⟨13, 3, .bool false, H2⟩] fun kf hk => ⟨_, by kernel_rfl, (oB H (decide_eq_true g0) (oP H g1 (oC (g2) (oS g3 (oP H1 g4 (oP H1 g5 (oP H1 g6 (oP H1 g7 (oC (g8 kf) .nil)))))))))⟩
theorem ck_l_7 (n : Int) (lc : List HV) (x : Int) (rds : List HV) (H : Heap) (kb : Nat) (i : Nat) (r : List HV) (bb : Nat) (j : Nat) (m : Nat)(g0 : ¬ ((j : Int) < (r.length : Int))) : RunsTo Try.prog polV 29 (sub [1, 1, 1, 1, 0, 1, 0, 0, 1, 1, 0, 0, 1, 1, 0, 1, 0, 0] B29) (env29 (.i n) (.imm .arg 2 lc) (.i x) (.imm .arg 1 rds) (.i 0) (.ptr 2 0 0 1) .undef (.map kb) (.imm .arg 2 r) (.map bb) .undef .undef .undef .undef (.imm .arg 1 rds) (.i (rds.length : Int)) (.i (i : Int)) (.imm .arg 2 r) (.i (r.length : Int)) (.i (j : Int)) .undef .undef .undef) H (.exit 2) (polV.keys 29) (env29 (.i n) (.imm .arg 2 lc) (.i x) (.imm .arg 1 rds) (.i 0) (.ptr 2 0 0 1) .undef (.map kb) (.imm .arg 2 r) (.map bb) .undef .undef .undef .undef (.imm .arg 1 rds) (.i (rds.length : Int)) (.i (i : Int)) (.imm .arg 2 r) (.i (r.length : Int)) (.i (j : Int)) .undef .undef .undef) H :=
  RunsTo.hin 0 60 [⟨10, 0, .bool false, H⟩] fun kf hk => ⟨_, by kernel_rfl, (oB H (decide_eq_false g0) .nil)⟩
theorem ck_m_0 (n : Int) (lc : List HV) (x : Int) (rds : List HV) (H : Heap) (kb : Nat) (i : Nat) (r : List HV) (bb : Nat) (j : Nat) : RunsTo Try.prog polV 29 (sub [1, 1, 1, 1, 0, 1, 0, 0, 1, 1, 0, 0, 1, 1, 1, 0] B29) (env29 (.i n) (.imm .arg 2 lc) (.i x) (.imm .arg 1 rds) (.i 0) (.ptr 2 0 0 1) .undef (.map kb) (.imm .arg 2 r) (.map bb) .undef .undef .undef .undef (.imm .arg 1 rds) (.i (rds.length : Int)) (.i (i : Int)) (.imm .arg 2 r) (.i (r.length : Int)) (.i (j : Int)) .undef .undef .undef) H .normal (polV.keys 29) (env29 (.i n) (.imm .arg 2 lc) (.i x) (.imm .arg 1 rds) (.i 0) (.ptr 2 0 0 1) .undef (.map kb) (.imm .arg 2 r) (.map bb) .undef .undef .undef .undef (.imm .arg 1 rds) (.i (rds.length : Int)) (.i (i : Int)) (.imm .arg 2 r) (.i (r.length : Int)) (.i (j : Int)) (.imm .arg 2 r) (.i (r.length : Int)) (.i 0)) H :=
  RunsTo.hin 0 60 [] fun kf hk => ⟨_, by kernel_rfl, .nil⟩
theorem ck_n_0 (n : Int) (lc : List HV) (x : Int) (rds : List HV) (H : Heap) (kb : Nat) (i : Nat) (r : List HV) (j : Nat) (x0 : Int) (x1 : Int) (a0 : HV) (H0 : Heap) (H1 : Heap) (a1 : HV) (x2 : Int) (H2 : Heap) (g0 : (j : Int) < (r.length : Int)) (g1 : idxV Try.prog 22 (.imm .arg 2 r) (.i (j : Int)) = some (.vptr (.agg [.i x0, .i x1]))) (g2 : some (newV (.agg [.i 0, .i 0]) H) = some (a0, H0)) (g3 : storeV Try.prog H0 33 (a0) (.agg [.i x0, .i x1]) = some H1) (g4 : idxV Try.prog 33 a0 (.i 1) = some (a1)) (g5 : loadV Try.prog H1 3 (a1) = some (.i x2)) (g6 : updV Try.prog false 79 (.map kb) (.i x2) (.bool true) H1 = some H2) : RunsTo Try.prog polV 29 (sub [1, 1, 1, 1, 0, 1, 0, 0, 1, 1, 0, 0, 1, 1, 1, 1, 0, 0] B29) (env29 (.i n) (.imm .arg 2 lc) (.i x) (.imm .arg 1 rds) (.i 0) (.ptr 2 0 0 1) .undef (.map kb) .undef .undef .undef .undef .undef .undef (.imm .arg 1 rds) (.i (rds.length : Int)) (.i (i : Int)) .undef .undef .undef (.imm .arg 2 r) (.i (r.length : Int)) (.i (j : Int))) H .normal (polV.keys 29) (env29 (.i n) (.imm .arg 2 lc) (.i x) (.imm .arg 1 rds) (.i 0) (.ptr 2 0 0 1) .undef (.map kb) .undef .undef .undef .undef .undef a0 (.imm .arg 1 rds) (.i (rds.length : Int)) (.i (i : Int)) .undef .undef .undef (.imm .arg 2 r) (.i (r.length : Int)) (.i (IntKind.i64.wrap ((j : Int) + 1)))) H2 :=
  RunsTo.hin 0 60 [⟨18, 0, .bool true, H⟩, ⟨19, 0, .vptr (.agg [.i x0, .i x1]), H⟩, ⟨19, 2, a0, H0⟩, ⟨19, 3, .tuple [], H1⟩, ⟨20, 1, a1, H1⟩, ⟨20, 2, .i x2, H1⟩, ⟨20, 3, .tuple [], H2⟩] fun kf hk => ⟨_, by kernel_rfl, (oB H (decide_eq_true g0) (oP H g1 (oC (g2) (oS g3 (oP H1 g4 (oP H1 g5 (oS g6 .nil)))))))⟩
theorem ck_n_1 (n : Int) (lc : List HV) (x : Int) (rds : List HV) (H : Heap) (kb : Nat) (i : Nat) (r : List HV) (j : Nat)(g0 : ¬ ((j : Int) < (r.length : Int))) : RunsTo Try.prog polV 29 (sub [1, 1, 1, 1, 0, 1, 0, 0, 1, 1, 0, 0, 1, 1, 1, 1, 0, 0] B29) (env29 (.i n) (.imm .arg 2 lc) (.i x) (.imm .arg 1 rds) (.i 0) (.ptr 2 0 0 1) .undef (.map kb) .undef .undef .undef .undef .undef .undef (.imm .arg 1 rds) (.i (rds.length : Int)) (.i (i : Int)) .undef .undef .undef (.imm .arg 2 r) (.i (r.length : Int)) (.i (j : Int))) H (.exit 4) (polV.keys 29) (env29 (.i n) (.imm .arg 2 lc) (.i x) (.imm .arg 1 rds) (.i 0) (.ptr 2 0 0 1) .undef (.map kb) .undef .undef .undef .undef .undef .undef (.imm .arg 1 rds) (.i (rds.length : Int)) (.i (i : Int)) .undef .undef .undef (.imm .arg 2 r) (.i (r.length : Int)) (.i (j : Int))) H :=
  RunsTo.hin 0 60 [⟨18, 0, .bool false, H⟩] fun kf hk => ⟨_, by kernel_rfl, (oB H (decide_eq_false g0) .nil)⟩
theorem ck_o_0 (n : Int) (lc : List HV) (x : Int) (rds : List HV) (H : Heap) (kb : Nat) (i : Nat) (r : List HV) (j : Nat) (v20 : HV) : RunsTo Try.prog polV 29 (sub [1, 1, 1, 1, 0, 1, 0, 0, 1, 1, 1] B29) (env29 (.i n) (.imm .arg 2 lc) (.i x) (.imm .arg 1 rds) (.i 0) (.ptr 2 0 0 1) .undef (.map kb) .undef .undef .undef .undef .undef v20 (.imm .arg 1 rds) (.i (rds.length : Int)) (.i (i : Int)) .undef .undef .undef (.imm .arg 2 r) (.i (r.length : Int)) (.i (j : Int))) H .normal (polV.keys 29) (env29 (.i n) (.imm .arg 2 lc) (.i x) (.imm .arg 1 rds) (.i 0) (.ptr 2 0 0 1) .undef (.map kb) .undef .undef .undef .undef .undef v20 (.imm .arg 1 rds) (.i (rds.length : Int)) (.i (IntKind.i64.wrap ((i : Int) + 1))) .undef .undef .undef (.imm .arg 2 r) (.i (r.length : Int)) (.i (j : Int))) H :=
  RunsTo.hin 0 60 [] fun kf hk => ⟨_, by kernel_rfl, .nil⟩
theorem ck_y_0 (n : Int) (lc : List HV) (x : Int) (rds : List HV) (H : Heap) (kb : Nat) (i : Nat) (n0 : Int) (g0 : lenV Try.prog H 79 (.map kb) = some (.i n0)) (g1 : n0 < n) : RunsTo Try.prog polV 29 (sub [1, 1, 1, 1, 1, 0] B29) (env29 (.i n) (.imm .arg 2 lc) (.i x) (.imm .arg 1 rds) (.i 0) (.ptr 2 0 0 1) .undef (.map kb) .undef .undef .undef .undef .undef .undef (.imm .arg 1 rds) (.i (rds.length : Int)) (.i (i : Int)) .undef .undef .undef .undef .undef .undef) H .ret (polV.keys 29) (env29 (.i n) (.imm .arg 2 lc) (.i x) (.imm .arg 1 rds) (.i 10) (.ptr 2 0 0 1) .undef (.map kb) .undef .undef .undef .undef .undef .undef (.imm .arg 1 rds) (.i (rds.length : Int)) (.i (i : Int)) .undef .undef .undef .undef .undef .undef) H :=
  RunsTo.hin 0 60 [⟨23, 1, .i n0, H⟩, ⟨23, 3, .bool true, H⟩] fun kf hk => ⟨_, by kernel_rfl, (oP H g0 (oB H (decide_eq_true g1) .nil))⟩
theorem ck_y_1 (n : Int) (lc : List HV) (x : Int) (rds : List HV) (H : Heap) (kb : Nat) (i : Nat) (n0 : Int) (g0 : lenV Try.prog H 79 (.map kb) = some (.i n0)) (g1 : ¬ (n0 < n)) : RunsTo Try.prog polV 29 (sub [1, 1, 1, 1, 1, 0] B29) (env29 (.i n) (.imm .arg 2 lc) (.i x) (.imm .arg 1 rds) (.i 0) (.ptr 2 0 0 1) .undef (.map kb) .undef .undef .undef .undef .undef .undef (.imm .arg 1 rds) (.i (rds.length : Int)) (.i (i : Int)) .undef .undef .undef .undef .undef .undef) H .normal (polV.keys 29) (env29 (.i n) (.imm .arg 2 lc) (.i x) (.imm .arg 1 rds) (.i 0) (.ptr 2 0 0 1) .undef (.map kb) .undef .undef .undef .undef .undef .undef (.imm .arg 1 rds) (.i (rds.length : Int)) (.i (i : Int)) .undef .undef .undef .undef .undef .undef) H :=
  RunsTo.hin 0 60 [⟨23, 1, .i n0, H⟩, ⟨23, 3, .bool false, H⟩] fun kf hk => ⟨_, by kernel_rfl, (oP H g0 (oB H (decide_eq_false g1) .nil))⟩
theorem ck_z_0 (n : Int) (lc : List HV) (x : Int) (rds : List HV) (H : Heap) (kb : Nat) (i : Nat) : RunsTo Try.prog polV 29 (sub [1, 1, 1, 1, 1, 1] B29) (env29 (.i n) (.imm .arg 2 lc) (.i x) (.imm .arg 1 rds) (.i 0) (.ptr 2 0 0 1) .undef (.map kb) .undef .undef .undef .undef .undef .undef (.imm .arg 1 rds) (.i (rds.length : Int)) (.i (i : Int)) .undef .undef .undef .undef .undef .undef) H .ret (polV.keys 29) (env29 (.i n) (.imm .arg 2 lc) (.i x) (.imm .arg 1 rds) (.i 0) (.ptr 2 0 0 1) .undef (.map kb) .undef .undef .undef .undef .undef .undef (.imm .arg 1 rds) (.i (rds.length : Int)) (.i (i : Int)) .undef .undef .undef .undef .undef .undef) H :=
  RunsTo.hin 0 60 [] fun kf hk => ⟨_, by kernel_rfl, .nil⟩
end Go.Proofs.Ytmhfkhlamnapdaa
end
section
open Go Go.HL
namespace Go.Proofs.Ytmhfkhlamnapdaa
def ins (x : Int) (s : List Int) : List Int := if x ∈ s then s else s ++ [x]
def okC (nr : Int → Int → Bool) (kn bz : List Int) (p : Int × Int) : Bool := nr p.1 p.2 && (decide (p.1 ∈ kn) && (decide (p.2 ∉ kn) && (decide (p.1 ∉ bz) && decide (p.2 ∉ bz))))
def rdGo (nr : Int → Int → Bool) (kn : List Int) : List (Int × Int) → List Int → Bool
  | [], _ => true
  | p :: l, bz => okC nr kn bz p && rdGo nr kn l (ins p.2 (ins p.1 bz))
def learn (l : List (Int × Int)) (kn : List Int) : List Int := l.foldl (fun k p => ins p.2 k) kn
def ckGo (nr : Int → Int → Bool) : List (List (Int × Int)) → List Int → Option (List Int)
  | [], kn => some kn
  | r :: R, kn => if rdGo nr kn r [] = true then ckGo nr R (learn r kn) else none
def spOk (nr : Int → Int → Bool) (n : Int) (x : Int) (R : List (List (Int × Int))) : Bool := match ckGo nr R [x] with | some kn => decide (n ≤ (kn.length : Int)) | none => false
abbrev mapB (ks : List Int) (mx : Nat) : Blk := .map (ks.map encI) (ks.map fun _ => .bool true) mx
theorem u79 : Try.prog.underlying 79 = some (.map 3 4) := by kernel_rfl
theorem z4t : tyZero Try.prog 4 = some (.bool false) := by kernel_rfl
theorem key3 (x : Int) : keyTy Try.prog 3 (.int .i64 x) = true := by kernel_rfl
theorem findK_ints (x : Int) : ∀ (ks : List Int) (i : Nat), ∃ r, findK (.int .i64 x) (ks.map encI) i = some r ∧ ((x ∈ ks ∧ ∃ j, r = some (i + j) ∧ j < ks.length) ∨ (x ∉ ks ∧ r = none))
  | [], i => ⟨none, rfl, .inr ⟨by simp, rfl⟩⟩
  | k :: ks, i => by
    by_cases e : x = k
    · subst e
      refine ⟨some i, ?_, .inl ⟨by simp, 0, rfl, by simp⟩⟩
      simp only [List.map_cons, findK, encI, keyEq, scEq, if_true, decide_true]
    · obtain ⟨r, h1, h2⟩ := findK_ints x ks (i + 1)
      refine ⟨r, ?_, ?_⟩
      · simp only [List.map_cons, findK, encI, keyEq, scEq, if_true, decide_eq_false e]
        exact h1
      · rcases h2 with ⟨h3, j, h4, h5⟩ | ⟨h3, h4⟩
        · exact .inl ⟨by simp [h3], j + 1, by rw [h4]; congr 1; omega, by simp; omega⟩
        · exact .inr ⟨by simp [h3, e], h4⟩
theorem map_lk {H : Heap} {b mx : Nat} {ks : List Int} (h : H[b]? = some (mapB ks mx)) (x : Int) : lkH Try.prog 79 H b (.int .i64 x) = some (.bool (decide (x ∈ ks)), H) := by
  obtain ⟨r, h1, h2⟩ := findK_ints x ks 0
  have hk := key3 x
  have hz := z4t
  simp only [lkH, h, lookV, u79, hk, if_true, h1]
  rcases h2 with ⟨h3, j, rfl, h5⟩ | ⟨h3, rfl⟩
  · rw [decide_eq_true h3]
    have : (ks.map fun _ => HV.bool true)[0 + j]? = some (.bool true) := by rw [Nat.zero_add, List.getElem?_map, List.getElem?_eq_getElem h5]; rfl
    simp only [this]
    rfl
  · rw [decide_eq_false h3]
    simp only [hz]
    rfl
theorem map_upd {H : Heap} {b mx : Nat} {ks : List Int} (h : H[b]? = some (mapB ks mx)) (x : Int) : updV Try.prog false 79 (.map b) (.int .i64 x) (.bool true) H = some (H.set b (mapB (ins x ks) mx)) := by
  obtain ⟨r, h1, h2⟩ := findK_ints x ks 0
  have hk := key3 x
  simp only [updV, u79, hk, if_true, h, h1, Bool.false_eq_true, if_false]
  rcases h2 with ⟨h3, j, rfl, h5⟩ | ⟨h3, rfl⟩
  · have hs : (ks.map fun _ => HV.bool true).set (0 + j) (.bool true) = ks.map fun _ => .bool true := by
      apply List.ext_getElem?
      intro i
      rw [List.getElem?_set, List.length_map]
      by_cases e : 0 + j = i
      · subst e
        rw [if_pos rfl, if_pos (by omega), List.getElem?_map, List.getElem?_eq_getElem (by omega)]; rfl
      · rw [if_neg e]
    simp only [hs, ins, if_pos h3, bnd, Nat.max_zero]
  · have ha : (aggEq (cellsOf (.int .i64 x)) (cellsOf (.int .i64 x))).isSome = true := by simp [cellsOf, aggEq, scEq]
    simp only [ha, if_true, ins, if_neg h3, bnd, Nat.max_zero, mapB, List.map_append, List.map_cons, List.map_nil, encI]
theorem map_len {H : Heap} {b mx : Nat} {ks : List Int} (h : H[b]? = some (mapB ks mx)) : lenV Try.prog H 79 (.map b) = some (.int .i64 (ks.length : Int)) := by
  simp only [lenV, u79, h, List.length_map]
end Go.Proofs.Ytmhfkhlamnapdaa
end
section
open Go Go.HL
namespace Go.Proofs.Ytmhfkhlamnapdaa
abbrev kE29 (n : Int) (lc : List HV) (x : Int) (rds : List HV) (v8 v10 v13 v14 v16 v17 v18 v20 v39 v40 v41 v46 v47 v48 v97 v98 v99 : HV) : Env :=
  env29 (.int .i64 n) (.imm .arg 2 lc) (.int .i64 x) (.imm .arg 1 rds) v8 (.ptr 2 0 0 1) v10 (.map 3) v13 v14 v16 v17 v18 v20 v39 v40 v41 v46 v47 v48 v97 v98 v99
def rowI (r : List Nat) : List Int := r.map fun k : Nat => (k : Int)
theorem rowI_enc (r : List Nat) : r.map encN = (rowI r).map encI := by simp [rowI, encN]
def nrA (n : Nat) (adj : List (List Nat)) (a b : Int) : Bool := decide (0 ≤ a ∧ a ≤ (n : Int) - 1) && decide (b ∈ rowI (adj.getD a.toNat []))
structure CS (n : Nat) (adj : List (List Nat)) (kn : List Int) (H : Heap) : Prop where
  near : H[0]? = some (.arr 1 (adj.map rowO) true 0)
  tree : H[2]? = some (.arr 2 [.agg [.sl 0 0 n none n 1, .map 1]] true 2)
  known : ∃ mx, H[3]? = some (mapB kn mx)
theorem CS.ext {n : Nat} {adj : List (List Nat)} {kn : List Int} {H H' : Heap} (h : CS n adj kn H) (hk : ∀ k, k < 4 → H'[k]? = H[k]?) : CS n adj kn H' := by
  obtain ⟨mx, h1⟩ := h.known
  exact ⟨by rw [hk 0 (by omega)]; exact h.near, by rw [hk 2 (by omega)]; exact h.tree, ⟨mx, by rw [hk 3 (by omega)]; exact h1⟩⟩
theorem CS.four {n : Nat} {adj : List (List Nat)} {kn : List Int} {H : Heap} (h : CS n adj kn H) : 4 ≤ H.length := by
  obtain ⟨mx, h1⟩ := h.known
  have := lt_of_get h1; omega
theorem v49 (x lo hi : Int) (b : Bool) (hb : decide (lo ≤ x ∧ x ≤ hi) = b) (H : Heap) : ∀ k, callN Try.prog polV (k + 1) 49 [.int .i64 x, .int .i64 lo, .int .i64 hi] H = some (.bool b, H) := fun k => by
  rw [prim_call (pol := polV) (g := 49) (F := withinF) (by kernel_rfl) (rs := [.int .i64 x, .int .i64 lo, .int .i64 hi]) rfl (res := .bool b) (by simp only [withinF, hb])]; rfl
theorem v52 (r : List Nat) (hr : r.length ≤ 1000) (x : Int) (b : Bool) (hb : decide (x ∈ rowI r) = b) (H : Heap) : ∀ kf, callN Try.prog polV (kf + 1) 52 [rowO r, .int .i64 x] H = some (.bool b, H) := fun kf => by
  have e : toArg H 6 (rowO r) = some (.imm .arg 1 ((rowI r).map encI)) := by
    show argP (.imm .own 1 (r.map encN)) = _
    rw [rowI_enc]
    simp only [argP, argP_ints']
  rw [prim_call (pol := polV) (g := 52) (F := contains52) (by kernel_rfl) (rs := [.imm .arg 1 ((rowI r).map encI), .int .i64 x]) (by simp only [mapO, e]; rfl) (res := .bool b) (by simp only [contains52, mapO_map decI_enc]; rw [if_pos (by simp [rowI]; exact hr), hb])]; rfl
theorem e_new' (H : Heap) (a b : Int) : ∃ H0 H1, some (newV (.agg [.int .i64 0, .int .i64 0]) H) = some (HV.ptr H.length 0 0 1, H0) ∧ storeV Try.prog H0 33 (.ptr H.length 0 0 1) (.agg [.int .i64 a, .int .i64 b]) = some H1 ∧ H1[H.length]? = some (bE a b) ∧ H1.length = H.length + 1 ∧ (∀ k, k < H.length → H1[k]? = H[k]?) := by
  have hb : (H ++ [bE 0 0])[H.length]? = some (bE 0 0) := by simp
  have hst := store_agg (P := Try.prog) (t := 33) (i := 0) (tot := 1) (new := [.int .i64 a, .int .i64 b]) hb rfl rfl s33c rfl (by simp) rfl rfl
  exact ⟨_, _, rfl, hst, by rw [List.set_cons_zero, List.getElem?_set_self (by simp)], by simp, fun k hk => by rw [List.getElem?_set_ne (by omega), List.getElem?_append_left hk]⟩
theorem ck_calls (n : Nat) (hn : 1 ≤ n ∧ n ≤ 1000) (lc : List HV) (x : Int) (rds : List HV) (i : Nat) (adj : List (List Nat)) (hA : AInv n 1000 adj) (kn : List Int) (r : List (Int × Int)) (hr : r.length ≤ 1000) (bb : Nat) (hbb : 4 ≤ bb) : ∀ (d j : Nat) (bz : List Int) (H : Heap), j + d = r.length → CS n adj kn H → (∃ mx, H[bb]? = some (mapB bz mx)) →
    ∃ X E H', RunsTo Try.prog polV 29 (sub [1, 1, 1, 1, 0, 1, 0, 0, 1, 1, 0, 0, 1, 1, 0, 1, 0] B29) (kE29 (n : Int) lc x rds (.int .i64 0) .undef (.imm .arg 2 (r.map encP)) (.map bb) .undef .undef .undef .undef (.imm .arg 1 rds) (.int .i64 (rds.length : Int)) (.int .i64 (i : Int)) (.imm .arg 2 (r.map encP)) (.int .i64 (r.length : Int)) (.int .i64 (j : Int)) .undef .undef .undef) H X (polV.keys 29) E H' ∧
      ((rdGo (nrA n adj) kn (r.drop j) bz = true ∧ X = .exit 2 ∧ E = kE29 (n : Int) lc x rds (.int .i64 0) .undef (.imm .arg 2 (r.map encP)) (.map bb) .undef .undef .undef .undef (.imm .arg 1 rds) (.int .i64 (rds.length : Int)) (.int .i64 (i : Int)) (.imm .arg 2 (r.map encP)) (.int .i64 (r.length : Int)) (.int .i64 (r.length : Int)) .undef .undef .undef ∧ CS n adj kn H') ∨
       (rdGo (nrA n adj) kn (r.drop j) bz = false ∧ X = .ret ∧ E.get 8 = .int .i64 10)) := by
  intro d
  induction d with
  | zero =>
    intro j bz H hj hC hB
    have hj : j = r.length := by omega
    subst hj
    have s1 := ck_l_7 (n : Int) lc x rds H 3 i (r.map encP) bb r.length n (by simp)
    rw [List.length_map] at s1
    exact ⟨_, _, _, RunsTo.loop_out s1 (by simp) (by kernel_rfl) (by kernel_rfl), .inl ⟨by simp [rdGo], rfl, rfl, hC⟩⟩
  | succ d ih =>
    intro j bz H hj hC hB
    obtain ⟨mxb, hB⟩ := hB
    obtain ⟨mxk, hK⟩ := hC.known
    have h4 := hC.four
    have hbl : bb < H.length := lt_of_get hB
    have hjl : j < r.length := by omega
    rw [List.drop_eq_getElem_cons hjl, rdGo]
    generalize hp : r[j] = p
    obtain ⟨a, b⟩ := p
    have hml : ((r.map encP).length : Int) = (r.length : Int) := by simp
    have g0 : (j : Int) < ((r.map encP).length : Int) := by simp; omega
    have g1 : idxV Try.prog 22 (.imm .arg 2 (r.map encP)) (.int .i64 (j : Int)) = some (.vptr (.agg [.int .i64 a, .int .i64 b])) := idx_imm u22 z33 (by omega) (by rw [Int.toNat_natCast, List.getElem?_map, List.getElem?_eq_getElem hjl, hp]; rfl)
    obtain ⟨H0, H1, g2, g3, hq, hl1, hk1⟩ := e_new' H a b
    obtain ⟨i0, i1⟩ := e_idx H.length
    obtain ⟨la, lb⟩ := e_load hq
    have hC1 := hC.ext (H' := H1) (fun k hk => hk1 k (by omega))
    have hB1 : H1[bb]? = some (mapB bz mxb) := by rw [hk1 bb hbl]; exact hB
    have hK1 : H1[3]? = some (mapB kn mxk) := by rw [hk1 3 (by omega)]; exact hK
    have hwn : IntKind.i64.wrap ((n : Int) - 1) = (n : Int) - 1 := by rw [wrapI64]; omega
    by_cases ca : 0 ≤ a ∧ a ≤ (n : Int) - 1
    · have c49 := v49 a 0 (IntKind.i64.wrap ((n : Int) - 1)) true (by rw [hwn]; exact decide_eq_true ca) H1
      have han : a.toNat < n := by omega
      obtain ⟨row, hrow⟩ : ∃ w, adj[a.toNat]? = some w := ⟨_, List.getElem?_eq_getElem (by rw [hA.len]; exact han)⟩
      have hgd : adj.getD a.toNat [] = row := by simp [List.getD, hrow]
      have hrl := (hA.row _ (List.mem_of_getElem? hrow)).1
      have ln : loadV Try.prog H1 55 (.ptr 2 0 0 1) = some (.sl 0 0 n none n 1) := load_cell (b := 2) (off := 0) hC1.tree rfl rfl a55c i55c rfl
      have ix : idxV Try.prog 55 (.sl 0 0 n none n 1) (.int .i64 a) = some (.ptr 0 a.toNat 0 n) := idx_sl u55b z24b (by omega) han
      have lr : loadV Try.prog H1 24 (.ptr 0 a.toNat 0 n) = some (rowO row) := load_elem (b := 0) hC1.near (by rw [List.length_map, hA.len]) (by rw [List.getElem?_map, hrow]; rfl) rfl a24c i24c
      have hnr : nrA n adj a b = decide (b ∈ rowI row) := by rw [nrA, decide_eq_true ca, Bool.true_and, hgd]
      by_cases cb : b ∈ rowI row
      · have c52 := v52 row hrl b true (decide_eq_true cb) H1
        by_cases ck1 : a ∈ kn
        · have k1 := map_lk hK1 a
          rw [decide_eq_true ck1] at k1
          by_cases ck2 : b ∈ kn
          · have k2 := map_lk hK1 b
            rw [decide_eq_true ck2] at k2
            have s1 := ck_l_0 (n : Int) lc x rds H 3 i (r.map encP) bb j n a b _ H0 H1 _ a _ b H1 _ H1 g0 g1 g2 g3 i0 la i1 lb c49 ln ix lr c52 k1 k2
            rw [hml] at s1
            exact ⟨_, _, _, RunsTo.loop_out s1 (by simp) (by kernel_rfl) (by kernel_rfl), .inr ⟨by simp [okC, ck2], rfl, rfl⟩⟩
          · have k2 := map_lk hK1 b
            rw [decide_eq_false ck2] at k2
            by_cases cz1 : a ∈ bz
            · have z1 := map_lk hB1 a
              rw [decide_eq_true cz1] at z1
              have s1 := ck_l_1 (n : Int) lc x rds H 3 i (r.map encP) bb j n a b _ H0 H1 _ a _ b H1 _ H1 g0 g1 g2 g3 i0 la i1 lb c49 ln ix lr c52 k1 k2 z1
              rw [hml] at s1
              exact ⟨_, _, _, RunsTo.loop_out s1 (by simp) (by kernel_rfl) (by kernel_rfl), .inr ⟨by simp [okC, cz1], rfl, rfl⟩⟩
            · have z1 := map_lk hB1 a
              rw [decide_eq_false cz1] at z1
              by_cases cz2 : b ∈ bz
              · have z2 := map_lk hB1 b
                rw [decide_eq_true cz2] at z2
                have s1 := ck_l_2 (n : Int) lc x rds H 3 i (r.map encP) bb j n a b _ H0 H1 _ a _ b H1 _ H1 g0 g1 g2 g3 i0 la i1 lb c49 ln ix lr c52 k1 k2 z1 z2
                rw [hml] at s1
                exact ⟨_, _, _, RunsTo.loop_out s1 (by simp) (by kernel_rfl) (by kernel_rfl), .inr ⟨by simp [okC, cz2], rfl, rfl⟩⟩
              · have z2 := map_lk hB1 b
                rw [decide_eq_false cz2] at z2
                have hok : okC (nrA n adj) kn bz (a, b) = true := by
                  simp [okC, hnr, cb, ck1, ck2, cz1, cz2]
                rw [hok, Bool.true_and]
                have u1 := map_upd hB1 a
                have hB2 : (H1.set bb (mapB (ins a bz) mxb))[bb]? = some (mapB (ins a bz) mxb) := List.getElem?_set_self (by omega)
                have u2 := map_upd hB2 b
                have s1 := ck_l_3 (n : Int) lc x rds H 3 i (r.map encP) bb j n a b _ H0 H1 _ a _ b H1 _ H1 _ _ g0 g1 g2 g3 i0 la i1 lb c49 ln ix lr c52 k1 k2 z1 z2 u1 u2
                rw [hml, wrap_succ (by omega)] at s1
                have hg := fun (rr k : Nat) (hk : k < H.length) => gc_get (base := H.length) (r := rr) (H := (H1.set bb (mapB (ins a bz) mxb)).set bb (mapB (ins b (ins a bz)) mxb)) (k := k) (by omega)
                have hC8 : ∀ rr, CS n adj kn (gc H.length rr ((H1.set bb (mapB (ins a bz) mxb)).set bb (mapB (ins b (ins a bz)) mxb))) := fun rr => hC1.ext fun k hk => by
                  rw [hg rr k (by omega), List.getElem?_set_ne (by omega), List.getElem?_set_ne (by omega)]
                obtain ⟨X, E, H', r2, h2⟩ := ih (j + 1) (ins b (ins a bz)) _ (by omega) (hC8 _) ⟨mxb, (hg _ bb hbl).trans (List.getElem?_set_self (by rw [List.length_set]; omega))⟩
                exact ⟨X, E, H', RunsTo.loop s1 (by kernel_rfl) rfl r2 rfl (by kernel_rfl) (by kernel_rfl), h2⟩
        · have k1 := map_lk hK1 a
          rw [decide_eq_false ck1] at k1
          have s1 := ck_l_4 (n : Int) lc x rds H 3 i (r.map encP) bb j n a b _ H0 H1 _ a _ b H1 _ H1 g0 g1 g2 g3 i0 la i1 lb c49 ln ix lr c52 k1
          rw [hml] at s1
          exact ⟨_, _, _, RunsTo.loop_out s1 (by simp) (by kernel_rfl) (by kernel_rfl), .inr ⟨by simp [okC, ck1], rfl, rfl⟩⟩
      · have c52 := v52 row hrl b false (decide_eq_false cb) H1
        have s1 := ck_l_5 (n : Int) lc x rds H 3 i (r.map encP) bb j n a b _ H0 H1 _ a _ b H1 _ H1 g0 g1 g2 g3 i0 la i1 lb c49 ln ix lr c52
        rw [hml] at s1
        exact ⟨_, _, _, RunsTo.loop_out s1 (by simp) (by kernel_rfl) (by kernel_rfl), .inr ⟨by simp [okC, hnr, cb], rfl, rfl⟩⟩
    · have c49 := v49 a 0 (IntKind.i64.wrap ((n : Int) - 1)) false (by rw [hwn]; exact decide_eq_false ca) H1
      have hnr : nrA n adj a b = false := by rw [nrA, decide_eq_false ca, Bool.false_and]
      have s1 := ck_l_6 (n : Int) lc x rds H 3 i (r.map encP) bb j n a b _ H0 H1 _ a _ b H1 g0 g1 g2 g3 i0 la i1 lb c49
      rw [hml] at s1
      exact ⟨_, _, _, RunsTo.loop_out s1 (by simp) (by kernel_rfl) (by kernel_rfl), .inr ⟨by simp [okC, hnr], rfl, rfl⟩⟩
theorem ck_learn (n : Nat) (lc : List HV) (x : Int) (rds : List HV) (i : Nat) (adj : List (List Nat)) (r : List (Int × Int)) (hr : r.length ≤ 1000) : ∀ (d j : Nat) (kn : List Int) (H : Heap), j + d = r.length → CS n adj kn H →
    ∃ H', RunsTo Try.prog polV 29 (sub [1, 1, 1, 1, 0, 1, 0, 0, 1, 1, 0, 0, 1, 1, 1, 1, 0] B29) (kE29 (n : Int) lc x rds (.int .i64 0) .undef .undef .undef .undef .undef .undef .undef (.imm .arg 1 rds) (.int .i64 (rds.length : Int)) (.int .i64 (i : Int)) .undef .undef .undef (.imm .arg 2 (r.map encP)) (.int .i64 (r.length : Int)) (.int .i64 (j : Int))) H
      (.exit 4) (polV.keys 29) (kE29 (n : Int) lc x rds (.int .i64 0) .undef .undef .undef .undef .undef .undef .undef (.imm .arg 1 rds) (.int .i64 (rds.length : Int)) (.int .i64 (i : Int)) .undef .undef .undef (.imm .arg 2 (r.map encP)) (.int .i64 (r.length : Int)) (.int .i64 (r.length : Int))) H' ∧ CS n adj (learn (r.drop j) kn) H' ∧ H.length ≤ H'.length := by
  intro d
  induction d with
  | zero =>
    intro j kn H hj hC
    have hj : j = r.length := by omega
    subst hj
    have s1 := ck_n_1 (n : Int) lc x rds H 3 i (r.map encP) r.length (by simp)
    rw [List.length_map] at s1
    exact ⟨_, RunsTo.loop_out s1 (by simp) (by kernel_rfl) (by kernel_rfl), by simpa [learn] using hC, Nat.le_refl _⟩
  | succ d ih =>
    intro j kn H hj hC
    obtain ⟨mxk, hK⟩ := hC.known
    have h4 := hC.four
    have hjl : j < r.length := by omega
    rw [List.drop_eq_getElem_cons hjl]
    generalize hp : r[j] = p
    obtain ⟨a, b⟩ := p
    have hml : ((r.map encP).length : Int) = (r.length : Int) := by simp
    have g0 : (j : Int) < ((r.map encP).length : Int) := by simp; omega
    have g1 : idxV Try.prog 22 (.imm .arg 2 (r.map encP)) (.int .i64 (j : Int)) = some (.vptr (.agg [.int .i64 a, .int .i64 b])) := idx_imm u22 z33 (by omega) (by rw [Int.toNat_natCast, List.getElem?_map, List.getElem?_eq_getElem hjl, hp]; rfl)
    obtain ⟨H0, H1, g2, g3, hq, hl1, hk1⟩ := e_new' H a b
    obtain ⟨i0, i1⟩ := e_idx H.length
    obtain ⟨la, lb⟩ := e_load hq
    have hC1 := hC.ext (H' := H1) (fun k hk => hk1 k (by omega))
    have hK1 : H1[3]? = some (mapB kn mxk) := by rw [hk1 3 (by omega)]; exact hK
    have u1 := map_upd hK1 b
    have s1 := ck_n_0 (n : Int) lc x rds H 3 i (r.map encP) j a b _ H0 H1 _ b _ g0 g1 g2 g3 i1 lb u1
    rw [hml, wrap_succ (by omega)] at s1
    have hg := fun (rr k : Nat) (hk : k < H.length) => gc_get (base := H.length) (r := rr) (H := H1.set 3 (mapB (ins b kn) mxk)) (k := k) (by omega)
    have hC8 : ∀ rr, CS n adj (ins b kn) (gc H.length rr (H1.set 3 (mapB (ins b kn) mxk))) := fun rr =>
      ⟨by rw [hg rr 0 (by omega), List.getElem?_set_ne (by omega)]; exact hC1.near, by rw [hg rr 2 (by omega), List.getElem?_set_ne (by omega)]; exact hC1.tree, ⟨mxk, (hg rr 3 (by omega)).trans (List.getElem?_set_self (by omega))⟩⟩
    obtain ⟨H', r2, h2, h3⟩ := ih (j + 1) (ins b kn) _ (by omega) (hC8 _)
    refine ⟨H', RunsTo.loop s1 (by kernel_rfl) rfl r2 rfl (by kernel_rfl) (by kernel_rfl), h2, Nat.le_trans ?_ h3⟩
    unfold gc
    rw [List.length_take, List.length_set]
    omega
def encRd (r : List (Int × Int)) : HV := .imm .arg 2 (r.map encP)
def decRd : HV → Option (List (Int × Int)) | .imm .arg 2 l => mapO decP l | _ => none
theorem decRd_enc (r : List (Int × Int)) : decRd (encRd r) = some r := mapO_map decP_enc r
theorem decRd_inv (b : HV) (a : List (Int × Int)) (h : decRd b = some a) : b = encRd a := by
  unfold decRd at h
  split at h
  · rw [mapO_inv decP_inv h]; rfl
  · cases h
theorem u44b : Try.prog.underlying 44 = some (.slice 22) := by kernel_rfl
theorem z22b : tySize Try.prog 22 = some 1 := by kernel_rfl
theorem ck_rounds (n : Nat) (hn : 1 ≤ n ∧ n ≤ 1000) (lc : List HV) (x : Int) (R : List (List (Int × Int))) (hR : R.length ≤ 1000) (hRr : ∀ r ∈ R, r.length ≤ 1000) (adj : List (List Nat)) (hA : AInv n 1000 adj) : ∀ (d i : Nat) (kn : List Int) (H : Heap), i + d = R.length → CS n adj kn H →
    ∃ X E H', RunsTo Try.prog polV 29 (sub [1, 1, 1, 1, 0, 1, 0] B29) (kE29 (n : Int) lc x (R.map encRd) (.int .i64 0) .undef .undef .undef .undef .undef .undef .undef (.imm .arg 1 (R.map encRd)) (.int .i64 (R.length : Int)) (.int .i64 (i : Int)) .undef .undef .undef .undef .undef .undef) H X (polV.keys 29) E H' ∧
      ((∃ kn', ckGo (nrA n adj) (R.drop i) kn = some kn' ∧ X = .exit 0 ∧ E = kE29 (n : Int) lc x (R.map encRd) (.int .i64 0) .undef .undef .undef .undef .undef .undef .undef (.imm .arg 1 (R.map encRd)) (.int .i64 (R.length : Int)) (.int .i64 (R.length : Int)) .undef .undef .undef .undef .undef .undef ∧ CS n adj kn' H') ∨
       (ckGo (nrA n adj) (R.drop i) kn = none ∧ X = .ret ∧ E.get 8 = .int .i64 10)) := by
  intro d
  induction d with
  | zero =>
    intro i kn H hi hC
    have hi : i = R.length := by omega
    subst hi
    have f1 := ck_f_1 (n : Int) lc x (R.map encRd) H 3 R.length (by simp)
    have h1 := ck_h_0 (n : Int) lc x (R.map encRd) H 3 R.length
    rw [List.length_map] at f1 h1
    have t1 := RunsTo.seq f1 (RunsTo.seq_out h1 (by simp) (c := sub [1, 1, 1, 1, 0, 1, 0, 0, 1] B29) (b := sub [1, 1, 1, 1, 0, 1, 0, 0, 1, 1] B29) (by kernel_rfl)) (c := sub [1, 1, 1, 1, 0, 1, 0, 0] B29) (by kernel_rfl) (by kernel_rfl)
    exact ⟨_, _, _, RunsTo.loop_out t1 (by simp) (by kernel_rfl) (by kernel_rfl), .inl ⟨kn, by simp [ckGo], rfl, rfl, hC⟩⟩
  | succ d ih =>
    intro i kn H hi hC
    have hil : i < R.length := by omega
    have h4 := hC.four
    rw [List.drop_eq_getElem_cons hil, ckGo]
    have hrl := hRr _ (List.getElem_mem hil)
    generalize hr : R[i] = r at hrl
    have hml : ((R.map encRd).length : Int) = (R.length : Int) := by simp
    have f1 := ck_f_0 (n : Int) lc x (R.map encRd) H 3 i (by simp; omega)
    have g1 := ck_g_0 (n : Int) lc x (R.map encRd) H 3 i
    have i1 := ck_i_0 (n : Int) lc x (R.map encRd) H 3 i (r.map encP) (idx_imm u44b z22b (by omega) (by rw [Int.toNat_natCast, List.getElem?_map, List.getElem?_eq_getElem hil, hr]; rfl))
    have j1 := ck_j_0 (n : Int) lc x (R.map encRd) H 3 i (r.map encP) H.length _ rfl
    have k1 := ck_k_0 (n : Int) lc x (R.map encRd) (H ++ [.map [] [] 0]) 3 i (r.map encP) H.length
    rw [hml] at f1 g1 i1 j1 k1
    rw [List.length_map] at k1
    have hC1 : CS n adj kn (H ++ [.map [] [] 0]) := hC.ext fun k hk => by rw [List.getElem?_append_left (by omega)]
    obtain ⟨X, E, H', r1, h1⟩ := ck_calls n hn lc x (R.map encRd) i adj hA kn r hrl H.length h4 r.length 0 [] (H ++ [.map [] [] 0]) (by omega) hC1 ⟨0, by simp⟩
    rw [hml] at r1
    rw [List.drop_zero, hml] at h1
    rcases h1 with ⟨e, rfl, rfl, hC2⟩ | ⟨e, rfl, hE⟩
    · rw [if_pos e]
      have m1 := ck_m_0 (n : Int) lc x (R.map encRd) H' 3 i (r.map encP) H.length r.length
      rw [hml, List.length_map] at m1
      obtain ⟨H2, r2, hC3, hl2⟩ := ck_learn n lc x (R.map encRd) i adj r hrl r.length 0 kn H' (by omega) hC2
      have r2' := RunsTo.loop_in (e0 := kE29 (n : Int) lc x (R.map encRd) (.int .i64 0) .undef (.imm .arg 2 (r.map encP)) (.map H.length) .undef .undef .undef .undef (.imm .arg 1 (R.map encRd)) (.int .i64 (R.length : Int)) (.int .i64 (i : Int)) (.imm .arg 2 (r.map encP)) (.int .i64 (r.length : Int)) (.int .i64 (r.length : Int)) (.imm .arg 2 (r.map encP)) (.int .i64 (r.length : Int)) (.int .i64 0)) (by rw [hml] at r2; exact r2) (b := sub [1, 1, 1, 1, 0, 1, 0, 0, 1, 1, 0, 0, 1, 1, 1, 1, 0, 0] B29) (by kernel_rfl) (by kernel_rfl) (by kernel_rfl)
      have o1 := ck_o_0 (n : Int) lc x (R.map encRd) H2 3 i (r.map encP) r.length .undef
      rw [hml, List.length_map, wrap_succ (by omega)] at o1
      have hg := fun (rr k : Nat) (hk : k < H.length) => gc_get (base := H.length) (r := rr) (H := H2) (k := k) (by omega)
      have hC8 : ∀ rr, CS n adj (learn r kn) (gc H.length rr H2) := fun rr => by
        rw [List.drop_zero] at hC3
        exact hC3.ext fun k hk => hg rr k (by omega)
      obtain ⟨X, E, H3, r3, h3⟩ := ih (i + 1) (learn r kn) _ (by omega) (hC8 _)
      refine ⟨X, E, H3, ?_, h3⟩
      have t1 := RunsTo.seq k1 (RunsTo.block_exit (c := sub [1, 1, 1, 1, 0, 1, 0, 0, 1, 1, 0, 0, 1, 1, 0, 1] B29) r1 (by kernel_rfl)) (c := sub [1, 1, 1, 1, 0, 1, 0, 0, 1, 1, 0, 0, 1, 1, 0] B29) (by kernel_rfl) (by kernel_rfl)
      have t2 := RunsTo.seq m1 (RunsTo.block_exit (c := sub [1, 1, 1, 1, 0, 1, 0, 0, 1, 1, 0, 0, 1, 1, 1, 1] B29) r2' (by kernel_rfl)) (c := sub [1, 1, 1, 1, 0, 1, 0, 0, 1, 1, 0, 0, 1, 1, 1] B29) (by kernel_rfl) (by kernel_rfl)
      have t3 := RunsTo.seq t1 t2 (c := sub [1, 1, 1, 1, 0, 1, 0, 0, 1, 1, 0, 0, 1, 1] B29) (by kernel_rfl) (by kernel_rfl)
      have t4 := RunsTo.seq j1 t3 (c := sub [1, 1, 1, 1, 0, 1, 0, 0, 1, 1, 0, 0, 1] B29) (by kernel_rfl) (by kernel_rfl)
      have t5 := RunsTo.seq i1 t4 (c := sub [1, 1, 1, 1, 0, 1, 0, 0, 1, 1, 0, 0] B29) (by kernel_rfl) (by kernel_rfl)
      have t6 := RunsTo.block_normal (i := 1) (c := sub [1, 1, 1, 1, 0, 1, 0, 0, 1, 1, 0] B29) t5 (by kernel_rfl)
      have t7 := RunsTo.seq t6 o1 (c := sub [1, 1, 1, 1, 0, 1, 0, 0, 1, 1] B29) (by kernel_rfl) (by kernel_rfl)
      have t8 := RunsTo.seq g1 t7 (c := sub [1, 1, 1, 1, 0, 1, 0, 0, 1] B29) (by kernel_rfl) (by kernel_rfl)
      have t9 := RunsTo.seq f1 t8 (c := sub [1, 1, 1, 1, 0, 1, 0, 0] B29) (by kernel_rfl) (by kernel_rfl)
      exact RunsTo.loop t9 (by kernel_rfl) rfl r3 rfl (by kernel_rfl) (by kernel_rfl)
    · rw [if_neg (by rw [e]; simp)]
      refine ⟨_, E, H', ?_, .inr ⟨rfl, rfl, hE⟩⟩
      have t1 := RunsTo.seq k1 (RunsTo.block_ret (i := 2) (c := sub [1, 1, 1, 1, 0, 1, 0, 0, 1, 1, 0, 0, 1, 1, 0, 1] B29) r1 (by kernel_rfl)) (c := sub [1, 1, 1, 1, 0, 1, 0, 0, 1, 1, 0, 0, 1, 1, 0] B29) (by kernel_rfl) (by kernel_rfl)
      have t3 := RunsTo.seq_out t1 (by simp) (c := sub [1, 1, 1, 1, 0, 1, 0, 0, 1, 1, 0, 0, 1, 1] B29) (b := sub [1, 1, 1, 1, 0, 1, 0, 0, 1, 1, 0, 0, 1, 1, 1] B29) (by kernel_rfl)
      have t4 := RunsTo.seq j1 t3 (c := sub [1, 1, 1, 1, 0, 1, 0, 0, 1, 1, 0, 0, 1] B29) (by kernel_rfl) (by kernel_rfl)
      have t5 := RunsTo.seq i1 t4 (c := sub [1, 1, 1, 1, 0, 1, 0, 0, 1, 1, 0, 0] B29) (by kernel_rfl) (by kernel_rfl)
      have t6 := RunsTo.block_ret (i := 1) (c := sub [1, 1, 1, 1, 0, 1, 0, 0, 1, 1, 0] B29) t5 (by kernel_rfl)
      have t7 := RunsTo.seq_out t6 (by simp) (c := sub [1, 1, 1, 1, 0, 1, 0, 0, 1, 1] B29) (b := sub [1, 1, 1, 1, 0, 1, 0, 0, 1, 1, 1] B29) (by kernel_rfl)
      have t8 := RunsTo.seq g1 t7 (c := sub [1, 1, 1, 1, 0, 1, 0, 0, 1] B29) (by kernel_rfl) (by kernel_rfl)
      have t9 := RunsTo.seq f1 t8 (c := sub [1, 1, 1, 1, 0, 1, 0, 0] B29) (by kernel_rfl) (by kernel_rfl)
      exact RunsTo.loop_out t9 (by simp) (by kernel_rfl) (by kernel_rfl)
end Go.Proofs.Ytmhfkhlamnapdaa
end
section
open Go Go.HL
namespace Go.Proofs.Ytmhfkhlamnapdaa
theorem adjGo_inv {n : Nat} : ∀ (l : List (Int × Int)) (k : Nat) (adj : List (List Nat)), (∀ p ∈ l, validB (n : Int) p = true) → AInv n k adj → AInv n (k + 2 * l.length) (adjGo l adj)
  | [], k, adj, _, h => by simpa [adjGo] using h
  | p :: l, k, adj, hv, h => by
    have h1 := hv p (by simp)
    rw [validB, decide_eq_true_eq] at h1
    have hA := (h.add (a := p.1.toNat) (b := p.2.toNat) (by omega) (by omega)).add (a := p.2.toNat) (b := p.1.toNat) (by omega) (by omega)
    have := adjGo_inv l (k + 1 + 1) (adjStep adj p) (fun q hq => hv q (by simp [hq])) hA
    have e : k + 1 + 1 + 2 * l.length = k + 2 * (p :: l).length := by simp; omega
    rw [e] at this
    exact this
theorem AInv.mono {n k k' : Nat} {adj : List (List Nat)} (h : AInv n k adj) (hk : k ≤ k') : AInv n k' adj := ⟨h.len, fun r hr => ⟨by have := (h.row r hr).1; omega, (h.row r hr).2⟩⟩
theorem adjOf_inv {n : Nat} {l : List (Int × Int)} (hv : ∀ p ∈ l, validB (n : Int) p = true) : AInv n (2 * l.length) (adjOf n l) := by
  have := adjGo_inv l 0 _ hv (AInv.init n)
  rw [Nat.zero_add] at this
  exact this
def treeOk (n : Int) (l : List (Int × Int)) : Bool := decide (((1 ≤ n ∧ n ≤ 30) ∧ (l.length : Int) = n - 1) ∧ l.all (validB n) = true) && farOk (adjOf n.toNat l)
def checkF (n : Int) (l : List (Int × Int)) (x : Int) (R : List (List (Int × Int))) : Int :=
  if treeOk n l = true ∧ (0 ≤ x ∧ x ≤ n - 1) then (if spOk (nrA n.toNat (adjOf n.toNat l)) n x R = true then 0 else 10) else 2
def check29 : List HV → Option HV
  | [.int .i64 n, .imm .arg 2 lc, .int .i64 x, .imm .arg 1 rv] =>
    match mapO decP lc, mapO decRd rv with
    | some l, some R => if R.length ≤ 1000 ∧ (R.all fun r => decide (r.length ≤ 1000)) = true then some (.int .i64 (checkF n l x R)) else none
    | _, _ => none
  | _ => none
theorem res29 : Try.f29.results.toList = [.tmp 8] := by kernel_rfl
theorem rowO_any (adj : List (List Nat)) : (adj.map rowO).any isOwn = false := by
  rw [List.any_eq_false]
  intro v hv
  obtain ⟨k, _, rfl⟩ := List.mem_map.1 hv
  simp [rowO, isOwn]
theorem v46_ok {n : Nat} {l : List (Int × Int)} (hg : ((1 ≤ (n : Int) ∧ (n : Int) ≤ 30) ∧ (l.length : Int) = (n : Int) - 1) ∧ l.all (validB (n : Int)) = true) (b : Bool) (hb : farOk (adjOf n l) = b) : ∀ kf, callN Try.prog polV (kf + 1) 46 [.int .i64 (n : Int), .imm .arg 2 (l.map encP)] [] = some (.tuple [.agg [.sl 0 0 n none n 1, .map 1], .bool b], [.arr 1 ((adjOf n l).map rowO) true 0, .map [] [] 0]) := fun kf => by
  have hl : (adjOf n l).length = n := (adjOf_inv (List.all_eq_true.1 hg.2)).len
  rw [prim_call (pol := polV) (g := 46) (F := newTree46) (by kernel_rfl) (rs := [.int .i64 (n : Int), .imm .arg 2 (l.map encP)]) (by simp only [mapO, arg_pairs']; rfl) (res := .tuple [treeV (adjOf n l), .bool b]) (by simp only [newTree46, mapO_map decP_enc, newTreeF]; rw [if_pos hg, Int.toNat_natCast, hb])]
  have hno := rowO_any (adjOf n l)
  simp only [recv, recvVals, recvVal, treeV, recvCells, recvCell, hno, List.length_map, hl]
  rfl
theorem v46_bad {n : Int} {l : List (Int × Int)} (hg : ¬ (((1 ≤ n ∧ n ≤ 30) ∧ (l.length : Int) = n - 1) ∧ l.all (validB n) = true)) : ∀ kf, callN Try.prog polV (kf + 1) 46 [.int .i64 n, .imm .arg 2 (l.map encP)] [] = some (.tuple [.agg [.sl 0 0 0 none 0 0, .nilmap], .bool false], [.arr 0 [] true 0]) := fun kf => by
  rw [prim_call (pol := polV) (g := 46) (F := newTree46) (by kernel_rfl) (rs := [.int .i64 n, .imm .arg 2 (l.map encP)]) (by simp only [mapO, arg_pairs']; rfl) (res := .tuple [.agg [.own 0 [], .nilmap], .bool false]) (by simp only [newTree46, mapO_map decP_enc, newTreeF]; rw [if_neg hg])]
  rfl
theorem check_ok : PrimOk Try.prog 29 check29 := by
  refine primOk_pure (pol := polV) (fn := Try.f29) (cd := B29) follows_mixed soundV (by kernel_rfl) (by kernel_rfl) (fnok polV.prim _ _ (by kernel_rfl)) (by kernel_rfl) ?_
  intro args res h
  unfold check29 at h
  split at h
  · rename_i n lc x rv
    split at h
    · rename_i l R hlc hrv
      split at h
      · rename_i hg
        cases h
        rw [mapO_inv decP_inv hlc, mapO_inv decRd_inv hrv]
        have hRr : ∀ r ∈ R, r.length ≤ 1000 := fun r hr => of_decide_eq_true (List.all_eq_true.1 hg.2 r hr)
        have a1 := ck_a_0 n (l.map encP) x (R.map encRd)
        have fin : ∀ E H, RunsTo Try.prog polV 29 (sub [1] B29) (env29 (.int .i64 n) (.imm .arg 2 (l.map encP)) (.int .i64 x) (.imm .arg 1 (R.map encRd)) (.int .i64 0) .undef .undef .undef .undef .undef .undef .undef .undef .undef .undef .undef .undef .undef .undef .undef .undef .undef .undef) [] .ret (polV.keys 29) E H → E.get 8 = .int .i64 (checkF n l x R) →
            ∃ X E H' v, RunsTo Try.prog polV 29 B29 (args0 [.int .i64 n, .imm .arg 2 (l.map encP), .int .i64 x, .imm .arg 1 (R.map encRd)]) [] X (polV.keys 29) E H' ∧ (∀ i, X ≠ .exit i) ∧ resultsV Try.prog Try.f29 E H' = some v ∧ toRes H' (polV.deep 29) v = some (.int .i64 (checkF n l x R)) := by
          intro E H t hE
          exact ⟨_, _, _, .int .i64 (checkF n l x R), RunsTo.seq a1 t (c := B29) (by kernel_rfl) (by kernel_rfl), by simp, by simp only [resultsV, res29, mapO, resultV, hE], rfl⟩
        by_cases hT : (((1 ≤ n ∧ n ≤ 30) ∧ (l.length : Int) = n - 1) ∧ l.all (validB n) = true)
        · obtain ⟨m, rfl⟩ : ∃ m : Nat, n = (m : Int) := ⟨n.toNat, by omega⟩
          have hinv := adjOf_inv (List.all_eq_true.1 hT.2)
          have hA : AInv m 1000 (adjOf m l) := hinv.mono (by omega)
          have hwn : IntKind.i64.wrap ((m : Int) - 1) = (m : Int) - 1 := by rw [wrapI64]; omega
          by_cases hf : farOk (adjOf m l) = true
          · have b1 := ck_b_0 (m : Int) (l.map encP) x (R.map encRd) m ((adjOf m l).map rowO) (v46_ok hT true hf)
            have hTo : treeOk (m : Int) l = true := by rw [treeOk, decide_eq_true hT, Int.toNat_natCast, hf]; rfl
            by_cases hx : 0 ≤ x ∧ x ≤ (m : Int) - 1
            · have c1 := ck_c_0 (m : Int) (l.map encP) x (R.map encRd) m ((adjOf m l).map rowO) (v49 _ _ _ true (by rw [hwn]; exact decide_eq_true hx) _)
              have hF : checkF (m : Int) l x R = if spOk (nrA m (adjOf m l)) (m : Int) x R = true then 0 else 10 := by rw [checkF, if_pos ⟨hTo, hx⟩, Int.toNat_natCast]
              have hk0 : ([.arr 1 ((adjOf m l).map rowO) true 0, .map [] [] 0, .arr 2 [.agg [.sl 0 0 m none m 1, .map 1]] true 2, .map [] [] 0] : Heap)[3]? = some (mapB [] 0) := rfl
              have u1 := map_upd hk0 x
              have d1 := ck_d_0 (m : Int) (l.map encP) x (R.map encRd) [.arr 1 ((adjOf m l).map rowO) true 0, .map [] [] 0, .arr 2 [.agg [.sl 0 0 m none m 1, .map 1]] true 2] 3 _ _ rfl u1
              have hC : CS m (adjOf m l) [x] (([.arr 1 ((adjOf m l).map rowO) true 0, .map [] [] 0, .arr 2 [.agg [.sl 0 0 m none m 1, .map 1]] true 2, .map [] [] 0] : Heap).set 3 (mapB (ins x []) 0)) := ⟨rfl, rfl, ⟨0, rfl⟩⟩
              have e1 := ck_e_0 (m : Int) (l.map encP) x (R.map encRd) (([.arr 1 ((adjOf m l).map rowO) true 0, .map [] [] 0, .arr 2 [.agg [.sl 0 0 m none m 1, .map 1]] true 2, .map [] [] 0] : Heap).set 3 (mapB (ins x []) 0)) 3
              have hml : ((R.map encRd).length : Int) = (R.length : Int) := by simp
              rw [hml] at e1
              obtain ⟨X, E, H', r1, h1⟩ := ck_rounds m (by omega) (l.map encP) x R hg.1 hRr (adjOf m l) hA R.length 0 [x] _ (by omega) hC
              have r1' := RunsTo.loop_in (e0 := kE29 (m : Int) (l.map encP) x (R.map encRd) (.int .i64 0) (.bool true) .undef .undef .undef .undef .undef .undef (.imm .arg 1 (R.map encRd)) (.int .i64 (R.length : Int)) (.int .i64 0) .undef .undef .undef .undef .undef .undef) r1 (b := sub [1, 1, 1, 1, 0, 1, 0, 0] B29) (by kernel_rfl) (by kernel_rfl) (by kernel_rfl)
              have up : ∀ E H, RunsTo Try.prog polV 29 (sub [1, 1, 1, 1] B29) (kE29 (m : Int) (l.map encP) x (R.map encRd) (.int .i64 0) (.bool true) .undef .undef .undef .undef .undef .undef .undef .undef .undef .undef .undef .undef .undef .undef .undef) (([.arr 1 ((adjOf m l).map rowO) true 0, .map [] [] 0, .arr 2 [.agg [.sl 0 0 m none m 1, .map 1]] true 2, .map [] [] 0] : Heap).set 3 (mapB (ins x []) 0)) .ret (polV.keys 29) E H → _ := fun E H t =>
                RunsTo.seq b1 (RunsTo.seq c1 (RunsTo.seq d1 t (c := sub [1, 1, 1] B29) (by kernel_rfl) (by kernel_rfl)) (c := sub [1, 1] B29) (by kernel_rfl) (by kernel_rfl)) (c := sub [1] B29) (by kernel_rfl) (by kernel_rfl)
              rw [List.drop_zero] at h1
              rcases h1 with ⟨kn', hgo, rfl, rfl, hC2⟩ | ⟨hgo, rfl, hE⟩
              · obtain ⟨mx, hk⟩ := hC2.known
                have hln := map_len hk
                have t1 := RunsTo.seq e1 (RunsTo.block_exit (c := sub [1, 1, 1, 1, 0, 1] B29) r1' (by kernel_rfl)) (c := sub [1, 1, 1, 1, 0] B29) (by kernel_rfl) (by kernel_rfl)
                by_cases hlt : (kn'.length : Int) < (m : Int)
                · have y1 := ck_y_0 (m : Int) (l.map encP) x (R.map encRd) H' 3 R.length _ hln hlt
                  rw [hml] at y1
                  have t2 := RunsTo.seq_out y1 (by simp) (c := sub [1, 1, 1, 1, 1] B29) (b := sub [1, 1, 1, 1, 1, 1] B29) (by kernel_rfl)
                  have t3 := RunsTo.seq t1 t2 (c := sub [1, 1, 1, 1] B29) (by kernel_rfl) (by kernel_rfl)
                  refine fin _ _ (up _ _ t3) ?_
                  have : spOk (nrA m (adjOf m l)) (m : Int) x R = false := by rw [spOk, hgo]; exact decide_eq_false (by omega)
                  rw [hF, this]; rfl
                · have y1 := ck_y_1 (m : Int) (l.map encP) x (R.map encRd) H' 3 R.length _ hln hlt
                  have z1 := ck_z_0 (m : Int) (l.map encP) x (R.map encRd) H' 3 R.length
                  rw [hml] at y1 z1
                  have t2 := RunsTo.seq y1 z1 (c := sub [1, 1, 1, 1, 1] B29) (by kernel_rfl) (by kernel_rfl)
                  have t3 := RunsTo.seq t1 t2 (c := sub [1, 1, 1, 1] B29) (by kernel_rfl) (by kernel_rfl)
                  refine fin _ _ (up _ _ t3) ?_
                  have : spOk (nrA m (adjOf m l)) (m : Int) x R = true := by rw [spOk, hgo]; exact decide_eq_true (by omega)
                  rw [hF, this]; rfl
              · have t1 := RunsTo.seq e1 (RunsTo.block_ret (i := 0) (c := sub [1, 1, 1, 1, 0, 1] B29) r1' (by kernel_rfl)) (c := sub [1, 1, 1, 1, 0] B29) (by kernel_rfl) (by kernel_rfl)
                have t3 := RunsTo.seq_out t1 (by simp) (c := sub [1, 1, 1, 1] B29) (b := sub [1, 1, 1, 1, 1] B29) (by kernel_rfl)
                refine fin _ _ (up _ _ t3) ?_
                have : spOk (nrA m (adjOf m l)) (m : Int) x R = false := by rw [spOk, hgo]
                rw [hF, this, hE]; rfl
            · have c1 := ck_c_1 (m : Int) (l.map encP) x (R.map encRd) m ((adjOf m l).map rowO) (v49 _ _ _ false (by rw [hwn]; exact decide_eq_false hx) _)
              refine fin _ _ (RunsTo.seq b1 (RunsTo.seq_out c1 (by simp) (c := sub [1, 1] B29) (b := sub [1, 1, 1] B29) (by kernel_rfl)) (c := sub [1] B29) (by kernel_rfl) (by kernel_rfl)) ?_
              rw [checkF, if_neg (fun h => hx h.2)]; rfl
          · have hf' : farOk (adjOf m l) = false := by cases h : farOk (adjOf m l) with | true => exact absurd h hf | false => rfl
            have b1 := ck_b_1 (m : Int) (l.map encP) x (R.map encRd) m ((adjOf m l).map rowO) (v46_ok hT false hf')
            have c1 := ck_cf_0 (m : Int) (l.map encP) x (R.map encRd) m ((adjOf m l).map rowO)
            refine fin _ _ (RunsTo.seq b1 (RunsTo.seq_out c1 (by simp) (c := sub [1, 1] B29) (b := sub [1, 1, 1] B29) (by kernel_rfl)) (c := sub [1] B29) (by kernel_rfl) (by kernel_rfl)) ?_
            have hTo : treeOk (m : Int) l = false := by rw [treeOk, Int.toNat_natCast, hf', Bool.and_false]
            rw [checkF, if_neg (fun h => by rw [hTo] at h; exact absurd h.1 (by simp))]; rfl
        · have b1 := ck_b_2 n (l.map encP) x (R.map encRd) (v46_bad hT)
          have c1 := ck_cb_0 n (l.map encP) x (R.map encRd)
          refine fin _ _ (RunsTo.seq b1 (RunsTo.seq_out c1 (by simp) (c := sub [1, 1] B29) (b := sub [1, 1, 1] B29) (by kernel_rfl)) (c := sub [1] B29) (by kernel_rfl) (by kernel_rfl)) ?_
          have hTo : treeOk n l = false := by rw [treeOk, decide_eq_false hT, Bool.false_and]
          rw [checkF, if_neg (fun h => by rw [hTo] at h; exact absurd h.1 (by simp))]; rfl
      · cases h
    · cases h
  · cases h
end Go.Proofs.Ytmhfkhlamnapdaa
end
section
open Go Go.HL
namespace Go.Proofs.Ytmhfkhlamnapdaa
set_option maxRecDepth 100000
noncomputable def B53 : Code := Try.f53.body.getD .skip
abbrev env53 (v0 v1 v2 v6 v7 : HV) : Env := [(0, v0), (1, v1), (2, v2), (6, v6), (7, v7)]
theorem nr_a_0 (lc : List HV) (a b : Int) : RunsTo Try.prog pol 53 (sub [0] B53) [(0, .imm .arg 2 lc), (1, .i a), (2, .i b)] [] .normal (pol.keys 53) (env53 (.imm .arg 2 lc) (.i a) (.i b) (.bool false) .undef) [] :=
  RunsTo.hin 0 60 [] fun kf hk => ⟨_, by kernel_rfl, .nil⟩
theorem nr_b_0 (lc : List HV) (a b : Int) : RunsTo Try.prog pol 53 (sub [1, 0, 0] B53) (env53 (.imm .arg 2 lc) (.i a) (.i b) (.bool false) .undef) [] .normal (pol.keys 53) (env53 (.imm .arg 2 lc) (.i a) (.i b) (.bool false) (.i 0)) [] :=
  RunsTo.hin 0 60 [] fun kf hk => ⟨_, by kernel_rfl, .nil⟩
theorem nr_l_0 (lc : List HV) (a b : Int) (j : Nat) (x0 : Int) (x1 : Int) (g0 : (j : Int) < (lc.length : Int)) (g1 : idxV Try.prog 22 (.imm .arg 2 lc) (.i (j : Int)) = some (.vptr (.agg [.i x0, .i x1]))) (g2 : binV Try.prog .eql 33 (.agg [.i x0, .i x1]) (.agg [.i a, .i b]) = some (.bool true)) : RunsTo Try.prog pol 53 (sub [1, 0, 1, 0, 0] B53) (env53 (.imm .arg 2 lc) (.i a) (.i b) (.bool false) (.i (j : Int))) [] .ret (pol.keys 53) (env53 (.imm .arg 2 lc) (.i a) (.i b) (.bool true) (.i (j : Int))) [] :=
  RunsTo.hin 0 60 [⟨2, 3, .bool true, []⟩, ⟨4, 2, .vptr (.agg [.i x0, .i x1]), []⟩, ⟨4, 7, .bool true, []⟩] fun kf hk => ⟨_, by kernel_rfl, (oB [] (decide_eq_true g0) (oP [] g1 (oP [] g2 .nil)))⟩
theorem nr_l_1 (lc : List HV) (a b : Int) (j : Nat) (x0 : Int) (x1 : Int) (x2 : Int) (x3 : Int) (g0 : (j : Int) < (lc.length : Int)) (g1 : idxV Try.prog 22 (.imm .arg 2 lc) (.i (j : Int)) = some (.vptr (.agg [.i x0, .i x1]))) (g2 : binV Try.prog .eql 33 (.agg [.i x0, .i x1]) (.agg [.i a, .i b]) = some (.bool false)) (g3 : idxV Try.prog 22 (.imm .arg 2 lc) (.i (j : Int)) = some (.vptr (.agg [.i x2, .i x3]))) (g4 : binV Try.prog .eql 33 (.agg [.i x2, .i x3]) (.agg [.i b, .i a]) = some (.bool true)) : RunsTo Try.prog pol 53 (sub [1, 0, 1, 0, 0] B53) (env53 (.imm .arg 2 lc) (.i a) (.i b) (.bool false) (.i (j : Int))) [] .ret (pol.keys 53) (env53 (.imm .arg 2 lc) (.i a) (.i b) (.bool true) (.i (j : Int))) [] :=
  RunsTo.hin 0 60 [⟨2, 3, .bool true, []⟩, ⟨4, 2, .vptr (.agg [.i x0, .i x1]), []⟩, ⟨4, 7, .bool false, []⟩, ⟨4, 11, .vptr (.agg [.i x2, .i x3]), []⟩, ⟨4, 16, .bool true, []⟩] fun kf hk => ⟨_, by kernel_rfl, (oB [] (decide_eq_true g0) (oP [] g1 (oP [] g2 (oP [] g3 (oP [] g4 .nil)))))⟩
theorem nr_l_2 (lc : List HV) (a b : Int) (j : Nat) (x0 : Int) (x1 : Int) (x2 : Int) (x3 : Int) (g0 : (j : Int) < (lc.length : Int)) (g1 : idxV Try.prog 22 (.imm .arg 2 lc) (.i (j : Int)) = some (.vptr (.agg [.i x0, .i x1]))) (g2 : binV Try.prog .eql 33 (.agg [.i x0, .i x1]) (.agg [.i a, .i b]) = some (.bool false)) (g3 : idxV Try.prog 22 (.imm .arg 2 lc) (.i (j : Int)) = some (.vptr (.agg [.i x2, .i x3]))) (g4 : binV Try.prog .eql 33 (.agg [.i x2, .i x3]) (.agg [.i b, .i a]) = some (.bool false)) : RunsTo Try.prog pol 53 (sub [1, 0, 1, 0, 0] B53) (env53 (.imm .arg 2 lc) (.i a) (.i b) (.bool false) (.i (j : Int))) [] .normal (pol.keys 53) (env53 (.imm .arg 2 lc) (.i a) (.i b) (.bool false) (.i (IntKind.i64.wrap ((j : Int) + 1)))) [] :=
  RunsTo.hin 0 60 [⟨2, 3, .bool true, []⟩, ⟨4, 2, .vptr (.agg [.i x0, .i x1]), []⟩, ⟨4, 7, .bool false, []⟩, ⟨4, 11, .vptr (.agg [.i x2, .i x3]), []⟩, ⟨4, 16, .bool false, []⟩] fun kf hk => ⟨_, by kernel_rfl, (oB [] (decide_eq_true g0) (oP [] g1 (oP [] g2 (oP [] g3 (oP [] g4 .nil)))))⟩
theorem nr_l_3 (lc : List HV) (a b : Int) (j : Nat)(g0 : ¬ ((j : Int) < (lc.length : Int))) : RunsTo Try.prog pol 53 (sub [1, 0, 1, 0, 0] B53) (env53 (.imm .arg 2 lc) (.i a) (.i b) (.bool false) (.i (j : Int))) [] (.exit 0) (pol.keys 53) (env53 (.imm .arg 2 lc) (.i a) (.i b) (.bool false) (.i (j : Int))) [] :=
  RunsTo.hin 0 60 [⟨2, 3, .bool false, []⟩] fun kf hk => ⟨_, by kernel_rfl, (oB [] (decide_eq_false g0) .nil)⟩
theorem nr_z_0 (lc : List HV) (a b : Int) (j : Nat) : RunsTo Try.prog pol 53 (sub [1, 1] B53) (env53 (.imm .arg 2 lc) (.i a) (.i b) (.bool false) (.i (j : Int))) [] .ret (pol.keys 53) (env53 (.imm .arg 2 lc) (.i a) (.i b) (.bool false) (.i (j : Int))) [] :=
  RunsTo.hin 0 60 [] fun kf hk => ⟨_, by kernel_rfl, .nil⟩
end Go.Proofs.Ytmhfkhlamnapdaa
end
section
open Go Go.HL
namespace Go.Proofs.Ytmhfkhlamnapdaa
def isNear (a b : Int) (p : Int × Int) : Bool := decide (p = (a, b) ∨ p = (b, a))
theorem pair_eql (a b c d : Int) : binV Try.prog .eql 33 (.agg [.int .i64 a, .int .i64 b]) (.agg [.int .i64 c, .int .i64 d]) = some (.bool (decide ((a, b) = (c, d)))) := by
  have h1 : plainCells Try.prog 33 [.int .i64 a, .int .i64 b] = true := by kernel_rfl
  have h2 : Try.prog.eqGuardType Try.prog.depth 33 = false := by kernel_rfl
  have h3 : tyAgg Try.prog 33 = true := by kernel_rfl
  simp only [binV, h1, h2, h3, aggEq, scEq]
  simp only [Bool.not_false, Bool.and_self, if_true, Bool.and_true, Prod.mk.injEq]
  by_cases e1 : a = c <;> by_cases e2 : b = d <;> simp [e1, e2]
theorem near_loop (l : List (Int × Int)) (hl : l.length ≤ 1000) (a b : Int) : ∀ (d j : Nat), j + d = l.length →
    ∃ x E, RunsTo Try.prog pol 53 (sub [1, 0, 1, 0] B53) (env53 (.imm .arg 2 (l.map encP)) (.int .i64 a) (.int .i64 b) (.bool false) (.int .i64 (j : Int))) [] x (pol.keys 53) E [] ∧
      (((l.drop j).any (isNear a b) = false ∧ x = .exit 0 ∧ E = env53 (.imm .arg 2 (l.map encP)) (.int .i64 a) (.int .i64 b) (.bool false) (.int .i64 (l.length : Int))) ∨ ((l.drop j).any (isNear a b) = true ∧ x = .ret ∧ E.get 6 = .bool true)) := by
  intro d
  induction d with
  | zero =>
    intro j hj
    have hj : j = l.length := by omega
    subst hj
    exact ⟨_, _, RunsTo.loop_out (nr_l_3 (l.map encP) a b l.length (by simp)) (by simp) (by kernel_rfl) (by kernel_rfl), .inl ⟨by simp, rfl, rfl⟩⟩
  | succ d ih =>
    intro j hj
    have hjl : j < l.length := by omega
    rw [List.drop_eq_getElem_cons hjl, List.any_cons]
    have g1 : idxV Try.prog 22 (.imm .arg 2 (l.map encP)) (.int .i64 (j : Int)) = some (.vptr (.agg [.int .i64 l[j].1, .int .i64 l[j].2])) := idx_imm u22 z33 (by omega) (by rw [Int.toNat_natCast, List.getElem?_map, List.getElem?_eq_getElem hjl]; rfl)
    have g0 : (j : Int) < ((l.map encP).length : Int) := by simp; omega
    by_cases h1 : (l[j].1, l[j].2) = (a, b)
    · have e : isNear a b l[j] = true := decide_eq_true (.inl h1)
      rw [e, Bool.true_or]
      exact ⟨_, _, RunsTo.loop_out (nr_l_0 (l.map encP) a b j _ _ g0 g1 (by rw [pair_eql, decide_eq_true h1])) (by simp) (by kernel_rfl) (by kernel_rfl), .inr ⟨rfl, rfl, rfl⟩⟩
    · by_cases h2 : (l[j].1, l[j].2) = (b, a)
      · have e : isNear a b l[j] = true := decide_eq_true (.inr h2)
        rw [e, Bool.true_or]
        exact ⟨_, _, RunsTo.loop_out (nr_l_1 (l.map encP) a b j _ _ _ _ g0 g1 (by rw [pair_eql, decide_eq_false h1]) g1 (by rw [pair_eql, decide_eq_true h2])) (by simp) (by kernel_rfl) (by kernel_rfl), .inr ⟨rfl, rfl, rfl⟩⟩
      · have e : isNear a b l[j] = false := decide_eq_false (fun h => h.elim h1 h2)
        rw [e, Bool.false_or]
        obtain ⟨x, E, r, h⟩ := ih (j + 1) (by omega)
        have s1 := nr_l_2 (l.map encP) a b j _ _ _ _ g0 g1 (by rw [pair_eql, decide_eq_false h1]) g1 (by rw [pair_eql, decide_eq_false h2])
        rw [wrap_succ (by omega)] at s1
        exact ⟨x, E, RunsTo.loop s1 (by kernel_rfl) rfl r rfl (by kernel_rfl) (by kernel_rfl), h⟩
def near53 : List HV → Option HV
  | [.imm .arg 2 lc, .int .i64 a, .int .i64 b] => match mapO decP lc with | some l => if l.length ≤ 1000 then some (.bool (l.any (isNear a b))) else none | none => none
  | _ => none
theorem res53 : Try.f53.results.toList = [.tmp 6] := by kernel_rfl
theorem near_ok : PrimOk Try.prog 53 near53 := by
  refine primOk_pure (pol := pol) (fn := Try.f53) (cd := B53) follows_mixed sound (by kernel_rfl) (by kernel_rfl) (fnok pol.prim _ _ (by kernel_rfl)) (by kernel_rfl) ?_
  intro args res h
  unfold near53 at h
  split at h
  · rename_i lc a b
    split at h
    · rename_i l hlc
      split at h
      · rename_i hl
        cases h
        rw [mapO_inv decP_inv hlc]
        have a1 := nr_a_0 (l.map encP) a b
        have b1 := nr_b_0 (l.map encP) a b
        obtain ⟨x, E, r, h⟩ := near_loop l hl a b l.length 0 (by omega)
        rw [List.drop_zero] at h
        rcases h with ⟨e, rfl, rfl⟩ | ⟨e, rfl, hE⟩
        · have t1 := RunsTo.seq b1 (RunsTo.block_exit (c := sub [1, 0, 1] B53) r (by kernel_rfl)) (c := sub [1, 0] B53) (by kernel_rfl) (by kernel_rfl)
          have t2 := RunsTo.seq t1 (nr_z_0 (l.map encP) a b l.length) (c := sub [1] B53) (by kernel_rfl) (by kernel_rfl)
          have t3 := RunsTo.seq a1 t2 (c := B53) (by kernel_rfl) (by kernel_rfl)
          rw [e]
          exact ⟨_, _, _, _, t3, by simp, by simp only [resultsV, res53]; rfl, rfl⟩
        · have t1 := RunsTo.seq b1 (RunsTo.block_ret (i := 0) (c := sub [1, 0, 1] B53) r (by kernel_rfl)) (c := sub [1, 0] B53) (by kernel_rfl) (by kernel_rfl)
          have t2 := RunsTo.seq_out t1 (by simp) (c := sub [1] B53) (b := sub [1, 1] B53) (by kernel_rfl)
          have t3 := RunsTo.seq a1 t2 (c := B53) (by kernel_rfl) (by kernel_rfl)
          rw [e]
          exact ⟨_, _, _, .bool true, t3, by simp, by simp only [resultsV, res53, mapO, resultV, hE], rfl⟩
      · cases h
    · cases h
  · cases h
end Go.Proofs.Ytmhfkhlamnapdaa
end
section
open Go Go.HL
namespace Go.Proofs.Ytmhfkhlamnapdaa
def primY (g : FuncId) : Option (List HV → Option HV) := if g == 53 then some near53 else none
def polY : Pol := { pol with prim := primY }
theorem primY_ok (g : FuncId) (f : List HV → Option HV) (h : primY g = some f) : PrimOk Try.prog g f := by
  unfold primY at h
  split at h
  · rename_i hg; cases h; rw [eq_of_beq hg]; exact near_ok
  · cases h
theorem soundY (n : Nat) : CallSound Try.prog (callN Try.prog polY n) := sound_prim primY primY_ok n
end Go.Proofs.Ytmhfkhlamnapdaa
end
section
open Go Go.HL
namespace Go.Proofs.Ytmhfkhlamnapdaa
set_option maxRecDepth 100000
def nan70 : List HV → Option HV | [.int .i64 _] => some (.bool false) | _ => none
def polNa : Pol := { pol with prim := fun g => if g == 70 then some nan70 else none }
noncomputable def B70 : Code := Try.f70.body.getD .skip
abbrev env70 (v0 v2 : HV) : Env := [(0, v0), (2, v2)]
theorem nan_0 (x : Int)(g0 : x = x) : RunsTo Try.prog pol 70 (sub [] B70) [(0, .i x)] [] .ret (pol.keys 70) (env70 (.i x) (.bool false)) [] :=
  RunsTo.hin 0 60 [⟨1, 2, .bool false, []⟩] fun kf hk => ⟨_, by kernel_rfl, (oB [] (congrArg not (decide_eq_true g0)) .nil)⟩
noncomputable def B68 : Code := Try.f68.body.getD .skip
abbrev env68 (v0 v1 v4 v5 v6 : HV) : Env := [(0, v0), (1, v1), (4, v4), (5, v5), (6, v6)]
theorem cmp_0 (x y : Int)(g0 : ∀ kf, callN Try.prog polNa (kf + 1) 70 [.i x] [] = some (.bool false, [])) (g1 : ∀ kf, callN Try.prog polNa (kf + 1) 70 [.i y] [] = some (.bool false, [])) (g2 : x < y) : RunsTo Try.prog polNa 68 (sub [] B68) [(0, .i x), (1, .i y)] [] .ret (polNa.keys 68) (env68 (.i x) (.i y) (.i (-1)) (.bool false) (.bool false)) [] :=
  RunsTo.hin 0 60 [⟨1, 1, .bool false, []⟩, ⟨2, 1, .bool false, []⟩, ⟨9, 2, .bool true, []⟩] fun kf hk => ⟨_, by kernel_rfl, (oC (g0 kf) (oC (g1 kf) (oB [] (decide_eq_true g2) .nil)))⟩
theorem cmp_1 (x y : Int)(g0 : ∀ kf, callN Try.prog polNa (kf + 1) 70 [.i x] [] = some (.bool false, [])) (g1 : ∀ kf, callN Try.prog polNa (kf + 1) 70 [.i y] [] = some (.bool false, [])) (g2 : ¬ (x < y)) (g3 : y < x) : RunsTo Try.prog polNa 68 (sub [] B68) [(0, .i x), (1, .i y)] [] .ret (polNa.keys 68) (env68 (.i x) (.i y) (.i 1) (.bool false) (.bool false)) [] :=
  RunsTo.hin 0 60 [⟨1, 1, .bool false, []⟩, ⟨2, 1, .bool false, []⟩, ⟨9, 2, .bool false, []⟩, ⟨11, 2, .bool true, []⟩] fun kf hk => ⟨_, by kernel_rfl, (oC (g0 kf) (oC (g1 kf) (oB [] (decide_eq_false g2) (oB [] (decide_eq_true g3) .nil))))⟩
theorem cmp_2 (x y : Int)(g0 : ∀ kf, callN Try.prog polNa (kf + 1) 70 [.i x] [] = some (.bool false, [])) (g1 : ∀ kf, callN Try.prog polNa (kf + 1) 70 [.i y] [] = some (.bool false, [])) (g2 : ¬ (x < y)) (g3 : ¬ (y < x)) : RunsTo Try.prog polNa 68 (sub [] B68) [(0, .i x), (1, .i y)] [] .ret (polNa.keys 68) (env68 (.i x) (.i y) (.i 0) (.bool false) (.bool false)) [] :=
  RunsTo.hin 0 60 [⟨1, 1, .bool false, []⟩, ⟨2, 1, .bool false, []⟩, ⟨9, 2, .bool false, []⟩, ⟨11, 2, .bool false, []⟩] fun kf hk => ⟨_, by kernel_rfl, (oC (g0 kf) (oC (g1 kf) (oB [] (decide_eq_false g2) (oB [] (decide_eq_false g3) .nil))))⟩
noncomputable def B61 : Code := Try.f61.body.getD .skip
abbrev env61 (v0 v2 : HV) : Env := [(0, v0), (2, v2)]
theorem cl_1 (l : List HV)(g0 : nilTest Try.prog .eql 24 (.imm .arg 1 l) = some (.bool false)) (g1 : appV [] 1 8 (.imm .lit 1 []) l = some (.sl 0 0 l.length none l.length 1, [.arr 1 l true 0])) : RunsTo Try.prog pol 61 (sub [] B61) [(0, .imm .arg 1 l)] [] .ret (pol.keys 61) (env61 (.imm .arg 1 l) (.sl 0 0 l.length none l.length 1)) [.arr 1 l true 0] :=
  RunsTo.hin 0 60 [⟨1, 1, .bool false, []⟩, ⟨3, 2, .sl 0 0 l.length none l.length 1, [.arr 1 l true 0]⟩] fun kf hk => ⟨_, by kernel_rfl, (oP [] g0 (oC (g1) .nil))⟩
end Go.Proofs.Ytmhfkhlamnapdaa
end
section
open Go Go.HL
namespace Go.Proofs.Ytmhfkhlamnapdaa
theorem res70 : Try.f70.results.toList = [.tmp 2] := by kernel_rfl
theorem res68 : Try.f68.results.toList = [.tmp 4] := by kernel_rfl
theorem res61 : Try.f61.results.toList = [.tmp 2] := by kernel_rfl
theorem nan_ok : PrimOk Try.prog 70 nan70 := by
  refine primOk_pure (pol := pol) (fn := Try.f70) (cd := B70) follows_mixed sound (by kernel_rfl) (by kernel_rfl) (fnok pol.prim _ _ (by kernel_rfl)) (by kernel_rfl) ?_
  intro args res h
  unfold nan70 at h
  split at h
  · rename_i x
    cases h
    exact ⟨_, _, _, _, nan_0 x rfl, by simp, by simp only [resultsV, res70]; rfl, rfl⟩
  · cases h
theorem soundNa (n : Nat) : CallSound Try.prog (callN Try.prog polNa n) := sound_prim _ (fun g f h => by
  split at h
  · rename_i hg
    cases h
    rw [eq_of_beq hg]
    exact nan_ok
  · cases h) n
def cmpI (x y : Int) : Int := if x < y then -1 else if y < x then 1 else 0
def compare68 : List HV → Option HV | [.int .i64 x, .int .i64 y] => some (.int .i64 (cmpI x y)) | _ => none
theorem compare_ok : PrimOk Try.prog 68 compare68 := by
  refine primOk_pure (pol := polNa) (fn := Try.f68) (cd := B68) follows_mixed soundNa (by kernel_rfl) (by kernel_rfl) (fnok polNa.prim _ _ (by kernel_rfl)) (by kernel_rfl) ?_
  intro args res h
  unfold compare68 at h
  split at h
  · rename_i x y
    cases h
    have c : ∀ x k, callN Try.prog polNa (k + 1) 70 [.int .i64 x] [] = some (.bool false, []) := fun x k => by
      rw [prim_call (pol := polNa) (g := 70) (F := nan70) (by kernel_rfl) (rs := [.int .i64 x]) rfl (res := .bool false) rfl]; rfl
    unfold cmpI
    by_cases h1 : x < y
    · rw [if_pos h1]
      exact ⟨_, _, _, _, cmp_0 x y (c x) (c y) h1, by simp, by simp only [resultsV, res68]; rfl, rfl⟩
    · rw [if_neg h1]
      by_cases h2 : y < x
      · rw [if_pos h2]
        exact ⟨_, _, _, _, cmp_1 x y (c x) (c y) h1 h2, by simp, by simp only [resultsV, res68]; rfl, rfl⟩
      · rw [if_neg h2]
        exact ⟨_, _, _, _, cmp_2 x y (c x) (c y) h1 h2, by simp, by simp only [resultsV, res68]; rfl, rfl⟩
  · cases h
def clone61 : List HV → Option HV
  | [.imm .arg 1 la] => (match mapO decI la with | some l => if l.length ≤ 1000 then some (.own 1 (l.map encI)) else none | none => none)
  | _ => none
theorem clone_run (v : Int) (l : List Int) (hl : (v :: l).length ≤ 1000) : ∃ k, callN Try.prog pol k 61 [.imm .arg 1 ((v :: l).map encI)] [] = some (.sl 0 0 (v :: l).length none (v :: l).length 1, [bI (v :: l)]) := by
  have hb : ∀ (l : List Int), bndL (l.map encI) = 0 := by
    intro l
    induction l with
    | nil => rfl
    | cons a l ih => simp only [List.map_cons, bndL, ih, encI, bnd]; rfl
  have hap : appV [] 1 8 (.imm .lit 1 []) ((v :: l).map encI) = some (.sl 0 0 ((v :: l).map encI).length none ((v :: l).map encI).length 1, [.arr 1 ((v :: l).map encI) true 0]) := by
    have hne : (v :: l).map encI ≠ [] := by simp
    simp only [appV, if_neg hne]
    rw [if_pos ⟨.inr trivial, by simp only [List.length_nil, List.length_map, roomMax]; omega⟩, hb]
    simp
  have hnt : nilTest Try.prog .eql 24 (.imm .arg 1 ((v :: l).map encI)) = some (.bool false) := by
    have hu : Try.prog.underlying 24 = some (.slice 3) := u24b
    simp only [nilTest, hu, knownNil, List.map_cons, nilOp]
  obtain ⟨m, h⟩ := cl_1 ((v :: l).map encI) hnt hap
  obtain ⟨e1, g1, g2⟩ := h m m (Nat.le_refl m) (Nat.le_refl m)
  refine ⟨m + 1, ?_⟩
  have hrc := resCell_sl (H := [bI (v :: l)]) (no := [0]) (b := 0) (k := 1) (m := (v :: l).length) (cap := none) (els := (v :: l).map encI) rfl (by simp) (mapO_self (fun r => frz_int 4 r) _)
  have hown : ownedAll [bI (v :: l)] false (.sl 0 0 (v :: l).length none (v :: l).length 1) = [0] := rfl
  have hpr : pureRun Try.prog pol (evC Try.prog pol (callN Try.prog pol m) m) 61 Try.f61 B61 [.imm .arg 1 ((v :: l).map encI)] = some (.own 1 ((v :: l).map encI)) := by
    unfold pureRun
    have hg1 : evC Try.prog pol (callN Try.prog pol m) m 61 B61 (args0 [.imm .arg 1 ((v :: l).map encI)]) [] = some (.ret, e1, [bI (v :: l)]) := g1
    rw [hg1]
    have hres : resultsV Try.prog Try.f61 e1 [bI (v :: l)] = some (.sl 0 0 (v :: l).length none (v :: l).length 1) := by
      have := resultsV_restr (P := Try.prog) (fn := Try.f61) (K := pol.keys 61) (e := e1) (H := [bI (v :: l)]) (by kernel_rfl)
      rw [← this, g2]
      simp only [resultsV, res61, mapO, resultV]
      simp [Env.get]
    simp only [hres]
    show toRes _ false _ = _
    simp only [toRes, hown, List.nodup_cons, List.not_mem_nil, not_false_eq_true, List.nodup_nil, and_self, if_true, resVal, hrc]
  have hp : pol.prim 61 = none := by kernel_rfl
  have hs : pol.shared 61 = false := by kernel_rfl
  have hf : Try.prog.funcs[61]? = some Try.f61 := by kernel_rfl
  have hbd : Try.f61.body = some B61 := by kernel_rfl
  have ha : toArg [] 6 (.imm .arg 1 ((v :: l).map encI)) = some (.imm .arg 1 ((v :: l).map encI)) := by
    show argP (.imm .arg 1 ((v :: l).map encI)) = _
    simp only [argP, argP_ints']
  have hno : ((v :: l).map encI).any isOwn = false := by
    rw [List.any_eq_false]
    intro v hv
    obtain ⟨k, _, rfl⟩ := List.mem_map.1 hv
    simp [encI, isOwn]
  simp only [callN, doCall, hp, hf, hbd, hs, Bool.false_eq_true, if_false, mapO, ha]
  have hpc : pureCall Try.prog pol (evC Try.prog pol (callN Try.prog pol m) m) 61 Try.f61 B61 [.imm .arg 1 ((v :: l).map encI)] = some (.own 1 ((v :: l).map encI)) := by
    unfold pureCall
    rw [if_pos (by kernel_rfl)]
    simp only [List.map_cons] at hpr ⊢
    exact hpr
  rw [hpc]
  simp only [recv, recvVal, recvCell, hno, List.length_map]
  rfl
theorem clone_ok : PrimOk Try.prog 61 clone61 := by
  refine primOk_of (pol := pol) sound (by kernel_rfl) fun args res h => ?_
  unfold clone61 at h
  split at h
  · rename_i la
    split at h
    · rename_i l hla
      split at h
      · rename_i hl
        cases h
        rw [mapO_inv decI_inv hla]
        cases l with
        | nil => exact ⟨30, .sl 0 0 0 none 0 1, [.arr 1 [] true 0], false, by kernel_rfl, rfl⟩
        | cons v l =>
          obtain ⟨k, hk⟩ := clone_run v l hl
          refine ⟨k, _, _, false, hk, ?_⟩
          have hrc := resCell_sl (H := [bI (v :: l)]) (no := [0]) (b := 0) (k := 1) (m := (v :: l).length) (cap := none) (els := (v :: l).map encI) rfl (by simp) (mapO_self (fun r => frz_int 4 r) _)
          have hown : ownedAll [bI (v :: l)] false (.sl 0 0 (v :: l).length none (v :: l).length 1) = [0] := rfl
          simp only [toRes, hown, List.nodup_cons, List.not_mem_nil, not_false_eq_true, List.nodup_nil, and_self, if_true, resVal, hrc]
      · cases h
    · cases h
  · cases h
end Go.Proofs.Ytmhfkhlamnapdaa
end
section
open Go Go.HL
namespace Go.Proofs.Ytmhfkhlamnapdaa
def primS (g : FuncId) : Option (List HV → Option HV) :=
  if g == 49 then some withinF else if g == 46 then some newTree46 else if g == 50 then some far50 else if g == 52 then some contains52 else if g == 61 then some clone61 else if g == 68 then some compare68 else none
def polS : Pol := { pol with prim := primS }
theorem primS_ok (g : FuncId) (f : List HV → Option HV) (h : primS g = some f) : PrimOk Try.prog g f := by
  unfold primS at h
  split at h
  · rename_i hg; cases h; rw [eq_of_beq hg]; exact within_ok
  split at h
  · rename_i hg; cases h; rw [eq_of_beq hg]; exact newTree_ok
  split at h
  · rename_i hg; cases h; rw [eq_of_beq hg]; exact far_ok
  split at h
  · rename_i hg; cases h; rw [eq_of_beq hg]; exact contains_ok
  split at h
  · rename_i hg; cases h; rw [eq_of_beq hg]; exact clone_ok
  split at h
  · rename_i hg; cases h; rw [eq_of_beq hg]; exact compare_ok
  · cases h
theorem soundS (n : Nat) : CallSound Try.prog (callN Try.prog polS n) := sound_prim primS primS_ok n
abbrev Cl (g : FuncId) (args : List HV) (H : Heap) (r : HV) (H' : Heap) : Prop := CallsTo (P := Try.prog) (pol := polS) g args H r H'
theorem CallsTo.shared {P : Program} {pol : Pol} {g : FuncId} {fn : Func} {cd : Code} {args : List HV} {x : X} {E : Env} {H H' : Heap} {v : HV} (hp : pol.prim g = none) (hf : P.funcs[g]? = some fn) (hb : fn.body = some cd) (hs : pol.shared g = true)
    (hrun : RunsTo P pol g cd (args0 args) H x (pol.keys g) E H') (hres : (fn.results.toList.all fun r => match r with | .tmp t => (pol.keys g).contains t | .cell t _ => (pol.keys g).contains t) = true) (hx : ∀ i, x ≠ .exit i) (hv : resultsV P fn E H' = some v) :
    CallsTo (P := P) (pol := pol) g args H v (gc H.length (bnd v) H') := by
  obtain ⟨m, h⟩ := hrun
  refine ⟨m + 1, fun k hk => ?_⟩
  obtain ⟨k, rfl⟩ : ∃ n', k = n' + 1 := ⟨k - 1, by omega⟩
  obtain ⟨e1, g1, g2⟩ := h k k (by omega) (by omega)
  subst g2
  rw [resultsV_restr hres] at hv
  simp only [callN, doCall, hp, hf, hb, hs, if_true, sharedCall, g1]
  cases x with
  | exit i => exact absurd rfl (hx i)
  | normal => simp only [hv]
  | ret => simp only [hv]
theorem Cl.from {g : FuncId} {args : List HV} {H H' : Heap} {r : HV} (h : Cl g args H r H') : ∃ N, ∀ kf, N ≤ kf → callN Try.prog polS (kf + 1) g args H = some (r, H') := by
  obtain ⟨m, h⟩ := h
  exact ⟨m, fun kf hk => h (kf + 1) (by omega)⟩
structure Fr (H H' : Heap) : Prop where
  len : H'.length = H.length
  same : ∀ k, k ≠ 1 → H'[k]? = H[k]?
theorem Fr.refl (H : Heap) : Fr H H := ⟨rfl, fun _ _ => rfl⟩
theorem Fr.trans {H H' H'' : Heap} (h : Fr H H') (h' : Fr H' H'') : Fr H H'' := ⟨h'.len.trans h.len, fun k hk => (h'.same k hk).trans (h.same k hk)⟩
structure Fd (db : Nat) (H H' : Heap) : Prop where
  len : H'.length = H.length
  same : ∀ k, k ≠ 1 → k ≠ db → H'[k]? = H[k]?
theorem Fd.refl (db : Nat) (H : Heap) : Fd db H H := ⟨rfl, fun _ _ _ => rfl⟩
theorem Fd.trans {db : Nat} {H H' H'' : Heap} (h : Fd db H H') (h' : Fd db H' H'') : Fd db H H'' := ⟨h'.len.trans h.len, fun k hk hd => (h'.same k hk hd).trans (h.same k hk hd)⟩
theorem Fr.fd {db : Nat} {H H' : Heap} (h : Fr H H') : Fd db H H' := ⟨h.len, fun k hk _ => h.same k hk⟩
structure Cmp (db : Nat) (cp : HV) (f : Int → Int) (dom : Int → Prop) (K : Heap → Prop) : Prop where
  one : db ≠ 1
  call : ∀ H x y, K H → dom x → dom y → ∃ c H', Cl 67 [.int .i64 x, .int .i64 y, cp] H (.int .i64 c) H' ∧ (c < 0 ↔ f y < f x) ∧ K H' ∧ Fr H H'
  put : ∀ H (l l' : List Int), K H → H[db]? = some (bI l) → l'.length = l.length → K (H.set db (bI l'))
structure Ls (db : Nat) (K : Heap → Prop) (dom : Int → Prop) (l : List Int) (H : Heap) : Prop where
  blk : H[db]? = some (bI l)
  ok : K H
  all : ∀ v ∈ l, dom v
theorem Ls.fr {db : Nat} {K : Heap → Prop} {dom : Int → Prop} {l : List Int} {H H' : Heap} (h : Ls db K dom l H) (h1 : db ≠ 1) (hK : K H') (hf : Fr H H') : Ls db K dom l H' := ⟨by rw [hf.same db h1]; exact h.blk, hK, h.all⟩
def swp (l : List Int) (i j : Nat) : List Int := (l.set i (l.getD j 0)).set j (l.getD i 0)
theorem swp_len (l : List Int) (i j : Nat) : (swp l i j).length = l.length := by simp [swp]
theorem swp_perm {l : List Int} {i j : Nat} (hi : i < l.length) (hj : j < l.length) : (swp l i j).Perm l := by
  have h := Array.swap_perm (xs := l.toArray) (i := i) (j := j) (by simpa using hi) (by simpa using hj)
  have h2 := h.toList
  rw [Array.toList_swap] at h2
  simpa [swp, List.getD, List.getElem?_eq_getElem hi, List.getElem?_eq_getElem hj] using h2
theorem swp_get {l : List Int} {i j : Nat} (hi : i < l.length) (hj : j < l.length) (k : Nat) : (swp l i j).getD k 0 = if k = j then l.getD i 0 else if k = i then l.getD j 0 else l.getD k 0 := by
  unfold swp
  rw [getD_set _ _ _ _ (by simpa using hj), getD_set _ _ _ _ hi]
  by_cases e : j = k
  · subst e; simp
  · have e' : ¬ k = j := fun h => e h.symm
    rw [if_neg e, if_neg e']
    by_cases e2 : i = k
    · subst e2; simp
    · rw [if_neg e2, if_neg (fun h => e2 h.symm)]
theorem Ls.swp_ {db : Nat} {K : Heap → Prop} {dom : Int → Prop} {l : List Int} {H : Heap} {cp : HV} {f : Int → Int} (h : Ls db K dom l H) (hc : Cmp db cp f dom K) {i j : Nat} (hi : i < l.length) (hj : j < l.length) :
    storeV Try.prog H 3 (.ptr db i 0 l.length) (.int .i64 (l.getD j 0)) = some (H.set db (bI (l.set i (l.getD j 0)))) ∧
    storeV Try.prog (H.set db (bI (l.set i (l.getD j 0)))) 3 (.ptr db j 0 l.length) (.int .i64 (l.getD i 0)) = some (H.set db (bI (swp l i j))) ∧ Ls db K dom (swp l i j) (H.set db (bI (swp l i j))) ∧ Fd db H (H.set db (bI (swp l i j))) := by
  have hlt : db < H.length := lt_of_get h.blk
  have h1 := store_out h.blk hi (l.getD j 0)
  have hb : (H.set db (bI (l.set i (l.getD j 0))))[db]? = some (bI (l.set i (l.getD j 0))) := List.getElem?_set_self hlt
  have h2 := store_out hb (y := j) (by simpa using hj) (l.getD i 0)
  rw [List.length_set, List.set_set] at h2
  refine ⟨h1, h2, ⟨List.getElem?_set_self hlt, hc.put H l _ h.ok h.blk (swp_len l i j), fun v hv => h.all v ?_⟩, by simp, fun k _ hd => by rw [List.getElem?_set_ne (fun e => hd e.symm)]⟩
  exact (swp_perm hi hj).mem_iff.1 hv
theorem Ls.load {db : Nat} {K : Heap → Prop} {dom : Int → Prop} {l : List Int} {H : Heap} (h : Ls db K dom l H) {i : Nat} (hi : i < l.length) : loadV Try.prog H 3 (.ptr db i 0 l.length) = some (.int .i64 (l.getD i 0)) := load_out h.blk hi
theorem Ls.dom_ {db : Nat} {K : Heap → Prop} {dom : Int → Prop} {l : List Int} {H : Heap} (h : Ls db K dom l H) {i : Nat} (hi : i < l.length) : dom (l.getD i 0) := by
  have : l.getD i 0 = l[i] := by simp [List.getD, List.getElem?_eq_getElem hi]
  rw [this]; exact h.all _ (List.getElem_mem hi)
theorem gc_eq {H H' : Heap} (r : Nat) (h : H'.length = H.length) : gc H.length r H' = H' := gc_same (by omega)
end Go.Proofs.Ytmhfkhlamnapdaa
end
section
open Go Go.HL
namespace Go.Proofs.Ytmhfkhlamnapdaa
set_option maxRecDepth 100000
noncomputable def B69 : Code := Try.f69.body.getD .skip
abbrev env69 (v0 v1 v2 v6 v7 v8 v9 : HV) : Env := [(0, v0), (1, v1), (2, v2), (6, v6), (7, v7), (8, v8), (9, v9)]
theorem st_a_0 (N : Nat) (db n : Nat) (m : Int) (cp : HV) (H : Heap) : RunsTo Try.prog polS 69 (sub [0] B69) [(0, .sl db 0 n none n 1), (1, .i m), (2, .func 67 [] [cp])] H .normal (polS.keys 69) (env69 (.sl db 0 n none n 1) (.i m) (.func 67 [] [cp]) (.i 20) .undef .undef .undef) H :=
  RunsTo.hin N 60 [] fun kf hk => ⟨_, by kernel_rfl, .nil⟩
theorem st_b_0 (N : Nat) (db n : Nat) (m : Int) (cp : HV) (H : Heap) (w : Int) : RunsTo Try.prog polS 69 (sub [1, 0] B69) (env69 (.sl db 0 n none n 1) (.i m) (.func 67 [] [cp]) (.i w) .undef .undef .undef) H .normal (polS.keys 69) (env69 (.sl db 0 n none n 1) (.i m) (.func 67 [] [cp]) (.i w) (.i 0) (.i w) .undef) H :=
  RunsTo.hin N 60 [] fun kf hk => ⟨_, by kernel_rfl, .nil⟩
theorem st_c_0 (N : Nat) (db n : Nat) (m : Int) (cp : HV) (H : Heap) (w a b : Int) (H0 : Heap) (g0 : b ≤ m) (g1 : ∀ kf, N ≤ kf → callN Try.prog polS (kf + 1) 71 [.sl db 0 n none n 1, .i a, .i b, .func 67 [] [cp]] H = some (.tuple [], H0)) : RunsTo Try.prog polS 69 (sub [1, 1, 0, 0, 0] B69) (env69 (.sl db 0 n none n 1) (.i m) (.func 67 [] [cp]) (.i w) (.i a) (.i b) .undef) H .normal (polS.keys 69) (env69 (.sl db 0 n none n 1) (.i m) (.func 67 [] [cp]) (.i w) (.i b) (.i (IntKind.i64.wrap (b + w))) .undef) H0 :=
  RunsTo.hin N 60 [⟨2, 2, .bool true, H⟩, ⟨3, 4, .tuple [], H0⟩] fun kf hk => ⟨_, by kernel_rfl, (oB H (decide_eq_true g0) (oC (g1 kf (by omega)) .nil))⟩
theorem st_c_1 (N : Nat) (db n : Nat) (m : Int) (cp : HV) (H : Heap) (w a b : Int)(g0 : ¬ (b ≤ m)) : RunsTo Try.prog polS 69 (sub [1, 1, 0, 0, 0] B69) (env69 (.sl db 0 n none n 1) (.i m) (.func 67 [] [cp]) (.i w) (.i a) (.i b) .undef) H (.exit 0) (polS.keys 69) (env69 (.sl db 0 n none n 1) (.i m) (.func 67 [] [cp]) (.i w) (.i a) (.i b) .undef) H :=
  RunsTo.hin N 60 [⟨2, 2, .bool false, H⟩] fun kf hk => ⟨_, by kernel_rfl, (oB H (decide_eq_false g0) .nil)⟩
theorem st_d_0 (N : Nat) (db n : Nat) (m : Int) (cp : HV) (H : Heap) (w a b : Int) (H0 : Heap) (g0 : ∀ kf, N ≤ kf → callN Try.prog polS (kf + 1) 71 [.sl db 0 n none n 1, .i a, .i m, .func 67 [] [cp]] H = some (.tuple [], H0)) : RunsTo Try.prog polS 69 (sub [1, 1, 1, 0] B69) (env69 (.sl db 0 n none n 1) (.i m) (.func 67 [] [cp]) (.i w) (.i a) (.i b) .undef) H .normal (polS.keys 69) (env69 (.sl db 0 n none n 1) (.i m) (.func 67 [] [cp]) (.i w) (.i a) (.i b) .undef) H0 :=
  RunsTo.hin N 60 [⟨6, 4, .tuple [], H0⟩] fun kf hk => ⟨_, by kernel_rfl, (oC (g0 kf (by omega)) .nil)⟩
theorem st_e_0 (N : Nat) (db n : Nat) (m : Int) (cp : HV) (H : Heap) (w : Int) (v7 v8 : HV)(g0 : w < m) : RunsTo Try.prog polS 69 (sub [1, 1, 1, 1, 0, 0, 0] B69) (env69 (.sl db 0 n none n 1) (.i m) (.func 67 [] [cp]) (.i w) v7 v8 .undef) H .normal (polS.keys 69) (env69 (.sl db 0 n none n 1) (.i m) (.func 67 [] [cp]) (.i w) v7 v8 .undef) H :=
  RunsTo.hin N 60 [⟨7, 2, .bool true, H⟩] fun kf hk => ⟨_, by kernel_rfl, (oB H (decide_eq_true g0) .nil)⟩
theorem st_e_1 (N : Nat) (db n : Nat) (m : Int) (cp : HV) (H : Heap) (w : Int) (v7 v8 : HV)(g0 : ¬ (w < m)) : RunsTo Try.prog polS 69 (sub [1, 1, 1, 1, 0, 0, 0] B69) (env69 (.sl db 0 n none n 1) (.i m) (.func 67 [] [cp]) (.i w) v7 v8 .undef) H (.exit 2) (polS.keys 69) (env69 (.sl db 0 n none n 1) (.i m) (.func 67 [] [cp]) (.i w) v7 v8 .undef) H :=
  RunsTo.hin N 60 [⟨7, 2, .bool false, H⟩] fun kf hk => ⟨_, by kernel_rfl, (oB H (decide_eq_false g0) .nil)⟩
theorem st_f_0 (N : Nat) (db n : Nat) (m : Int) (cp : HV) (H : Heap) (w : Int) (v7 v8 : HV) : RunsTo Try.prog polS 69 (sub [1, 1, 1, 1, 0, 0, 1, 0, 0] B69) (env69 (.sl db 0 n none n 1) (.i m) (.func 67 [] [cp]) (.i w) v7 v8 .undef) H .normal (polS.keys 69) (env69 (.sl db 0 n none n 1) (.i m) (.func 67 [] [cp]) (.i w) (.i 0) (.i (IntKind.i64.wrap (2 * w))) .undef) H :=
  RunsTo.hin N 60 [] fun kf hk => ⟨_, by kernel_rfl, .nil⟩
theorem st_g_1 (N : Nat) (db n : Nat) (m : Int) (cp : HV) (H : Heap) (w a b : Int)(g0 : ¬ (b ≤ m)) : RunsTo Try.prog polS 69 (sub [1, 1, 1, 1, 0, 0, 1, 0, 1, 0, 0, 0] B69) (env69 (.sl db 0 n none n 1) (.i m) (.func 67 [] [cp]) (.i w) (.i a) (.i b) .undef) H (.exit 4) (polS.keys 69) (env69 (.sl db 0 n none n 1) (.i m) (.func 67 [] [cp]) (.i w) (.i a) (.i b) .undef) H :=
  RunsTo.hin N 60 [⟨9, 2, .bool false, H⟩] fun kf hk => ⟨_, by kernel_rfl, (oB H (decide_eq_false g0) .nil)⟩
theorem st_h_0 (N : Nat) (db n : Nat) (m : Int) (cp : HV) (H : Heap) (w a b : Int) (H0 : Heap) (g0 : IntKind.i64.wrap (a + w) < m) (g1 : ∀ kf, N ≤ kf → callN Try.prog polS (kf + 1) 72 [.sl db 0 n none n 1, .i a, .i (IntKind.i64.wrap (a + w)), .i m, .func 67 [] [cp]] H = some (.tuple [], H0)) : RunsTo Try.prog polS 69 (sub [1, 1, 1, 1, 0, 0, 1, 0, 1, 1] B69) (env69 (.sl db 0 n none n 1) (.i m) (.func 67 [] [cp]) (.i w) (.i a) (.i b) .undef) H .normal (polS.keys 69) (env69 (.sl db 0 n none n 1) (.i m) (.func 67 [] [cp]) (.i (IntKind.i64.wrap (w * 2))) (.i a) (.i b) (.i (IntKind.i64.wrap (a + w)))) H0 :=
  RunsTo.hin N 60 [⟨14, 2, .bool true, H⟩, ⟨15, 5, .tuple [], H0⟩] fun kf hk => ⟨_, by kernel_rfl, (oB H (decide_eq_true g0) (oC (g1 kf (by omega)) .nil))⟩
end Go.Proofs.Ytmhfkhlamnapdaa
end
section
open Go Go.HL
namespace Go.Proofs.Ytmhfkhlamnapdaa
set_option maxRecDepth 100000
noncomputable def B66 : Code := Try.f66.body.getD .skip
abbrev env66 (v0 v1 : HV) : Env := [(0, v0), (1, v1)]
theorem so_a_0 (N : Nat) (db n : Nat) (cp : HV) (H : Heap) (H0 : Heap) (g0 : ∀ kf, N ≤ kf → callN Try.prog polS (kf + 1) 69 [.sl db 0 n none n 1, .i (n : Int), .func 67 [] [cp]] H = some (.tuple [], H0)) : RunsTo Try.prog polS 66 (sub [] B66) (env66 (.sl db 0 n none n 1) (.func 67 [] [cp])) H .normal (polS.keys 66) (env66 (.sl db 0 n none n 1) (.func 67 [] [cp])) H0 :=
  RunsTo.hin N 60 [⟨0, 4, .tuple [], H0⟩] fun kf hk => ⟨_, by kernel_rfl, (oC (g0 kf (by omega)) .nil)⟩
end Go.Proofs.Ytmhfkhlamnapdaa
end
section
open Go Go.HL
namespace Go.Proofs.Ytmhfkhlamnapdaa
set_option maxRecDepth 100000
noncomputable def B72 : Code := Try.f72.body.getD .skip
abbrev env72 (v0 v1 v2 v3 v4 v10 v11 v12 v13 v14 v15 v16 v17 v18 v19 v20 v21 v22 v23 v24 : HV) : Env := [(0, v0), (1, v1), (2, v2), (3, v3), (4, v4), (10, v10), (11, v11), (12, v12), (13, v13), (14, v14), (15, v15), (16, v16), (17, v17), (18, v18), (19, v19), (20, v20), (21, v21), (22, v22), (23, v23), (24, v24)]
theorem sy_a_0 (N : Nat) (db n : Nat) (a m b : Int) (cp : HV) (H : Heap)(g0 : IntKind.i64.wrap (m - a) = 1) : RunsTo Try.prog polS 72 (sub [0, 0] B72) [(0, .sl db 0 n none n 1), (1, .i a), (2, .i m), (3, .i b), (4, .func 67 [] [cp])] H .normal [0, 1, 2, 3, 4, 10, 11, 12, 13, 14, 15, 16, 17, 18, 19, 20, 21, 22, 23, 24, 28] [(0, .sl db 0 n none n 1), (1, .i a), (2, .i m), (3, .i b), (4, .func 67 [] [cp]), (10, .undef), (11, .undef), (12, .undef), (13, .undef), (14, .undef), (15, .undef), (16, .undef), (17, .undef), (18, .undef), (19, .undef), (20, .undef), (21, .undef), (22, .undef), (23, .undef), (24, .undef), (28, .bool true)] H :=
  RunsTo.hin N 60 [⟨0, 3, .bool true, H⟩] fun kf hk => ⟨_, by kernel_rfl, (oB H (decide_eq_true g0) .nil)⟩
theorem sy_a_1 (N : Nat) (db n : Nat) (a m b : Int) (cp : HV) (H : Heap)(g0 : ¬ (IntKind.i64.wrap (m - a) = 1)) : RunsTo Try.prog polS 72 (sub [0, 0] B72) [(0, .sl db 0 n none n 1), (1, .i a), (2, .i m), (3, .i b), (4, .func 67 [] [cp])] H .normal [0, 1, 2, 3, 4, 10, 11, 12, 13, 14, 15, 16, 17, 18, 19, 20, 21, 22, 23, 24, 28] [(0, .sl db 0 n none n 1), (1, .i a), (2, .i m), (3, .i b), (4, .func 67 [] [cp]), (10, .undef), (11, .undef), (12, .undef), (13, .undef), (14, .undef), (15, .undef), (16, .undef), (17, .undef), (18, .undef), (19, .undef), (20, .undef), (21, .undef), (22, .undef), (23, .undef), (24, .undef), (28, .bool false)] H :=
  RunsTo.hin N 60 [⟨0, 3, .bool false, H⟩] fun kf hk => ⟨_, by kernel_rfl, (oB H (decide_eq_false g0) .nil)⟩
theorem sy_b_0 (N : Nat) (db n : Nat) (a m b : Int) (cp : HV) (H : Heap) : RunsTo Try.prog polS 72 (sub [0, 1, 0, 0] B72) (env72 (.sl db 0 n none n 1) (.i a) (.i m) (.i b) (.func 67 [] [cp]) .undef .undef .undef .undef .undef .undef .undef .undef .undef .undef .undef .undef .undef .undef .undef) H .normal (polS.keys 72) (env72 (.sl db 0 n none n 1) (.i a) (.i m) (.i b) (.func 67 [] [cp]) (.i m) .undef .undef .undef .undef .undef .undef .undef .undef .undef .undef .undef .undef .undef .undef) H :=
  RunsTo.hin N 60 [] fun kf hk => ⟨_, by kernel_rfl, .nil⟩
theorem sy_c_0 (N : Nat) (db n : Nat) (a m b : Int) (cp : HV) (H : Heap) (i : Int) : RunsTo Try.prog polS 72 (sub [0, 1, 0, 1, 0] B72) (env72 (.sl db 0 n none n 1) (.i a) (.i m) (.i b) (.func 67 [] [cp]) (.i i) .undef .undef .undef .undef .undef .undef .undef .undef .undef .undef .undef .undef .undef .undef) H .normal (polS.keys 72) (env72 (.sl db 0 n none n 1) (.i a) (.i m) (.i b) (.func 67 [] [cp]) (.i i) (.i b) .undef .undef .undef .undef .undef .undef .undef .undef .undef .undef .undef .undef .undef) H :=
  RunsTo.hin N 60 [] fun kf hk => ⟨_, by kernel_rfl, .nil⟩
theorem sy_d_0 (N : Nat) (db n : Nat) (a m b : Int) (cp : HV) (H : Heap) (i j : Int) (h0 : Int) (x0 : Int) (x1 : Int) (c0 : Int) (H0 : Heap) (g0 : i < j) (g1 : binV Try.prog .shr 76 (.int .u64 (IntKind.u64.wrap (IntKind.i64.wrap (i + j)))) (.int .u64 1) = some (.int .u64 h0)) (g2 : idxV Try.prog 24 (.sl db 0 n none n 1) (.i (IntKind.i64.wrap h0)) = some (.ptr db ((IntKind.i64.wrap h0).toNat) 0 n)) (g3 : loadV Try.prog H 3 (.ptr db ((IntKind.i64.wrap h0).toNat) 0 n) = some (.i x0)) (g4 : idxV Try.prog 24 (.sl db 0 n none n 1) (.i a) = some (.ptr db ((a).toNat) 0 n)) (g5 : loadV Try.prog H 3 (.ptr db ((a).toNat) 0 n) = some (.i x1)) (g6 : ∀ kf, N ≤ kf → callN Try.prog polS (kf + 1) 67 [.i x0, .i x1, cp] H = some (.i c0, H0)) (g7 : c0 < 0) : RunsTo Try.prog polS 72 (sub [0, 1, 0, 1, 1, 0, 0, 0] B72) (env72 (.sl db 0 n none n 1) (.i a) (.i m) (.i b) (.func 67 [] [cp]) (.i i) (.i j) .undef .undef .undef .undef .undef .undef .undef .undef .undef .undef .undef .undef .undef) H .normal (polS.keys 72) (env72 (.sl db 0 n none n 1) (.i a) (.i m) (.i b) (.func 67 [] [cp]) (.i (IntKind.i64.wrap (IntKind.i64.wrap h0 + 1))) (.i j) (.i (IntKind.i64.wrap h0)) .undef .undef .undef .undef .undef .undef .undef .undef .undef .undef .undef .undef) H0 :=
  RunsTo.hin N 60 [⟨3, 2, .bool true, H⟩, ⟨4, 4, .int .u64 h0, H⟩, ⟨5, 3, .ptr db ((IntKind.i64.wrap h0).toNat) 0 n, H⟩, ⟨5, 4, .i x0, H⟩, ⟨5, 7, .ptr db ((a).toNat) 0 n, H⟩, ⟨5, 8, .i x1, H⟩, ⟨5, 9, .i c0, H0⟩, ⟨5, 10, .bool true, H0⟩] fun kf hk => ⟨_, by kernel_rfl, (oB H (decide_eq_true g0) (oP H g1 (oP H g2 (oP H g3 (oP H g4 (oP H g5 (oC (g6 kf (by omega)) (oB H0 (decide_eq_true g7) .nil))))))))⟩
theorem sy_d_1 (N : Nat) (db n : Nat) (a m b : Int) (cp : HV) (H : Heap) (i j : Int) (h0 : Int) (x0 : Int) (x1 : Int) (c0 : Int) (H0 : Heap) (g0 : i < j) (g1 : binV Try.prog .shr 76 (.int .u64 (IntKind.u64.wrap (IntKind.i64.wrap (i + j)))) (.int .u64 1) = some (.int .u64 h0)) (g2 : idxV Try.prog 24 (.sl db 0 n none n 1) (.i (IntKind.i64.wrap h0)) = some (.ptr db ((IntKind.i64.wrap h0).toNat) 0 n)) (g3 : loadV Try.prog H 3 (.ptr db ((IntKind.i64.wrap h0).toNat) 0 n) = some (.i x0)) (g4 : idxV Try.prog 24 (.sl db 0 n none n 1) (.i a) = some (.ptr db ((a).toNat) 0 n)) (g5 : loadV Try.prog H 3 (.ptr db ((a).toNat) 0 n) = some (.i x1)) (g6 : ∀ kf, N ≤ kf → callN Try.prog polS (kf + 1) 67 [.i x0, .i x1, cp] H = some (.i c0, H0)) (g7 : ¬ (c0 < 0)) : RunsTo Try.prog polS 72 (sub [0, 1, 0, 1, 1, 0, 0, 0] B72) (env72 (.sl db 0 n none n 1) (.i a) (.i m) (.i b) (.func 67 [] [cp]) (.i i) (.i j) .undef .undef .undef .undef .undef .undef .undef .undef .undef .undef .undef .undef .undef) H .normal (polS.keys 72) (env72 (.sl db 0 n none n 1) (.i a) (.i m) (.i b) (.func 67 [] [cp]) (.i i) (.i (IntKind.i64.wrap h0)) (.i (IntKind.i64.wrap h0)) .undef .undef .undef .undef .undef .undef .undef .undef .undef .undef .undef .undef) H0 :=
  RunsTo.hin N 60 [⟨3, 2, .bool true, H⟩, ⟨4, 4, .int .u64 h0, H⟩, ⟨5, 3, .ptr db ((IntKind.i64.wrap h0).toNat) 0 n, H⟩, ⟨5, 4, .i x0, H⟩, ⟨5, 7, .ptr db ((a).toNat) 0 n, H⟩, ⟨5, 8, .i x1, H⟩, ⟨5, 9, .i c0, H0⟩, ⟨5, 10, .bool false, H0⟩] fun kf hk => ⟨_, by kernel_rfl, (oB H (decide_eq_true g0) (oP H g1 (oP H g2 (oP H g3 (oP H g4 (oP H g5 (oC (g6 kf (by omega)) (oB H0 (decide_eq_false g7) .nil))))))))⟩
theorem sy_d_2 (N : Nat) (db n : Nat) (a m b : Int) (cp : HV) (H : Heap) (i j : Int)(g0 : ¬ (i < j)) : RunsTo Try.prog polS 72 (sub [0, 1, 0, 1, 1, 0, 0, 0] B72) (env72 (.sl db 0 n none n 1) (.i a) (.i m) (.i b) (.func 67 [] [cp]) (.i i) (.i j) .undef .undef .undef .undef .undef .undef .undef .undef .undef .undef .undef .undef .undef) H (.exit 0) (polS.keys 72) (env72 (.sl db 0 n none n 1) (.i a) (.i m) (.i b) (.func 67 [] [cp]) (.i i) (.i j) .undef .undef .undef .undef .undef .undef .undef .undef .undef .undef .undef .undef .undef) H :=
  RunsTo.hin N 60 [⟨3, 2, .bool false, H⟩] fun kf hk => ⟨_, by kernel_rfl, (oB H (decide_eq_false g0) .nil)⟩
theorem sy_e_0 (N : Nat) (db n : Nat) (a m b : Int) (cp : HV) (H : Heap) (i j : Int) (v12 : HV) : RunsTo Try.prog polS 72 (sub [0, 1, 0, 1, 1, 1, 0, 0] B72) (env72 (.sl db 0 n none n 1) (.i a) (.i m) (.i b) (.func 67 [] [cp]) (.i i) (.i j) v12 .undef .undef .undef .undef .undef .undef .undef .undef .undef .undef .undef .undef) H .normal (polS.keys 72) (env72 (.sl db 0 n none n 1) (.i a) (.i m) (.i b) (.func 67 [] [cp]) (.i i) (.i j) v12 (.i a) .undef .undef .undef .undef .undef .undef .undef .undef .undef .undef .undef) H :=
  RunsTo.hin N 60 [] fun kf hk => ⟨_, by kernel_rfl, .nil⟩
theorem sy_f_0 (N : Nat) (db n : Nat) (a m b : Int) (cp : HV) (H : Heap) (i k : Int) (x0 : Int) (x1 : Int) (H0 : Heap) (H1 : Heap) (g0 : k < IntKind.i64.wrap (i - 1)) (g1 : idxV Try.prog 24 (.sl db 0 n none n 1) (.i (IntKind.i64.wrap (k + 1))) = some (.ptr db ((IntKind.i64.wrap (k + 1)).toNat) 0 n)) (g2 : loadV Try.prog H 3 (.ptr db ((IntKind.i64.wrap (k + 1)).toNat) 0 n) = some (.i x0)) (g3 : idxV Try.prog 24 (.sl db 0 n none n 1) (.i k) = some (.ptr db ((k).toNat) 0 n)) (g4 : loadV Try.prog H 3 (.ptr db ((k).toNat) 0 n) = some (.i x1)) (g5 : idxV Try.prog 24 (.sl db 0 n none n 1) (.i k) = some (.ptr db ((k).toNat) 0 n)) (g6 : storeV Try.prog H 3 (.ptr db ((k).toNat) 0 n) (.i x0) = some H0) (g7 : idxV Try.prog 24 (.sl db 0 n none n 1) (.i (IntKind.i64.wrap (k + 1))) = some (.ptr db ((IntKind.i64.wrap (k + 1)).toNat) 0 n)) (g8 : storeV Try.prog H0 3 (.ptr db ((IntKind.i64.wrap (k + 1)).toNat) 0 n) (.i x1) = some H1) : RunsTo Try.prog polS 72 (sub [0, 1, 0, 1, 1, 1, 0, 1, 0, 0] B72) (env72 (.sl db 0 n none n 1) (.i a) (.i m) (.i b) (.func 67 [] [cp]) (.i i) .undef .undef (.i k) .undef .undef .undef .undef .undef .undef .undef .undef .undef .undef .undef) H .normal (polS.keys 72) (env72 (.sl db 0 n none n 1) (.i a) (.i m) (.i b) (.func 67 [] [cp]) (.i i) .undef .undef (.i (IntKind.i64.wrap (k + 1))) .undef .undef .undef .undef .undef .undef .undef .undef .undef .undef .undef) H1 :=
  RunsTo.hin N 60 [⟨9, 3, .bool true, H⟩, ⟨11, 8, .ptr db ((IntKind.i64.wrap (k + 1)).toNat) 0 n, H⟩, ⟨11, 9, .i x0, H⟩, ⟨11, 12, .ptr db ((k).toNat) 0 n, H⟩, ⟨11, 13, .i x1, H⟩, ⟨11, 14, .ptr db ((k).toNat) 0 n, H⟩, ⟨11, 15, .tuple [], H0⟩, ⟨11, 16, .ptr db ((IntKind.i64.wrap (k + 1)).toNat) 0 n, H0⟩, ⟨11, 17, .tuple [], H1⟩] fun kf hk => ⟨_, by kernel_rfl, (oB H (decide_eq_true g0) (oP H g1 (oP H g2 (oP H g3 (oP H g4 (oP H g5 (oS g6 (oP H0 g7 (oS g8 .nil)))))))))⟩
theorem sy_f_1 (N : Nat) (db n : Nat) (a m b : Int) (cp : HV) (H : Heap) (i k : Int)(g0 : ¬ (k < IntKind.i64.wrap (i - 1))) : RunsTo Try.prog polS 72 (sub [0, 1, 0, 1, 1, 1, 0, 1, 0, 0] B72) (env72 (.sl db 0 n none n 1) (.i a) (.i m) (.i b) (.func 67 [] [cp]) (.i i) .undef .undef (.i k) .undef .undef .undef .undef .undef .undef .undef .undef .undef .undef .undef) H (.exit 2) (polS.keys 72) (env72 (.sl db 0 n none n 1) (.i a) (.i m) (.i b) (.func 67 [] [cp]) (.i i) .undef .undef (.i k) .undef .undef .undef .undef .undef .undef .undef .undef .undef .undef .undef) H :=
  RunsTo.hin N 60 [⟨9, 3, .bool false, H⟩] fun kf hk => ⟨_, by kernel_rfl, (oB H (decide_eq_false g0) .nil)⟩
theorem sy_g_0 (N : Nat) (db n : Nat) (a m b : Int) (cp : HV) (H : Heap) (i k : Int) : RunsTo Try.prog polS 72 (sub [0, 1, 0, 1, 1, 1, 1] B72) (env72 (.sl db 0 n none n 1) (.i a) (.i m) (.i b) (.func 67 [] [cp]) (.i i) .undef .undef (.i k) .undef .undef .undef .undef .undef .undef .undef .undef .undef .undef .undef) H .ret (polS.keys 72) (env72 (.sl db 0 n none n 1) (.i a) (.i m) (.i b) (.func 67 [] [cp]) (.i i) .undef .undef (.i k) .undef .undef .undef .undef .undef .undef .undef .undef .undef .undef .undef) H :=
  RunsTo.hin N 60 [] fun kf hk => ⟨_, by kernel_rfl, .nil⟩
theorem sy_h_0 (N : Nat) (db n : Nat) (a m b : Int) (cp : HV) (H : Heap)(g0 : IntKind.i64.wrap (b - m) = 1) : RunsTo Try.prog polS 72 (sub [1, 0, 0] B72) (env72 (.sl db 0 n none n 1) (.i a) (.i m) (.i b) (.func 67 [] [cp]) .undef .undef .undef .undef .undef .undef .undef .undef .undef .undef .undef .undef .undef .undef .undef) H .normal [0, 1, 2, 3, 4, 10, 11, 12, 13, 14, 15, 16, 17, 18, 19, 20, 21, 22, 23, 24, 80] [(0, .sl db 0 n none n 1), (1, .i a), (2, .i m), (3, .i b), (4, .func 67 [] [cp]), (10, .undef), (11, .undef), (12, .undef), (13, .undef), (14, .undef), (15, .undef), (16, .undef), (17, .undef), (18, .undef), (19, .undef), (20, .undef), (21, .undef), (22, .undef), (23, .undef), (24, .undef), (80, .bool true)] H :=
  RunsTo.hin N 60 [⟨12, 3, .bool true, H⟩] fun kf hk => ⟨_, by kernel_rfl, (oB H (decide_eq_true g0) .nil)⟩
theorem sy_h_1 (N : Nat) (db n : Nat) (a m b : Int) (cp : HV) (H : Heap)(g0 : ¬ (IntKind.i64.wrap (b - m) = 1)) : RunsTo Try.prog polS 72 (sub [1, 0, 0] B72) (env72 (.sl db 0 n none n 1) (.i a) (.i m) (.i b) (.func 67 [] [cp]) .undef .undef .undef .undef .undef .undef .undef .undef .undef .undef .undef .undef .undef .undef .undef) H .normal [0, 1, 2, 3, 4, 10, 11, 12, 13, 14, 15, 16, 17, 18, 19, 20, 21, 22, 23, 24, 80] [(0, .sl db 0 n none n 1), (1, .i a), (2, .i m), (3, .i b), (4, .func 67 [] [cp]), (10, .undef), (11, .undef), (12, .undef), (13, .undef), (14, .undef), (15, .undef), (16, .undef), (17, .undef), (18, .undef), (19, .undef), (20, .undef), (21, .undef), (22, .undef), (23, .undef), (24, .undef), (80, .bool false)] H :=
  RunsTo.hin N 60 [⟨12, 3, .bool false, H⟩] fun kf hk => ⟨_, by kernel_rfl, (oB H (decide_eq_false g0) .nil)⟩
theorem sy_i_0 (N : Nat) (db n : Nat) (a m b : Int) (cp : HV) (H : Heap) : RunsTo Try.prog polS 72 (sub [1, 0, 1, 0, 0] B72) (env72 (.sl db 0 n none n 1) (.i a) (.i m) (.i b) (.func 67 [] [cp]) .undef .undef .undef .undef .undef .undef .undef .undef .undef .undef .undef .undef .undef .undef .undef) H .normal (polS.keys 72) (env72 (.sl db 0 n none n 1) (.i a) (.i m) (.i b) (.func 67 [] [cp]) .undef .undef .undef .undef (.i a) .undef .undef .undef .undef .undef .undef .undef .undef .undef .undef) H :=
  RunsTo.hin N 60 [] fun kf hk => ⟨_, by kernel_rfl, .nil⟩
theorem sy_j_0 (N : Nat) (db n : Nat) (a m b : Int) (cp : HV) (H : Heap) (i : Int) : RunsTo Try.prog polS 72 (sub [1, 0, 1, 0, 1, 0] B72) (env72 (.sl db 0 n none n 1) (.i a) (.i m) (.i b) (.func 67 [] [cp]) .undef .undef .undef .undef (.i i) .undef .undef .undef .undef .undef .undef .undef .undef .undef .undef) H .normal (polS.keys 72) (env72 (.sl db 0 n none n 1) (.i a) (.i m) (.i b) (.func 67 [] [cp]) .undef .undef .undef .undef (.i i) (.i m) .undef .undef .undef .undef .undef .undef .undef .undef .undef) H :=
  RunsTo.hin N 60 [] fun kf hk => ⟨_, by kernel_rfl, .nil⟩
theorem sy_k_0 (N : Nat) (db n : Nat) (a m b : Int) (cp : HV) (H : Heap) (i j : Int) (h0 : Int) (x0 : Int) (x1 : Int) (c0 : Int) (H0 : Heap) (g0 : i < j) (g1 : binV Try.prog .shr 76 (.int .u64 (IntKind.u64.wrap (IntKind.i64.wrap (i + j)))) (.int .u64 1) = some (.int .u64 h0)) (g2 : idxV Try.prog 24 (.sl db 0 n none n 1) (.i m) = some (.ptr db ((m).toNat) 0 n)) (g3 : loadV Try.prog H 3 (.ptr db ((m).toNat) 0 n) = some (.i x0)) (g4 : idxV Try.prog 24 (.sl db 0 n none n 1) (.i (IntKind.i64.wrap h0)) = some (.ptr db ((IntKind.i64.wrap h0).toNat) 0 n)) (g5 : loadV Try.prog H 3 (.ptr db ((IntKind.i64.wrap h0).toNat) 0 n) = some (.i x1)) (g6 : ∀ kf, N ≤ kf → callN Try.prog polS (kf + 1) 67 [.i x0, .i x1, cp] H = some (.i c0, H0)) (g7 : c0 < 0) : RunsTo Try.prog polS 72 (sub [1, 0, 1, 0, 1, 1, 0, 0, 0] B72) (env72 (.sl db 0 n none n 1) (.i a) (.i m) (.i b) (.func 67 [] [cp]) .undef .undef .undef .undef (.i i) (.i j) .undef .undef .undef .undef .undef .undef .undef .undef .undef) H .normal (polS.keys 72) (env72 (.sl db 0 n none n 1) (.i a) (.i m) (.i b) (.func 67 [] [cp]) .undef .undef .undef .undef (.i i) (.i (IntKind.i64.wrap h0)) (.i (IntKind.i64.wrap h0)) .undef .undef .undef .undef .undef .undef .undef .undef) H0 :=
  RunsTo.hin N 60 [⟨15, 2, .bool true, H⟩, ⟨16, 4, .int .u64 h0, H⟩, ⟨17, 3, .ptr db ((m).toNat) 0 n, H⟩, ⟨17, 4, .i x0, H⟩, ⟨17, 7, .ptr db ((IntKind.i64.wrap h0).toNat) 0 n, H⟩, ⟨17, 8, .i x1, H⟩, ⟨17, 9, .i c0, H0⟩, ⟨17, 10, .bool true, H0⟩] fun kf hk => ⟨_, by kernel_rfl, (oB H (decide_eq_true g0) (oP H g1 (oP H g2 (oP H g3 (oP H g4 (oP H g5 (oC (g6 kf (by omega)) (oB H0 (decide_eq_true g7) .nil))))))))⟩
theorem sy_k_1 (N : Nat) (db n : Nat) (a m b : Int) (cp : HV) (H : Heap) (i j : Int) (h0 : Int) (x0 : Int) (x1 : Int) (c0 : Int) (H0 : Heap) (g0 : i < j) (g1 : binV Try.prog .shr 76 (.int .u64 (IntKind.u64.wrap (IntKind.i64.wrap (i + j)))) (.int .u64 1) = some (.int .u64 h0)) (g2 : idxV Try.prog 24 (.sl db 0 n none n 1) (.i m) = some (.ptr db ((m).toNat) 0 n)) (g3 : loadV Try.prog H 3 (.ptr db ((m).toNat) 0 n) = some (.i x0)) (g4 : idxV Try.prog 24 (.sl db 0 n none n 1) (.i (IntKind.i64.wrap h0)) = some (.ptr db ((IntKind.i64.wrap h0).toNat) 0 n)) (g5 : loadV Try.prog H 3 (.ptr db ((IntKind.i64.wrap h0).toNat) 0 n) = some (.i x1)) (g6 : ∀ kf, N ≤ kf → callN Try.prog polS (kf + 1) 67 [.i x0, .i x1, cp] H = some (.i c0, H0)) (g7 : ¬ (c0 < 0)) : RunsTo Try.prog polS 72 (sub [1, 0, 1, 0, 1, 1, 0, 0, 0] B72) (env72 (.sl db 0 n none n 1) (.i a) (.i m) (.i b) (.func 67 [] [cp]) .undef .undef .undef .undef (.i i) (.i j) .undef .undef .undef .undef .undef .undef .undef .undef .undef) H .normal (polS.keys 72) (env72 (.sl db 0 n none n 1) (.i a) (.i m) (.i b) (.func 67 [] [cp]) .undef .undef .undef .undef (.i (IntKind.i64.wrap (IntKind.i64.wrap h0 + 1))) (.i j) (.i (IntKind.i64.wrap h0)) .undef .undef .undef .undef .undef .undef .undef .undef) H0 :=
  RunsTo.hin N 60 [⟨15, 2, .bool true, H⟩, ⟨16, 4, .int .u64 h0, H⟩, ⟨17, 3, .ptr db ((m).toNat) 0 n, H⟩, ⟨17, 4, .i x0, H⟩, ⟨17, 7, .ptr db ((IntKind.i64.wrap h0).toNat) 0 n, H⟩, ⟨17, 8, .i x1, H⟩, ⟨17, 9, .i c0, H0⟩, ⟨17, 10, .bool false, H0⟩] fun kf hk => ⟨_, by kernel_rfl, (oB H (decide_eq_true g0) (oP H g1 (oP H g2 (oP H g3 (oP H g4 (oP H g5 (oC (g6 kf (by omega)) (oB H0 (decide_eq_false g7) .nil))))))))⟩
theorem sy_k_2 (N : Nat) (db n : Nat) (a m b : Int) (cp : HV) (H : Heap) (i j : Int)(g0 : ¬ (i < j)) : RunsTo Try.prog polS 72 (sub [1, 0, 1, 0, 1, 1, 0, 0, 0] B72) (env72 (.sl db 0 n none n 1) (.i a) (.i m) (.i b) (.func 67 [] [cp]) .undef .undef .undef .undef (.i i) (.i j) .undef .undef .undef .undef .undef .undef .undef .undef .undef) H (.exit 4) (polS.keys 72) (env72 (.sl db 0 n none n 1) (.i a) (.i m) (.i b) (.func 67 [] [cp]) .undef .undef .undef .undef (.i i) (.i j) .undef .undef .undef .undef .undef .undef .undef .undef .undef) H :=
  RunsTo.hin N 60 [⟨15, 2, .bool false, H⟩] fun kf hk => ⟨_, by kernel_rfl, (oB H (decide_eq_false g0) .nil)⟩
theorem sy_l_0 (N : Nat) (db n : Nat) (a m b : Int) (cp : HV) (H : Heap) (i j : Int) (v16 : HV) : RunsTo Try.prog polS 72 (sub [1, 0, 1, 0, 1, 1, 1, 0, 0] B72) (env72 (.sl db 0 n none n 1) (.i a) (.i m) (.i b) (.func 67 [] [cp]) .undef .undef .undef .undef (.i i) (.i j) v16 .undef .undef .undef .undef .undef .undef .undef .undef) H .normal (polS.keys 72) (env72 (.sl db 0 n none n 1) (.i a) (.i m) (.i b) (.func 67 [] [cp]) .undef .undef .undef .undef (.i i) (.i j) v16 (.i m) .undef .undef .undef .undef .undef .undef .undef) H :=
  RunsTo.hin N 60 [] fun kf hk => ⟨_, by kernel_rfl, .nil⟩
theorem sy_m_0 (N : Nat) (db n : Nat) (a m b : Int) (cp : HV) (H : Heap) (i k : Int) (x0 : Int) (x1 : Int) (H0 : Heap) (H1 : Heap) (g0 : i < k) (g1 : idxV Try.prog 24 (.sl db 0 n none n 1) (.i (IntKind.i64.wrap (k - 1))) = some (.ptr db ((IntKind.i64.wrap (k - 1)).toNat) 0 n)) (g2 : loadV Try.prog H 3 (.ptr db ((IntKind.i64.wrap (k - 1)).toNat) 0 n) = some (.i x0)) (g3 : idxV Try.prog 24 (.sl db 0 n none n 1) (.i k) = some (.ptr db ((k).toNat) 0 n)) (g4 : loadV Try.prog H 3 (.ptr db ((k).toNat) 0 n) = some (.i x1)) (g5 : idxV Try.prog 24 (.sl db 0 n none n 1) (.i k) = some (.ptr db ((k).toNat) 0 n)) (g6 : storeV Try.prog H 3 (.ptr db ((k).toNat) 0 n) (.i x0) = some H0) (g7 : idxV Try.prog 24 (.sl db 0 n none n 1) (.i (IntKind.i64.wrap (k - 1))) = some (.ptr db ((IntKind.i64.wrap (k - 1)).toNat) 0 n)) (g8 : storeV Try.prog H0 3 (.ptr db ((IntKind.i64.wrap (k - 1)).toNat) 0 n) (.i x1) = some H1) : RunsTo Try.prog polS 72 (sub [1, 0, 1, 0, 1, 1, 1, 0, 1, 0, 0] B72) (env72 (.sl db 0 n none n 1) (.i a) (.i m) (.i b) (.func 67 [] [cp]) .undef .undef .undef .undef (.i i) .undef .undef (.i k) .undef .undef .undef .undef .undef .undef .undef) H .normal (polS.keys 72) (env72 (.sl db 0 n none n 1) (.i a) (.i m) (.i b) (.func 67 [] [cp]) .undef .undef .undef .undef (.i i) .undef .undef (.i (IntKind.i64.wrap (k - 1))) .undef .undef .undef .undef .undef .undef .undef) H1 :=
  RunsTo.hin N 60 [⟨21, 2, .bool true, H⟩, ⟨23, 8, .ptr db ((IntKind.i64.wrap (k - 1)).toNat) 0 n, H⟩, ⟨23, 9, .i x0, H⟩, ⟨23, 12, .ptr db ((k).toNat) 0 n, H⟩, ⟨23, 13, .i x1, H⟩, ⟨23, 14, .ptr db ((k).toNat) 0 n, H⟩, ⟨23, 15, .tuple [], H0⟩, ⟨23, 16, .ptr db ((IntKind.i64.wrap (k - 1)).toNat) 0 n, H0⟩, ⟨23, 17, .tuple [], H1⟩] fun kf hk => ⟨_, by kernel_rfl, (oB H (decide_eq_true g0) (oP H g1 (oP H g2 (oP H g3 (oP H g4 (oP H g5 (oS g6 (oP H0 g7 (oS g8 .nil)))))))))⟩
theorem sy_m_1 (N : Nat) (db n : Nat) (a m b : Int) (cp : HV) (H : Heap) (i k : Int)(g0 : ¬ (i < k)) : RunsTo Try.prog polS 72 (sub [1, 0, 1, 0, 1, 1, 1, 0, 1, 0, 0] B72) (env72 (.sl db 0 n none n 1) (.i a) (.i m) (.i b) (.func 67 [] [cp]) .undef .undef .undef .undef (.i i) .undef .undef (.i k) .undef .undef .undef .undef .undef .undef .undef) H (.exit 6) (polS.keys 72) (env72 (.sl db 0 n none n 1) (.i a) (.i m) (.i b) (.func 67 [] [cp]) .undef .undef .undef .undef (.i i) .undef .undef (.i k) .undef .undef .undef .undef .undef .undef .undef) H :=
  RunsTo.hin N 60 [⟨21, 2, .bool false, H⟩] fun kf hk => ⟨_, by kernel_rfl, (oB H (decide_eq_false g0) .nil)⟩
theorem sy_n_0 (N : Nat) (db n : Nat) (a m b : Int) (cp : HV) (H : Heap) (i k : Int) : RunsTo Try.prog polS 72 (sub [1, 0, 1, 0, 1, 1, 1, 1] B72) (env72 (.sl db 0 n none n 1) (.i a) (.i m) (.i b) (.func 67 [] [cp]) .undef .undef .undef .undef (.i i) .undef .undef (.i k) .undef .undef .undef .undef .undef .undef .undef) H .ret (polS.keys 72) (env72 (.sl db 0 n none n 1) (.i a) (.i m) (.i b) (.func 67 [] [cp]) .undef .undef .undef .undef (.i i) .undef .undef (.i k) .undef .undef .undef .undef .undef .undef .undef) H :=
  RunsTo.hin N 60 [] fun kf hk => ⟨_, by kernel_rfl, .nil⟩
theorem sy_o_0 (N : Nat) (db n : Nat) (a m b : Int) (cp : HV) (H : Heap) (h0 : Int) (g0 : binV Try.prog .shr 76 (.int .u64 (IntKind.u64.wrap (IntKind.i64.wrap (a + b)))) (.int .u64 1) = some (.int .u64 h0)) : RunsTo Try.prog polS 72 (sub [1, 1, 0] B72) (env72 (.sl db 0 n none n 1) (.i a) (.i m) (.i b) (.func 67 [] [cp]) .undef .undef .undef .undef .undef .undef .undef .undef .undef .undef .undef .undef .undef .undef .undef) H .normal (polS.keys 72) (env72 (.sl db 0 n none n 1) (.i a) (.i m) (.i b) (.func 67 [] [cp]) .undef .undef .undef .undef .undef .undef .undef .undef (.i (IntKind.i64.wrap h0)) .undef .undef .undef .undef .undef .undef) H :=
  RunsTo.hin N 60 [⟨24, 4, .int .u64 h0, H⟩] fun kf hk => ⟨_, by kernel_rfl, (oP H g0 .nil)⟩
theorem sy_p_0 (N : Nat) (db n : Nat) (a m b : Int) (cp : HV) (H : Heap) (mid : Int) : RunsTo Try.prog polS 72 (sub [1, 1, 1, 0] B72) (env72 (.sl db 0 n none n 1) (.i a) (.i m) (.i b) (.func 67 [] [cp]) .undef .undef .undef .undef .undef .undef .undef .undef (.i mid) .undef .undef .undef .undef .undef .undef) H .normal (polS.keys 72) (env72 (.sl db 0 n none n 1) (.i a) (.i m) (.i b) (.func 67 [] [cp]) .undef .undef .undef .undef .undef .undef .undef .undef (.i mid) (.i (IntKind.i64.wrap (mid + m))) .undef .undef .undef .undef .undef) H :=
  RunsTo.hin N 60 [] fun kf hk => ⟨_, by kernel_rfl, .nil⟩
theorem sy_q_0 (N : Nat) (db n : Nat) (a m b : Int) (cp : HV) (H : Heap) (mid : Int) (nn : Int) : RunsTo Try.prog polS 72 (sub [1, 1, 1, 1, 0] B72) (env72 (.sl db 0 n none n 1) (.i a) (.i m) (.i b) (.func 67 [] [cp]) .undef .undef .undef .undef .undef .undef .undef .undef (.i mid) (.i nn) .undef .undef .undef .undef .undef) H .normal (polS.keys 72) (env72 (.sl db 0 n none n 1) (.i a) (.i m) (.i b) (.func 67 [] [cp]) .undef .undef .undef .undef .undef .undef .undef .undef (.i mid) (.i nn) (.i 0) (.i 0) .undef .undef .undef) H :=
  RunsTo.hin N 60 [] fun kf hk => ⟨_, by kernel_rfl, .nil⟩
theorem sy_r_0 (N : Nat) (db n : Nat) (a m b : Int) (cp : HV) (H : Heap) (mid : Int) (nn : Int)(g0 : mid < m) : RunsTo Try.prog polS 72 (sub [1, 1, 1, 1, 1, 0] B72) (env72 (.sl db 0 n none n 1) (.i a) (.i m) (.i b) (.func 67 [] [cp]) .undef .undef .undef .undef .undef .undef .undef .undef (.i mid) (.i nn) (.i 0) (.i 0) .undef .undef .undef) H .normal (polS.keys 72) (env72 (.sl db 0 n none n 1) (.i a) (.i m) (.i b) (.func 67 [] [cp]) .undef .undef .undef .undef .undef .undef .undef .undef (.i mid) (.i nn) (.i (IntKind.i64.wrap (nn - b))) (.i mid) .undef .undef .undef) H :=
  RunsTo.hin N 60 [⟨27, 2, .bool true, H⟩] fun kf hk => ⟨_, by kernel_rfl, (oB H (decide_eq_true g0) .nil)⟩
theorem sy_r_1 (N : Nat) (db n : Nat) (a m b : Int) (cp : HV) (H : Heap) (mid : Int) (nn : Int)(g0 : ¬ (mid < m)) : RunsTo Try.prog polS 72 (sub [1, 1, 1, 1, 1, 0] B72) (env72 (.sl db 0 n none n 1) (.i a) (.i m) (.i b) (.func 67 [] [cp]) .undef .undef .undef .undef .undef .undef .undef .undef (.i mid) (.i nn) (.i 0) (.i 0) .undef .undef .undef) H .normal (polS.keys 72) (env72 (.sl db 0 n none n 1) (.i a) (.i m) (.i b) (.func 67 [] [cp]) .undef .undef .undef .undef .undef .undef .undef .undef (.i mid) (.i nn) (.i a) (.i m) .undef .undef .undef) H :=
  RunsTo.hin N 60 [⟨27, 2, .bool false, H⟩] fun kf hk => ⟨_, by kernel_rfl, (oB H (decide_eq_false g0) .nil)⟩
theorem sy_s_0 (N : Nat) (db n : Nat) (a m b : Int) (cp : HV) (H : Heap) (mid : Int) (nn : Int) (s r : Int) : RunsTo Try.prog polS 72 (sub [1, 1, 1, 1, 1, 1, 0] B72) (env72 (.sl db 0 n none n 1) (.i a) (.i m) (.i b) (.func 67 [] [cp]) .undef .undef .undef .undef .undef .undef .undef .undef (.i mid) (.i nn) (.i s) (.i r) .undef .undef .undef) H .normal (polS.keys 72) (env72 (.sl db 0 n none n 1) (.i a) (.i m) (.i b) (.func 67 [] [cp]) .undef .undef .undef .undef .undef .undef .undef .undef (.i mid) (.i nn) (.i s) (.i r) (.i (IntKind.i64.wrap (nn - 1))) .undef .undef) H :=
  RunsTo.hin N 60 [] fun kf hk => ⟨_, by kernel_rfl, .nil⟩
theorem sy_t_0 (N : Nat) (db n : Nat) (a m b : Int) (cp : HV) (H : Heap) (mid : Int) (nn : Int) (s r : Int) (p : Int) (h0 : Int) (x0 : Int) (x1 : Int) (c0 : Int) (H0 : Heap) (g0 : s < r) (g1 : binV Try.prog .shr 76 (.int .u64 (IntKind.u64.wrap (IntKind.i64.wrap (s + r)))) (.int .u64 1) = some (.int .u64 h0)) (g2 : idxV Try.prog 24 (.sl db 0 n none n 1) (.i (IntKind.i64.wrap (p - IntKind.i64.wrap h0))) = some (.ptr db ((IntKind.i64.wrap (p - IntKind.i64.wrap h0)).toNat) 0 n)) (g3 : loadV Try.prog H 3 (.ptr db ((IntKind.i64.wrap (p - IntKind.i64.wrap h0)).toNat) 0 n) = some (.i x0)) (g4 : idxV Try.prog 24 (.sl db 0 n none n 1) (.i (IntKind.i64.wrap h0)) = some (.ptr db ((IntKind.i64.wrap h0).toNat) 0 n)) (g5 : loadV Try.prog H 3 (.ptr db ((IntKind.i64.wrap h0).toNat) 0 n) = some (.i x1)) (g6 : ∀ kf, N ≤ kf → callN Try.prog polS (kf + 1) 67 [.i x0, .i x1, cp] H = some (.i c0, H0)) (g7 : c0 < 0) : RunsTo Try.prog polS 72 (sub [1, 1, 1, 1, 1, 1, 1, 0, 0, 0] B72) (env72 (.sl db 0 n none n 1) (.i a) (.i m) (.i b) (.func 67 [] [cp]) .undef .undef .undef .undef .undef .undef .undef .undef (.i mid) (.i nn) (.i s) (.i r) (.i p) .undef .undef) H .normal (polS.keys 72) (env72 (.sl db 0 n none n 1) (.i a) (.i m) (.i b) (.func 67 [] [cp]) .undef .undef .undef .undef .undef .undef .undef .undef (.i mid) (.i nn) (.i s) (.i (IntKind.i64.wrap h0)) (.i p) (.i (IntKind.i64.wrap h0)) .undef) H0 :=
  RunsTo.hin N 60 [⟨33, 2, .bool true, H⟩, ⟨34, 4, .int .u64 h0, H⟩, ⟨35, 5, .ptr db ((IntKind.i64.wrap (p - IntKind.i64.wrap h0)).toNat) 0 n, H⟩, ⟨35, 6, .i x0, H⟩, ⟨35, 9, .ptr db ((IntKind.i64.wrap h0).toNat) 0 n, H⟩, ⟨35, 10, .i x1, H⟩, ⟨35, 11, .i c0, H0⟩, ⟨35, 12, .bool true, H0⟩] fun kf hk => ⟨_, by kernel_rfl, (oB H (decide_eq_true g0) (oP H g1 (oP H g2 (oP H g3 (oP H g4 (oP H g5 (oC (g6 kf (by omega)) (oB H0 (decide_eq_true g7) .nil))))))))⟩
theorem sy_t_1 (N : Nat) (db n : Nat) (a m b : Int) (cp : HV) (H : Heap) (mid : Int) (nn : Int) (s r : Int) (p : Int) (h0 : Int) (x0 : Int) (x1 : Int) (c0 : Int) (H0 : Heap) (g0 : s < r) (g1 : binV Try.prog .shr 76 (.int .u64 (IntKind.u64.wrap (IntKind.i64.wrap (s + r)))) (.int .u64 1) = some (.int .u64 h0)) (g2 : idxV Try.prog 24 (.sl db 0 n none n 1) (.i (IntKind.i64.wrap (p - IntKind.i64.wrap h0))) = some (.ptr db ((IntKind.i64.wrap (p - IntKind.i64.wrap h0)).toNat) 0 n)) (g3 : loadV Try.prog H 3 (.ptr db ((IntKind.i64.wrap (p - IntKind.i64.wrap h0)).toNat) 0 n) = some (.i x0)) (g4 : idxV Try.prog 24 (.sl db 0 n none n 1) (.i (IntKind.i64.wrap h0)) = some (.ptr db ((IntKind.i64.wrap h0).toNat) 0 n)) (g5 : loadV Try.prog H 3 (.ptr db ((IntKind.i64.wrap h0).toNat) 0 n) = some (.i x1)) (g6 : ∀ kf, N ≤ kf → callN Try.prog polS (kf + 1) 67 [.i x0, .i x1, cp] H = some (.i c0, H0)) (g7 : ¬ (c0 < 0)) : RunsTo Try.prog polS 72 (sub [1, 1, 1, 1, 1, 1, 1, 0, 0, 0] B72) (env72 (.sl db 0 n none n 1) (.i a) (.i m) (.i b) (.func 67 [] [cp]) .undef .undef .undef .undef .undef .undef .undef .undef (.i mid) (.i nn) (.i s) (.i r) (.i p) .undef .undef) H .normal (polS.keys 72) (env72 (.sl db 0 n none n 1) (.i a) (.i m) (.i b) (.func 67 [] [cp]) .undef .undef .undef .undef .undef .undef .undef .undef (.i mid) (.i nn) (.i (IntKind.i64.wrap (IntKind.i64.wrap h0 + 1))) (.i r) (.i p) (.i (IntKind.i64.wrap h0)) .undef) H0 :=
  RunsTo.hin N 60 [⟨33, 2, .bool true, H⟩, ⟨34, 4, .int .u64 h0, H⟩, ⟨35, 5, .ptr db ((IntKind.i64.wrap (p - IntKind.i64.wrap h0)).toNat) 0 n, H⟩, ⟨35, 6, .i x0, H⟩, ⟨35, 9, .ptr db ((IntKind.i64.wrap h0).toNat) 0 n, H⟩, ⟨35, 10, .i x1, H⟩, ⟨35, 11, .i c0, H0⟩, ⟨35, 12, .bool false, H0⟩] fun kf hk => ⟨_, by kernel_rfl, (oB H (decide_eq_true g0) (oP H g1 (oP H g2 (oP H g3 (oP H g4 (oP H g5 (oC (g6 kf (by omega)) (oB H0 (decide_eq_false g7) .nil))))))))⟩
theorem sy_t_2 (N : Nat) (db n : Nat) (a m b : Int) (cp : HV) (H : Heap) (mid : Int) (nn : Int) (s r : Int) (p : Int)(g0 : ¬ (s < r)) : RunsTo Try.prog polS 72 (sub [1, 1, 1, 1, 1, 1, 1, 0, 0, 0] B72) (env72 (.sl db 0 n none n 1) (.i a) (.i m) (.i b) (.func 67 [] [cp]) .undef .undef .undef .undef .undef .undef .undef .undef (.i mid) (.i nn) (.i s) (.i r) (.i p) .undef .undef) H (.exit 8) (polS.keys 72) (env72 (.sl db 0 n none n 1) (.i a) (.i m) (.i b) (.func 67 [] [cp]) .undef .undef .undef .undef .undef .undef .undef .undef (.i mid) (.i nn) (.i s) (.i r) (.i p) .undef .undef) H :=
  RunsTo.hin N 60 [⟨33, 2, .bool false, H⟩] fun kf hk => ⟨_, by kernel_rfl, (oB H (decide_eq_false g0) .nil)⟩
theorem sy_u_0 (N : Nat) (db n : Nat) (a m b : Int) (cp : HV) (H : Heap) (mid : Int) (nn : Int) (s r : Int) (p : Int) (v23 : HV) : RunsTo Try.prog polS 72 (sub [1, 1, 1, 1, 1, 1, 1, 1, 0] B72) (env72 (.sl db 0 n none n 1) (.i a) (.i m) (.i b) (.func 67 [] [cp]) .undef .undef .undef .undef .undef .undef .undef .undef (.i mid) (.i nn) (.i s) (.i r) (.i p) v23 .undef) H .normal (polS.keys 72) (env72 (.sl db 0 n none n 1) (.i a) (.i m) (.i b) (.func 67 [] [cp]) .undef .undef .undef .undef .undef .undef .undef .undef (.i mid) (.i nn) (.i s) (.i r) (.i p) v23 (.i (IntKind.i64.wrap (nn - s)))) H :=
  RunsTo.hin N 60 [] fun kf hk => ⟨_, by kernel_rfl, .nil⟩
theorem sy_v_0 (N : Nat) (db n : Nat) (a m b : Int) (cp : HV) (H : Heap) (mid : Int) (nn : Int) (s r : Int) (p : Int) (v23 : HV) (e : Int) (H0 : Heap) (g0 : s < m) (g1 : m < e) (g2 : ∀ kf, N ≤ kf → callN Try.prog polS (kf + 1) 73 [.sl db 0 n none n 1, .i s, .i m, .i e, .func 67 [] [cp]] H = some (.tuple [], H0)) : RunsTo Try.prog polS 72 (sub [1, 1, 1, 1, 1, 1, 1, 1, 1, 0] B72) (env72 (.sl db 0 n none n 1) (.i a) (.i m) (.i b) (.func 67 [] [cp]) .undef .undef .undef .undef .undef .undef .undef .undef (.i mid) (.i nn) (.i s) (.i r) (.i p) v23 (.i e)) H .normal (polS.keys 72) (env72 (.sl db 0 n none n 1) (.i a) (.i m) (.i b) (.func 67 [] [cp]) .undef .undef .undef .undef .undef .undef .undef .undef (.i mid) (.i nn) (.i s) (.i r) (.i p) v23 (.i e)) H0 :=
  RunsTo.hin N 60 [⟨39, 2, .bool true, H⟩, ⟨39, 6, .bool true, H⟩, ⟨40, 5, .tuple [], H0⟩] fun kf hk => ⟨_, by kernel_rfl, (oB H (decide_eq_true g0) (oB H (decide_eq_true g1) (oC (g2 kf (by omega)) .nil)))⟩
theorem sy_v_1 (N : Nat) (db n : Nat) (a m b : Int) (cp : HV) (H : Heap) (mid : Int) (nn : Int) (s r : Int) (p : Int) (v23 : HV) (e : Int)(g0 : s < m) (g1 : ¬ (m < e)) : RunsTo Try.prog polS 72 (sub [1, 1, 1, 1, 1, 1, 1, 1, 1, 0] B72) (env72 (.sl db 0 n none n 1) (.i a) (.i m) (.i b) (.func 67 [] [cp]) .undef .undef .undef .undef .undef .undef .undef .undef (.i mid) (.i nn) (.i s) (.i r) (.i p) v23 (.i e)) H .normal (polS.keys 72) (env72 (.sl db 0 n none n 1) (.i a) (.i m) (.i b) (.func 67 [] [cp]) .undef .undef .undef .undef .undef .undef .undef .undef (.i mid) (.i nn) (.i s) (.i r) (.i p) v23 (.i e)) H :=
  RunsTo.hin N 60 [⟨39, 2, .bool true, H⟩, ⟨39, 6, .bool false, H⟩] fun kf hk => ⟨_, by kernel_rfl, (oB H (decide_eq_true g0) (oB H (decide_eq_false g1) .nil))⟩
theorem sy_v_2 (N : Nat) (db n : Nat) (a m b : Int) (cp : HV) (H : Heap) (mid : Int) (nn : Int) (s r : Int) (p : Int) (v23 : HV) (e : Int)(g0 : ¬ (s < m)) : RunsTo Try.prog polS 72 (sub [1, 1, 1, 1, 1, 1, 1, 1, 1, 0] B72) (env72 (.sl db 0 n none n 1) (.i a) (.i m) (.i b) (.func 67 [] [cp]) .undef .undef .undef .undef .undef .undef .undef .undef (.i mid) (.i nn) (.i s) (.i r) (.i p) v23 (.i e)) H .normal (polS.keys 72) (env72 (.sl db 0 n none n 1) (.i a) (.i m) (.i b) (.func 67 [] [cp]) .undef .undef .undef .undef .undef .undef .undef .undef (.i mid) (.i nn) (.i s) (.i r) (.i p) v23 (.i e)) H :=
  RunsTo.hin N 60 [⟨39, 2, .bool false, H⟩] fun kf hk => ⟨_, by kernel_rfl, (oB H (decide_eq_false g0) .nil)⟩
theorem sy_w_0 (N : Nat) (db n : Nat) (a m b : Int) (cp : HV) (H : Heap) (mid : Int) (nn : Int) (s r : Int) (p : Int) (v23 : HV) (e : Int) (H0 : Heap) (g0 : a < s) (g1 : s < mid) (g2 : ∀ kf, N ≤ kf → callN Try.prog polS (kf + 1) 72 [.sl db 0 n none n 1, .i a, .i s, .i mid, .func 67 [] [cp]] H = some (.tuple [], H0)) : RunsTo Try.prog polS 72 (sub [1, 1, 1, 1, 1, 1, 1, 1, 1, 1, 0] B72) (env72 (.sl db 0 n none n 1) (.i a) (.i m) (.i b) (.func 67 [] [cp]) .undef .undef .undef .undef .undef .undef .undef .undef (.i mid) (.i nn) (.i s) (.i r) (.i p) v23 (.i e)) H .normal (polS.keys 72) (env72 (.sl db 0 n none n 1) (.i a) (.i m) (.i b) (.func 67 [] [cp]) .undef .undef .undef .undef .undef .undef .undef .undef (.i mid) (.i nn) (.i s) (.i r) (.i p) v23 (.i e)) H0 :=
  RunsTo.hin N 60 [⟨41, 2, .bool true, H⟩, ⟨41, 6, .bool true, H⟩, ⟨42, 5, .tuple [], H0⟩] fun kf hk => ⟨_, by kernel_rfl, (oB H (decide_eq_true g0) (oB H (decide_eq_true g1) (oC (g2 kf (by omega)) .nil)))⟩
theorem sy_w_1 (N : Nat) (db n : Nat) (a m b : Int) (cp : HV) (H : Heap) (mid : Int) (nn : Int) (s r : Int) (p : Int) (v23 : HV) (e : Int)(g0 : a < s) (g1 : ¬ (s < mid)) : RunsTo Try.prog polS 72 (sub [1, 1, 1, 1, 1, 1, 1, 1, 1, 1, 0] B72) (env72 (.sl db 0 n none n 1) (.i a) (.i m) (.i b) (.func 67 [] [cp]) .undef .undef .undef .undef .undef .undef .undef .undef (.i mid) (.i nn) (.i s) (.i r) (.i p) v23 (.i e)) H .normal (polS.keys 72) (env72 (.sl db 0 n none n 1) (.i a) (.i m) (.i b) (.func 67 [] [cp]) .undef .undef .undef .undef .undef .undef .undef .undef (.i mid) (.i nn) (.i s) (.i r) (.i p) v23 (.i e)) H :=
  RunsTo.hin N 60 [⟨41, 2, .bool true, H⟩, ⟨41, 6, .bool false, H⟩] fun kf hk => ⟨_, by kernel_rfl, (oB H (decide_eq_true g0) (oB H (decide_eq_false g1) .nil))⟩
theorem sy_w_2 (N : Nat) (db n : Nat) (a m b : Int) (cp : HV) (H : Heap) (mid : Int) (nn : Int) (s r : Int) (p : Int) (v23 : HV) (e : Int)(g0 : ¬ (a < s)) : RunsTo Try.prog polS 72 (sub [1, 1, 1, 1, 1, 1, 1, 1, 1, 1, 0] B72) (env72 (.sl db 0 n none n 1) (.i a) (.i m) (.i b) (.func 67 [] [cp]) .undef .undef .undef .undef .undef .undef .undef .undef (.i mid) (.i nn) (.i s) (.i r) (.i p) v23 (.i e)) H .normal (polS.keys 72) (env72 (.sl db 0 n none n 1) (.i a) (.i m) (.i b) (.func 67 [] [cp]) .undef .undef .undef .undef .undef .undef .undef .undef (.i mid) (.i nn) (.i s) (.i r) (.i p) v23 (.i e)) H :=
  RunsTo.hin N 60 [⟨41, 2, .bool false, H⟩] fun kf hk => ⟨_, by kernel_rfl, (oB H (decide_eq_false g0) .nil)⟩
theorem sy_x_0 (N : Nat) (db n : Nat) (a m b : Int) (cp : HV) (H : Heap) (mid : Int) (nn : Int) (s r : Int) (p : Int) (v23 : HV) (e : Int) (H0 : Heap) (g0 : mid < e) (g1 : e < b) (g2 : ∀ kf, N ≤ kf → callN Try.prog polS (kf + 1) 72 [.sl db 0 n none n 1, .i mid, .i e, .i b, .func 67 [] [cp]] H = some (.tuple [], H0)) : RunsTo Try.prog polS 72 (sub [1, 1, 1, 1, 1, 1, 1, 1, 1, 1, 1] B72) (env72 (.sl db 0 n none n 1) (.i a) (.i m) (.i b) (.func 67 [] [cp]) .undef .undef .undef .undef .undef .undef .undef .undef (.i mid) (.i nn) (.i s) (.i r) (.i p) v23 (.i e)) H .normal (polS.keys 72) (env72 (.sl db 0 n none n 1) (.i a) (.i m) (.i b) (.func 67 [] [cp]) .undef .undef .undef .undef .undef .undef .undef .undef (.i mid) (.i nn) (.i s) (.i r) (.i p) v23 (.i e)) H0 :=
  RunsTo.hin N 60 [⟨43, 2, .bool true, H⟩, ⟨43, 6, .bool true, H⟩, ⟨44, 5, .tuple [], H0⟩] fun kf hk => ⟨_, by kernel_rfl, (oB H (decide_eq_true g0) (oB H (decide_eq_true g1) (oC (g2 kf (by omega)) .nil)))⟩
theorem sy_x_1 (N : Nat) (db n : Nat) (a m b : Int) (cp : HV) (H : Heap) (mid : Int) (nn : Int) (s r : Int) (p : Int) (v23 : HV) (e : Int)(g0 : mid < e) (g1 : ¬ (e < b)) : RunsTo Try.prog polS 72 (sub [1, 1, 1, 1, 1, 1, 1, 1, 1, 1, 1] B72) (env72 (.sl db 0 n none n 1) (.i a) (.i m) (.i b) (.func 67 [] [cp]) .undef .undef .undef .undef .undef .undef .undef .undef (.i mid) (.i nn) (.i s) (.i r) (.i p) v23 (.i e)) H .normal (polS.keys 72) (env72 (.sl db 0 n none n 1) (.i a) (.i m) (.i b) (.func 67 [] [cp]) .undef .undef .undef .undef .undef .undef .undef .undef (.i mid) (.i nn) (.i s) (.i r) (.i p) v23 (.i e)) H :=
  RunsTo.hin N 60 [⟨43, 2, .bool true, H⟩, ⟨43, 6, .bool false, H⟩] fun kf hk => ⟨_, by kernel_rfl, (oB H (decide_eq_true g0) (oB H (decide_eq_false g1) .nil))⟩
theorem sy_x_2 (N : Nat) (db n : Nat) (a m b : Int) (cp : HV) (H : Heap) (mid : Int) (nn : Int) (s r : Int) (p : Int) (v23 : HV) (e : Int)(g0 : ¬ (mid < e)) : RunsTo Try.prog polS 72 (sub [1, 1, 1, 1, 1, 1, 1, 1, 1, 1, 1] B72) (env72 (.sl db 0 n none n 1) (.i a) (.i m) (.i b) (.func 67 [] [cp]) .undef .undef .undef .undef .undef .undef .undef .undef (.i mid) (.i nn) (.i s) (.i r) (.i p) v23 (.i e)) H .normal (polS.keys 72) (env72 (.sl db 0 n none n 1) (.i a) (.i m) (.i b) (.func 67 [] [cp]) .undef .undef .undef .undef .undef .undef .undef .undef (.i mid) (.i nn) (.i s) (.i r) (.i p) v23 (.i e)) H :=
  RunsTo.hin N 60 [⟨43, 2, .bool false, H⟩] fun kf hk => ⟨_, by kernel_rfl, (oB H (decide_eq_false g0) .nil)⟩
end Go.Proofs.Ytmhfkhlamnapdaa
end
section
open Go Go.HL
namespace Go.Proofs.Ytmhfkhlamnapdaa
set_option maxRecDepth 100000
noncomputable def B74 : Code := Try.f74.body.getD .skip
abbrev env74 (v0 v1 v2 v3 v10 : HV) : Env := [(0, v0), (1, v1), (2, v2), (3, v3), (10, v10)]
theorem sw_a_0 (N : Nat) (db n : Nat) (a b m : Int) (cp : HV) (H : Heap) : RunsTo Try.prog polS 74 (sub [0] B74) [(0, .sl db 0 n none n 1), (1, .i a), (2, .i b), (3, .i m), (4, .func 67 [] [cp])] H .normal (polS.keys 74) (env74 (.sl db 0 n none n 1) (.i a) (.i b) (.i m) (.i 0)) H :=
  RunsTo.hin N 60 [] fun kf hk => ⟨_, by kernel_rfl, .nil⟩
theorem sw_l_0 (N : Nat) (db n : Nat) (a b m : Int) (H : Heap) (i : Int) (x0 : Int) (x1 : Int) (H0 : Heap) (H1 : Heap) (g0 : i < m) (g1 : idxV Try.prog 24 (.sl db 0 n none n 1) (.i (IntKind.i64.wrap (b + i))) = some (.ptr db ((IntKind.i64.wrap (b + i)).toNat) 0 n)) (g2 : loadV Try.prog H 3 (.ptr db ((IntKind.i64.wrap (b + i)).toNat) 0 n) = some (.i x0)) (g3 : idxV Try.prog 24 (.sl db 0 n none n 1) (.i (IntKind.i64.wrap (a + i))) = some (.ptr db ((IntKind.i64.wrap (a + i)).toNat) 0 n)) (g4 : loadV Try.prog H 3 (.ptr db ((IntKind.i64.wrap (a + i)).toNat) 0 n) = some (.i x1)) (g5 : idxV Try.prog 24 (.sl db 0 n none n 1) (.i (IntKind.i64.wrap (a + i))) = some (.ptr db ((IntKind.i64.wrap (a + i)).toNat) 0 n)) (g6 : storeV Try.prog H 3 (.ptr db ((IntKind.i64.wrap (a + i)).toNat) 0 n) (.i x0) = some H0) (g7 : idxV Try.prog 24 (.sl db 0 n none n 1) (.i (IntKind.i64.wrap (b + i))) = some (.ptr db ((IntKind.i64.wrap (b + i)).toNat) 0 n)) (g8 : storeV Try.prog H0 3 (.ptr db ((IntKind.i64.wrap (b + i)).toNat) 0 n) (.i x1) = some H1) : RunsTo Try.prog polS 74 (sub [1, 0, 0] B74) (env74 (.sl db 0 n none n 1) (.i a) (.i b) (.i m) (.i i)) H .normal (polS.keys 74) (env74 (.sl db 0 n none n 1) (.i a) (.i b) (.i m) (.i (IntKind.i64.wrap (i + 1)))) H1 :=
  RunsTo.hin N 60 [⟨1, 2, .bool true, H⟩, ⟨3, 12, .ptr db ((IntKind.i64.wrap (b + i)).toNat) 0 n, H⟩, ⟨3, 13, .i x0, H⟩, ⟨3, 18, .ptr db ((IntKind.i64.wrap (a + i)).toNat) 0 n, H⟩, ⟨3, 19, .i x1, H⟩, ⟨3, 20, .ptr db ((IntKind.i64.wrap (a + i)).toNat) 0 n, H⟩, ⟨3, 21, .tuple [], H0⟩, ⟨3, 22, .ptr db ((IntKind.i64.wrap (b + i)).toNat) 0 n, H0⟩, ⟨3, 23, .tuple [], H1⟩] fun kf hk => ⟨_, by kernel_rfl, (oB H (decide_eq_true g0) (oP H g1 (oP H g2 (oP H g3 (oP H g4 (oP H g5 (oS g6 (oP H0 g7 (oS g8 .nil)))))))))⟩
theorem sw_l_1 (N : Nat) (db n : Nat) (a b m : Int) (H : Heap) (i : Int)(g0 : ¬ (i < m)) : RunsTo Try.prog polS 74 (sub [1, 0, 0] B74) (env74 (.sl db 0 n none n 1) (.i a) (.i b) (.i m) (.i i)) H (.exit 0) (polS.keys 74) (env74 (.sl db 0 n none n 1) (.i a) (.i b) (.i m) (.i i)) H :=
  RunsTo.hin N 60 [⟨1, 2, .bool false, H⟩] fun kf hk => ⟨_, by kernel_rfl, (oB H (decide_eq_false g0) .nil)⟩
end Go.Proofs.Ytmhfkhlamnapdaa
end
section
open Go Go.HL
namespace Go.Proofs.Ytmhfkhlamnapdaa
set_option maxRecDepth 100000
noncomputable def B73 : Code := Try.f73.body.getD .skip
abbrev env73 (v0 v1 v2 v3 v4 v10 v11 : HV) : Env := [(0, v0), (1, v1), (2, v2), (3, v3), (4, v4), (10, v10), (11, v11)]
theorem ro_a_0 (N : Nat) (db n : Nat) (a m b : Int) (cp : HV) (H : Heap) : RunsTo Try.prog polS 73 (sub [0] B73) [(0, .sl db 0 n none n 1), (1, .i a), (2, .i m), (3, .i b), (4, .func 67 [] [cp])] H .normal (polS.keys 73) (env73 (.sl db 0 n none n 1) (.i a) (.i m) (.i b) (.func 67 [] [cp]) (.i (IntKind.i64.wrap (m - a))) .undef) H :=
  RunsTo.hin N 60 [] fun kf hk => ⟨_, by kernel_rfl, .nil⟩
theorem ro_b_0 (N : Nat) (db n : Nat) (a m b : Int) (cp : HV) (H : Heap) (i : Int) : RunsTo Try.prog polS 73 (sub [1, 0] B73) (env73 (.sl db 0 n none n 1) (.i a) (.i m) (.i b) (.func 67 [] [cp]) (.i i) .undef) H .normal (polS.keys 73) (env73 (.sl db 0 n none n 1) (.i a) (.i m) (.i b) (.func 67 [] [cp]) (.i i) (.i (IntKind.i64.wrap (b - m)))) H :=
  RunsTo.hin N 60 [] fun kf hk => ⟨_, by kernel_rfl, .nil⟩
theorem ro_l_0 (N : Nat) (db n : Nat) (a m b : Int) (cp : HV) (H : Heap) (i j : Int)(g0 : i = j) : RunsTo Try.prog polS 73 (sub [1, 1, 0, 0, 0] B73) (env73 (.sl db 0 n none n 1) (.i a) (.i m) (.i b) (.func 67 [] [cp]) (.i i) (.i j)) H (.exit 0) (polS.keys 73) (env73 (.sl db 0 n none n 1) (.i a) (.i m) (.i b) (.func 67 [] [cp]) (.i i) (.i j)) H :=
  RunsTo.hin N 60 [⟨2, 2, .bool false, H⟩] fun kf hk => ⟨_, by kernel_rfl, (oB H (congrArg not (decide_eq_true g0)) .nil)⟩
theorem ro_l_1 (N : Nat) (db n : Nat) (a m b : Int) (cp : HV) (H : Heap) (i j : Int) (H0 : Heap) (g0 : ¬ (i = j)) (g1 : j < i) (g2 : ∀ kf, N ≤ kf → callN Try.prog polS (kf + 1) 74 [.sl db 0 n none n 1, .i (IntKind.i64.wrap (m - i)), .i m, .i j, .func 67 [] [cp]] H = some (.tuple [], H0)) : RunsTo Try.prog polS 73 (sub [1, 1, 0, 0, 0] B73) (env73 (.sl db 0 n none n 1) (.i a) (.i m) (.i b) (.func 67 [] [cp]) (.i i) (.i j)) H .normal (polS.keys 73) (env73 (.sl db 0 n none n 1) (.i a) (.i m) (.i b) (.func 67 [] [cp]) (.i (IntKind.i64.wrap (i - j))) (.i j)) H0 :=
  RunsTo.hin N 60 [⟨2, 2, .bool true, H⟩, ⟨3, 2, .bool true, H⟩, ⟨4, 7, .tuple [], H0⟩] fun kf hk => ⟨_, by kernel_rfl, (oB H (congrArg not (decide_eq_false g0)) (oB H (decide_eq_true g1) (oC (g2 kf (by omega)) .nil)))⟩
theorem ro_l_2 (N : Nat) (db n : Nat) (a m b : Int) (cp : HV) (H : Heap) (i j : Int) (H0 : Heap) (g0 : ¬ (i = j)) (g1 : ¬ (j < i)) (g2 : ∀ kf, N ≤ kf → callN Try.prog polS (kf + 1) 74 [.sl db 0 n none n 1, .i (IntKind.i64.wrap (m - i)), .i (IntKind.i64.wrap (IntKind.i64.wrap (m + j) - i)), .i i, .func 67 [] [cp]] H = some (.tuple [], H0)) : RunsTo Try.prog polS 73 (sub [1, 1, 0, 0, 0] B73) (env73 (.sl db 0 n none n 1) (.i a) (.i m) (.i b) (.func 67 [] [cp]) (.i i) (.i j)) H .normal (polS.keys 73) (env73 (.sl db 0 n none n 1) (.i a) (.i m) (.i b) (.func 67 [] [cp]) (.i i) (.i (IntKind.i64.wrap (j - i)))) H0 :=
  RunsTo.hin N 60 [⟨2, 2, .bool true, H⟩, ⟨3, 2, .bool false, H⟩, ⟨6, 11, .tuple [], H0⟩] fun kf hk => ⟨_, by kernel_rfl, (oB H (congrArg not (decide_eq_false g0)) (oB H (decide_eq_false g1) (oC (g2 kf (by omega)) .nil)))⟩
theorem ro_z_0 (N : Nat) (db n : Nat) (a m b : Int) (cp : HV) (H : Heap) (i j : Int) (H0 : Heap) (g0 : ∀ kf, N ≤ kf → callN Try.prog polS (kf + 1) 74 [.sl db 0 n none n 1, .i (IntKind.i64.wrap (m - i)), .i m, .i i, .func 67 [] [cp]] H = some (.tuple [], H0)) : RunsTo Try.prog polS 73 (sub [1, 1, 1] B73) (env73 (.sl db 0 n none n 1) (.i a) (.i m) (.i b) (.func 67 [] [cp]) (.i i) (.i j)) H .normal (polS.keys 73) (env73 (.sl db 0 n none n 1) (.i a) (.i m) (.i b) (.func 67 [] [cp]) (.i i) (.i j)) H0 :=
  RunsTo.hin N 60 [⟨8, 7, .tuple [], H0⟩] fun kf hk => ⟨_, by kernel_rfl, (oC (g0 kf (by omega)) .nil)⟩
end Go.Proofs.Ytmhfkhlamnapdaa
end
section
open Go Go.HL
namespace Go.Proofs.Ytmhfkhlamnapdaa
set_option maxRecDepth 100000
noncomputable def B71 : Code := Try.f71.body.getD .skip
abbrev env71 (v0 v1 v2 v3 v8 v9 : HV) : Env := [(0, v0), (1, v1), (2, v2), (3, v3), (8, v8), (9, v9)]
theorem is_a_0 (N : Nat) (db n : Nat) (a b : Int) (cp : HV) (H : Heap) : RunsTo Try.prog polS 71 (sub [0] B71) [(0, .sl db 0 n none n 1), (1, .i a), (2, .i b), (3, .func 67 [] [cp])] H .normal (polS.keys 71) (env71 (.sl db 0 n none n 1) (.i a) (.i b) (.func 67 [] [cp]) (.i (IntKind.i64.wrap (a + 1))) .undef) H :=
  RunsTo.hin N 60 [] fun kf hk => ⟨_, by kernel_rfl, .nil⟩
theorem is_h_0 (N : Nat) (db n : Nat) (a b : Int) (cp : HV) (H : Heap) (i : Int)(g0 : i < b) : RunsTo Try.prog polS 71 (sub [1, 0, 0, 0] B71) (env71 (.sl db 0 n none n 1) (.i a) (.i b) (.func 67 [] [cp]) (.i i) .undef) H .normal (polS.keys 71) (env71 (.sl db 0 n none n 1) (.i a) (.i b) (.func 67 [] [cp]) (.i i) .undef) H :=
  RunsTo.hin N 60 [⟨1, 2, .bool true, H⟩] fun kf hk => ⟨_, by kernel_rfl, (oB H (decide_eq_true g0) .nil)⟩
theorem is_h_1 (N : Nat) (db n : Nat) (a b : Int) (cp : HV) (H : Heap) (i : Int)(g0 : ¬ (i < b)) : RunsTo Try.prog polS 71 (sub [1, 0, 0, 0] B71) (env71 (.sl db 0 n none n 1) (.i a) (.i b) (.func 67 [] [cp]) (.i i) .undef) H (.exit 0) (polS.keys 71) (env71 (.sl db 0 n none n 1) (.i a) (.i b) (.func 67 [] [cp]) (.i i) .undef) H :=
  RunsTo.hin N 60 [⟨1, 2, .bool false, H⟩] fun kf hk => ⟨_, by kernel_rfl, (oB H (decide_eq_false g0) .nil)⟩
theorem is_b_0 (N : Nat) (db n : Nat) (a b : Int) (cp : HV) (H : Heap) (i : Int) : RunsTo Try.prog polS 71 (sub [1, 0, 0, 1, 0, 0, 0] B71) (env71 (.sl db 0 n none n 1) (.i a) (.i b) (.func 67 [] [cp]) (.i i) .undef) H .normal (polS.keys 71) (env71 (.sl db 0 n none n 1) (.i a) (.i b) (.func 67 [] [cp]) (.i i) (.i i)) H :=
  RunsTo.hin N 60 [] fun kf hk => ⟨_, by kernel_rfl, .nil⟩
theorem is_l_0 (N : Nat) (db n : Nat) (a b : Int) (cp : HV) (H : Heap) (i j : Int) (x0 : Int) (x1 : Int) (c0 : Int) (H0 : Heap) (x2 : Int) (x3 : Int) (H1 : Heap) (H2 : Heap) (g0 : a < j) (g1 : idxV Try.prog 24 (.sl db 0 n none n 1) (.i j) = some (.ptr db ((j).toNat) 0 n)) (g2 : loadV Try.prog H 3 (.ptr db ((j).toNat) 0 n) = some (.i x0)) (g3 : idxV Try.prog 24 (.sl db 0 n none n 1) (.i (IntKind.i64.wrap (j - 1))) = some (.ptr db ((IntKind.i64.wrap (j - 1)).toNat) 0 n)) (g4 : loadV Try.prog H 3 (.ptr db ((IntKind.i64.wrap (j - 1)).toNat) 0 n) = some (.i x1)) (g5 : ∀ kf, N ≤ kf → callN Try.prog polS (kf + 1) 67 [.i x0, .i x1, cp] H = some (.i c0, H0)) (g6 : c0 < 0) (g7 : idxV Try.prog 24 (.sl db 0 n none n 1) (.i (IntKind.i64.wrap (j - 1))) = some (.ptr db ((IntKind.i64.wrap (j - 1)).toNat) 0 n)) (g8 : loadV Try.prog H0 3 (.ptr db ((IntKind.i64.wrap (j - 1)).toNat) 0 n) = some (.i x2)) (g9 : idxV Try.prog 24 (.sl db 0 n none n 1) (.i j) = some (.ptr db ((j).toNat) 0 n)) (g10 : loadV Try.prog H0 3 (.ptr db ((j).toNat) 0 n) = some (.i x3)) (g11 : idxV Try.prog 24 (.sl db 0 n none n 1) (.i j) = some (.ptr db ((j).toNat) 0 n)) (g12 : storeV Try.prog H0 3 (.ptr db ((j).toNat) 0 n) (.i x2) = some H1) (g13 : idxV Try.prog 24 (.sl db 0 n none n 1) (.i (IntKind.i64.wrap (j - 1))) = some (.ptr db ((IntKind.i64.wrap (j - 1)).toNat) 0 n)) (g14 : storeV Try.prog H1 3 (.ptr db ((IntKind.i64.wrap (j - 1)).toNat) 0 n) (.i x3) = some H2) : RunsTo Try.prog polS 71 (sub [1, 0, 0, 1, 0, 0, 1, 0, 0] B71) (env71 (.sl db 0 n none n 1) (.i a) (.i b) (.func 67 [] [cp]) (.i i) (.i j)) H .normal (polS.keys 71) (env71 (.sl db 0 n none n 1) (.i a) (.i b) (.func 67 [] [cp]) (.i i) (.i (IntKind.i64.wrap (j - 1)))) H2 :=
  RunsTo.hin N 60 [⟨4, 2, .bool true, H⟩, ⟨4, 7, .ptr db ((j).toNat) 0 n, H⟩, ⟨4, 8, .i x0, H⟩, ⟨4, 12, .ptr db ((IntKind.i64.wrap (j - 1)).toNat) 0 n, H⟩, ⟨4, 13, .i x1, H⟩, ⟨4, 14, .i c0, H0⟩, ⟨4, 15, .bool true, H0⟩, ⟨6, 8, .ptr db ((IntKind.i64.wrap (j - 1)).toNat) 0 n, H0⟩, ⟨6, 9, .i x2, H0⟩, ⟨6, 12, .ptr db ((j).toNat) 0 n, H0⟩, ⟨6, 13, .i x3, H0⟩, ⟨6, 14, .ptr db ((j).toNat) 0 n, H0⟩, ⟨6, 15, .tuple [], H1⟩, ⟨6, 16, .ptr db ((IntKind.i64.wrap (j - 1)).toNat) 0 n, H1⟩, ⟨6, 17, .tuple [], H2⟩] fun kf hk => ⟨_, by kernel_rfl, (oB H (decide_eq_true g0) (oP H g1 (oP H g2 (oP H g3 (oP H g4 (oC (g5 kf (by omega)) (oB H0 (decide_eq_true g6) (oP H0 g7 (oP H0 g8 (oP H0 g9 (oP H0 g10 (oP H0 g11 (oS g12 (oP H1 g13 (oS g14 .nil)))))))))))))))⟩
theorem is_l_1 (N : Nat) (db n : Nat) (a b : Int) (cp : HV) (H : Heap) (i j : Int) (x0 : Int) (x1 : Int) (c0 : Int) (H0 : Heap) (g0 : a < j) (g1 : idxV Try.prog 24 (.sl db 0 n none n 1) (.i j) = some (.ptr db ((j).toNat) 0 n)) (g2 : loadV Try.prog H 3 (.ptr db ((j).toNat) 0 n) = some (.i x0)) (g3 : idxV Try.prog 24 (.sl db 0 n none n 1) (.i (IntKind.i64.wrap (j - 1))) = some (.ptr db ((IntKind.i64.wrap (j - 1)).toNat) 0 n)) (g4 : loadV Try.prog H 3 (.ptr db ((IntKind.i64.wrap (j - 1)).toNat) 0 n) = some (.i x1)) (g5 : ∀ kf, N ≤ kf → callN Try.prog polS (kf + 1) 67 [.i x0, .i x1, cp] H = some (.i c0, H0)) (g6 : ¬ (c0 < 0)) : RunsTo Try.prog polS 71 (sub [1, 0, 0, 1, 0, 0, 1, 0, 0] B71) (env71 (.sl db 0 n none n 1) (.i a) (.i b) (.func 67 [] [cp]) (.i i) (.i j)) H (.exit 2) (polS.keys 71) (env71 (.sl db 0 n none n 1) (.i a) (.i b) (.func 67 [] [cp]) (.i i) (.i j)) H0 :=
  RunsTo.hin N 60 [⟨4, 2, .bool true, H⟩, ⟨4, 7, .ptr db ((j).toNat) 0 n, H⟩, ⟨4, 8, .i x0, H⟩, ⟨4, 12, .ptr db ((IntKind.i64.wrap (j - 1)).toNat) 0 n, H⟩, ⟨4, 13, .i x1, H⟩, ⟨4, 14, .i c0, H0⟩, ⟨4, 15, .bool false, H0⟩] fun kf hk => ⟨_, by kernel_rfl, (oB H (decide_eq_true g0) (oP H g1 (oP H g2 (oP H g3 (oP H g4 (oC (g5 kf (by omega)) (oB H0 (decide_eq_false g6) .nil)))))))⟩
theorem is_l_2 (N : Nat) (db n : Nat) (a b : Int) (cp : HV) (H : Heap) (i j : Int)(g0 : ¬ (a < j)) : RunsTo Try.prog polS 71 (sub [1, 0, 0, 1, 0, 0, 1, 0, 0] B71) (env71 (.sl db 0 n none n 1) (.i a) (.i b) (.func 67 [] [cp]) (.i i) (.i j)) H (.exit 2) (polS.keys 71) (env71 (.sl db 0 n none n 1) (.i a) (.i b) (.func 67 [] [cp]) (.i i) (.i j)) H :=
  RunsTo.hin N 60 [⟨4, 2, .bool false, H⟩] fun kf hk => ⟨_, by kernel_rfl, (oB H (decide_eq_false g0) .nil)⟩
theorem is_c_0 (N : Nat) (db n : Nat) (a b : Int) (cp : HV) (H : Heap) (i j : Int) : RunsTo Try.prog polS 71 (sub [1, 0, 0, 1, 1] B71) (env71 (.sl db 0 n none n 1) (.i a) (.i b) (.func 67 [] [cp]) (.i i) (.i j)) H .normal (polS.keys 71) (env71 (.sl db 0 n none n 1) (.i a) (.i b) (.func 67 [] [cp]) (.i (IntKind.i64.wrap (i + 1))) (.i j)) H :=
  RunsTo.hin N 60 [] fun kf hk => ⟨_, by kernel_rfl, .nil⟩
end Go.Proofs.Ytmhfkhlamnapdaa
end
section
open Go Go.HL
namespace Go.Proofs.Ytmhfkhlamnapdaa
def sink (f : Int → Int) (a : Nat) : Nat → List Int → List Int
  | 0, l => l
  | j + 1, l => if a < j + 1 ∧ f (l.getD j 0) < f (l.getD (j + 1) 0) then sink f a j (swp l (j + 1) j) else l
def insGo (f : Int → Int) (a : Nat) : Nat → Nat → List Int → List Int
  | 0, _, l => l
  | d + 1, i, l => insGo f a d (i + 1) (sink f a i l)
def insertion (f : Int → Int) (a b : Nat) (l : List Int) : List Int := insGo f a (b - (a + 1)) (a + 1) l
theorem sink_len (f : Int → Int) (a : Nat) : ∀ (j : Nat) (l : List Int), (sink f a j l).length = l.length
  | 0, _ => rfl
  | j + 1, l => by
    rw [sink]
    split
    · rw [sink_len f a j, swp_len]
    · rfl
theorem insGo_len (f : Int → Int) (a : Nat) : ∀ (d i : Nat) (l : List Int), (insGo f a d i l).length = l.length
  | 0, _, _ => rfl
  | d + 1, i, l => by rw [insGo, insGo_len f a d, sink_len]
theorem is_sink {db : Nat} {cp : HV} {f : Int → Int} {dom : Int → Prop} {K : Heap → Prop} (hc : Cmp db cp f dom K) (n : Nat) (hn : n ≤ 1000) (a : Nat) (b : Int) (i : Int) : ∀ (j : Nat) (l : List Int) (H : Heap), l.length = n → j < n → Ls db K dom l H →
    ∃ j' H', RunsTo Try.prog polS 71 (sub [1, 0, 0, 1, 0, 0, 1, 0] B71) (env71 (.sl db 0 n none n 1) (.int .i64 (a : Int)) (.int .i64 b) (.func 67 [] [cp]) (.int .i64 i) (.int .i64 (j : Int))) H
      (.exit 2) (polS.keys 71) (env71 (.sl db 0 n none n 1) (.int .i64 (a : Int)) (.int .i64 b) (.func 67 [] [cp]) (.int .i64 i) (.int .i64 j')) H' ∧ Ls db K dom (sink f a j l) H' ∧ Fd db H H' := by
  intro j
  induction j with
  | zero =>
    intro l H hl hj hL
    exact ⟨_, H, RunsTo.loop_out (is_l_2 0 db n (a : Int) b cp H i ((0 : Nat) : Int) (by omega)) (by simp) (by kernel_rfl) (by kernel_rfl), hL, Fd.refl _ _⟩
  | succ j ih =>
    intro l H hl hj hL
    rw [sink]
    by_cases c1 : a < j + 1
    · have hw : IntKind.i64.wrap (((j + 1 : Nat) : Int) - 1) = (j : Int) := by rw [wrapI64]; omega
      have gi : ∀ y, y < n → idxV Try.prog 24 (.sl db 0 n none n 1) (.int .i64 ((y : Nat) : Int)) = some (.ptr db (((y : Nat) : Int).toNat) 0 n) := fun y hy => idx_sl u24b z3b (by omega) (by omega)
      have gl : ∀ {H : Heap}, Ls db K dom l H → ∀ y, y < n → loadV Try.prog H 3 (.ptr db (((y : Nat) : Int).toNat) 0 n) = some (.int .i64 (l.getD y 0)) := fun hL y hy => by
        rw [Int.toNat_natCast, ← hl]; exact hL.load (by omega)
      obtain ⟨c, H1, hcl, hlt, hK, hF⟩ := hc.call H (l.getD (j + 1) 0) (l.getD j 0) hL.ok (hL.dom_ (by omega)) (hL.dom_ (by omega))
      obtain ⟨N, hN⟩ := hcl.from
      have hL1 := hL.fr hc.one hK hF
      by_cases c2 : f (l.getD j 0) < f (l.getD (j + 1) 0)
      · rw [if_pos ⟨c1, c2⟩]
        obtain ⟨s1, s2, s3, s4⟩ := hL1.swp_ hc (i := j + 1) (j := j) (by omega) (by omega)
        rw [hl] at s1 s2
        have st := is_l_0 N db n (a : Int) b cp H i ((j + 1 : Nat) : Int) (l.getD (j + 1) 0) (l.getD j 0) c H1 (l.getD j 0) (l.getD (j + 1) 0) _ _ (by omega) (gi _ hj) (gl hL _ hj) (by rw [hw]; exact gi j (by omega)) (by rw [hw]; exact gl hL j (by omega)) hN (hlt.2 c2)
          (by rw [hw]; exact gi j (by omega)) (by rw [hw]; exact gl hL1 j (by omega)) (gi _ hj) (gl hL1 _ hj) (gi _ hj) (by rw [Int.toNat_natCast]; exact s1) (by rw [hw]; exact gi j (by omega)) (by rw [hw, Int.toNat_natCast]; exact s2)
        rw [hw] at st
        obtain ⟨j', H2, r2, h2, h3⟩ := ih (swp l (j + 1) j) _ (by rw [swp_len]; exact hl) (by omega) s3
        exact ⟨j', H2, RunsTo.loop st (by kernel_rfl) (gc_eq _ (by rw [s4.len, hF.len])) r2 rfl (by kernel_rfl) (by kernel_rfl), h2, (hF.fd.trans s4).trans h3⟩
      · rw [if_neg (fun h => c2 h.2)]
        have st := is_l_1 N db n (a : Int) b cp H i ((j + 1 : Nat) : Int) (l.getD (j + 1) 0) (l.getD j 0) c H1 (by omega) (gi _ hj) (gl hL _ hj) (by rw [hw]; exact gi j (by omega)) (by rw [hw]; exact gl hL j (by omega)) hN (fun h => c2 (hlt.1 h))
        exact ⟨_, H1, RunsTo.loop_out st (by simp) (by kernel_rfl) (by kernel_rfl), hL1, hF.fd⟩
    · rw [if_neg (fun h => c1 h.1)]
      exact ⟨_, H, RunsTo.loop_out (is_l_2 0 db n (a : Int) b cp H i ((j + 1 : Nat) : Int) (by omega)) (by simp) (by kernel_rfl) (by kernel_rfl), hL, Fd.refl _ _⟩
theorem is_outer {db : Nat} {cp : HV} {f : Int → Int} {dom : Int → Prop} {K : Heap → Prop} (hc : Cmp db cp f dom K) (n : Nat) (hn : n ≤ 1000) (a b : Nat) (hb : b ≤ n) : ∀ (d i : Nat) (l : List Int) (H : Heap), i + d = b → l.length = n → Ls db K dom l H →
    ∃ H', RunsTo Try.prog polS 71 (sub [1, 0] B71) (env71 (.sl db 0 n none n 1) (.int .i64 (a : Int)) (.int .i64 (b : Int)) (.func 67 [] [cp]) (.int .i64 (i : Int)) .undef) H
      (.exit 0) (polS.keys 71) (env71 (.sl db 0 n none n 1) (.int .i64 (a : Int)) (.int .i64 (b : Int)) (.func 67 [] [cp]) (.int .i64 (b : Int)) .undef) H' ∧ Ls db K dom (insGo f a d i l) H' ∧ Fd db H H' := by
  intro d
  induction d with
  | zero =>
    intro i l H hi hl hL
    have hi : i = b := by omega
    subst hi
    have s1 := is_h_1 0 db n (a : Int) (i : Int) cp H (i : Int) (by omega)
    exact ⟨H, RunsTo.loop_out (RunsTo.seq_out s1 (by simp) (c := sub [1, 0, 0] B71) (b := sub [1, 0, 0, 1] B71) (by kernel_rfl)) (by simp) (by kernel_rfl) (by kernel_rfl), hL, Fd.refl _ _⟩
  | succ d ih =>
    intro i l H hi hl hL
    have h1 := is_h_0 0 db n (a : Int) (b : Int) cp H (i : Int) (by omega)
    have b1 := is_b_0 0 db n (a : Int) (b : Int) cp H (i : Int)
    obtain ⟨j', H1, r1, hL1, hF1⟩ := is_sink hc n hn a (b : Int) (i : Int) i l H hl (by omega) hL
    have c1 := is_c_0 0 db n (a : Int) (b : Int) cp H1 (i : Int) j'
    rw [wrap_succ (by omega)] at c1
    obtain ⟨H2, r2, hL2, hF2⟩ := ih (i + 1) (sink f a i l) H1 (by omega) (by rw [sink_len]; exact hl) hL1
    refine ⟨H2, ?_, by rw [insGo]; exact hL2, hF1.trans hF2⟩
    have t1 := RunsTo.seq b1 (RunsTo.block_exit (c := sub [1, 0, 0, 1, 0, 0, 1] B71) r1 (by kernel_rfl)) (c := sub [1, 0, 0, 1, 0, 0] B71) (by kernel_rfl) (by kernel_rfl)
    have t2 := RunsTo.block_normal (i := 1) (c := sub [1, 0, 0, 1, 0] B71) t1 (by kernel_rfl)
    have t3 := RunsTo.seq t2 c1 (c := sub [1, 0, 0, 1] B71) (by kernel_rfl) (by kernel_rfl)
    have t4 := RunsTo.seq h1 t3 (c := sub [1, 0, 0] B71) (by kernel_rfl) (by kernel_rfl)
    exact RunsTo.loop t4 (by kernel_rfl) (gc_eq _ hF1.len) r2 rfl (by kernel_rfl) (by kernel_rfl)
theorem res71 : Try.f71.results.toList = [] := by kernel_rfl
theorem insertion_call {db : Nat} {cp : HV} {f : Int → Int} {dom : Int → Prop} {K : Heap → Prop} (hc : Cmp db cp f dom K) {n a b : Nat} (hn : n ≤ 1000) (hab : a < b) (hb : b ≤ n) {l : List Int} {H : Heap} (hl : l.length = n) (hL : Ls db K dom l H) :
    ∃ H', Cl 71 [.sl db 0 n none n 1, .int .i64 (a : Int), .int .i64 (b : Int), .func 67 [] [cp]] H (.tuple []) H' ∧ Ls db K dom (insertion f a b l) H' ∧ Fd db H H' := by
  have a1 := is_a_0 0 db n (a : Int) (b : Int) cp H
  rw [wrap_succ (by omega)] at a1
  obtain ⟨H', r, hL', hF⟩ := is_outer hc n hn a b hb (b - (a + 1)) (a + 1) l H (by omega) hl hL
  have t1 := RunsTo.seq a1 (RunsTo.block_exit (c := sub [1] B71) r (by kernel_rfl)) (c := B71) (by kernel_rfl) (by kernel_rfl)
  have hcl := CallsTo.shared (P := Try.prog) (pol := polS) (g := 71) (fn := Try.f71) (cd := B71) (args := [.sl db 0 n none n 1, .int .i64 (a : Int), .int .i64 (b : Int), .func 67 [] [cp]]) (v := .tuple []) (by kernel_rfl) (by kernel_rfl) (by kernel_rfl) (by kernel_rfl) t1 (by kernel_rfl) (by simp) (by simp only [resultsV, res71, mapO])
  rw [gc_eq _ hF.len] at hcl
  exact ⟨H', hcl, hL', hF⟩
end Go.Proofs.Ytmhfkhlamnapdaa
end
section
open Go Go.HL
namespace Go.Proofs.Ytmhfkhlamnapdaa
def swapR (a b : Nat) : Nat → Nat → List Int → List Int
  | 0, _, l => l
  | d + 1, i, l => swapR a b d (i + 1) (swp l (a + i) (b + i))
theorem swapR_len (a b : Nat) : ∀ (d i : Nat) (l : List Int), (swapR a b d i l).length = l.length
  | 0, _, _ => rfl
  | d + 1, i, l => by rw [swapR, swapR_len a b d, swp_len]
def rotGo (m : Nat) : Nat → Nat → Nat → List Int → List Int
  | 0, i, _, l => swapR (m - i) m i 0 l
  | k + 1, i, j, l => if i = j then swapR (m - i) m i 0 l else if j < i then rotGo m k (i - j) j (swapR (m - i) m j 0 l) else rotGo m k i (j - i) (swapR (m - i) (m + j - i) i 0 l)
theorem rotGo_len (m : Nat) : ∀ (k i j : Nat) (l : List Int), (rotGo m k i j l).length = l.length
  | 0, i, j, l => swapR_len _ _ _ _ _
  | k + 1, i, j, l => by
    rw [rotGo]
    split
    · exact swapR_len _ _ _ _ _
    · split
      · rw [rotGo_len m k, swapR_len]
      · rw [rotGo_len m k, swapR_len]
def rotate (a m b : Nat) (l : List Int) : List Int := rotGo m (b - a) (m - a) (b - m) l
theorem res74 : Try.f74.results.toList = [] := by kernel_rfl
theorem res73 : Try.f73.results.toList = [] := by kernel_rfl
theorem swap_loop {db : Nat} {cp : HV} {f : Int → Int} {dom : Int → Prop} {K : Heap → Prop} (hc : Cmp db cp f dom K) (n : Nat) (hn : n ≤ 1000) (a b m : Nat) (ha : a + m ≤ n) (hb : b + m ≤ n) : ∀ (d i : Nat) (l : List Int) (H : Heap), i + d = m → l.length = n → Ls db K dom l H →
    ∃ H', RunsTo Try.prog polS 74 (sub [1, 0] B74) (env74 (.sl db 0 n none n 1) (.int .i64 (a : Int)) (.int .i64 (b : Int)) (.int .i64 (m : Int)) (.int .i64 (i : Int))) H
      (.exit 0) (polS.keys 74) (env74 (.sl db 0 n none n 1) (.int .i64 (a : Int)) (.int .i64 (b : Int)) (.int .i64 (m : Int)) (.int .i64 (m : Int))) H' ∧ Ls db K dom (swapR a b d i l) H' ∧ Fd db H H' := by
  intro d
  induction d with
  | zero =>
    intro i l H hi hl hL
    have hi : i = m := by omega
    subst hi
    exact ⟨H, RunsTo.loop_out (sw_l_1 0 db n (a : Int) (b : Int) (i : Int) H (i : Int) (by omega)) (by simp) (by kernel_rfl) (by kernel_rfl), hL, Fd.refl _ _⟩
  | succ d ih =>
    intro i l H hi hl hL
    have w1 : IntKind.i64.wrap ((a : Int) + (i : Int)) = ((a + i : Nat) : Int) := by rw [wrapI64]; omega
    have w2 : IntKind.i64.wrap ((b : Int) + (i : Int)) = ((b + i : Nat) : Int) := by rw [wrapI64]; omega
    have gi : ∀ y, y < n → idxV Try.prog 24 (.sl db 0 n none n 1) (.int .i64 ((y : Nat) : Int)) = some (.ptr db (((y : Nat) : Int).toNat) 0 n) := fun y hy => idx_sl u24b z3b (by omega) (by omega)
    have gl : ∀ y, y < n → loadV Try.prog H 3 (.ptr db (((y : Nat) : Int).toNat) 0 n) = some (.int .i64 (l.getD y 0)) := fun y hy => by
      rw [Int.toNat_natCast, ← hl]; exact hL.load (by omega)
    obtain ⟨s1, s2, s3, s4⟩ := hL.swp_ hc (i := a + i) (j := b + i) (by omega) (by omega)
    rw [hl] at s1 s2
    have st := sw_l_0 0 db n (a : Int) (b : Int) (m : Int) H (i : Int) (l.getD (b + i) 0) (l.getD (a + i) 0) _ _ (by omega) (by rw [w2]; exact gi _ (by omega)) (by rw [w2]; exact gl _ (by omega)) (by rw [w1]; exact gi _ (by omega)) (by rw [w1]; exact gl _ (by omega)) (by rw [w1]; exact gi _ (by omega)) (by rw [w1, Int.toNat_natCast]; exact s1) (by rw [w2]; exact gi _ (by omega)) (by rw [w2, Int.toNat_natCast]; exact s2)
    rw [wrap_succ (by omega)] at st
    obtain ⟨H', r2, h2, h3⟩ := ih (i + 1) (swp l (a + i) (b + i)) _ (by omega) (by rw [swp_len]; exact hl) s3
    exact ⟨H', RunsTo.loop st (by kernel_rfl) (gc_eq _ s4.len) r2 rfl (by kernel_rfl) (by kernel_rfl), by rw [swapR]; exact h2, s4.trans h3⟩
theorem swapR_call {db : Nat} {cp : HV} {f : Int → Int} {dom : Int → Prop} {K : Heap → Prop} (hc : Cmp db cp f dom K) {n a b m : Nat} (hn : n ≤ 1000) (ha : a + m ≤ n) (hb : b + m ≤ n) {l : List Int} {H : Heap} (hl : l.length = n) (hL : Ls db K dom l H) (cv : HV) :
    ∃ H', Cl 74 [.sl db 0 n none n 1, .int .i64 (a : Int), .int .i64 (b : Int), .int .i64 (m : Int), .func 67 [] [cv]] H (.tuple []) H' ∧ Ls db K dom (swapR a b m 0 l) H' ∧ Fd db H H' := by
  have a1 := sw_a_0 0 db n (a : Int) (b : Int) (m : Int) cv H
  obtain ⟨H', r, hL', hF⟩ := swap_loop hc n hn a b m ha hb m 0 l H (by omega) hl hL
  have t1 := RunsTo.seq a1 (RunsTo.block_exit (c := sub [1] B74) r (by kernel_rfl)) (c := B74) (by kernel_rfl) (by kernel_rfl)
  have hcl := CallsTo.shared (P := Try.prog) (pol := polS) (g := 74) (fn := Try.f74) (cd := B74) (args := [.sl db 0 n none n 1, .int .i64 (a : Int), .int .i64 (b : Int), .int .i64 (m : Int), .func 67 [] [cv]]) (v := .tuple []) (by kernel_rfl) (by kernel_rfl) (by kernel_rfl) (by kernel_rfl) t1 (by kernel_rfl) (by simp) (by simp only [resultsV, res74, mapO])
  rw [gc_eq _ hF.len] at hcl
  exact ⟨H', hcl, hL', hF⟩
theorem rot_loop {db : Nat} {cp : HV} {f : Int → Int} {dom : Int → Prop} {K : Heap → Prop} (hc : Cmp db cp f dom K) (n : Nat) (hn : n ≤ 1000) (a m b : Nat) (hb : b ≤ n) : ∀ (k i j : Nat) (l : List Int) (H : Heap), i + j ≤ k + 1 → 0 < i → 0 < j → i ≤ m → m + j ≤ n → l.length = n → Ls db K dom l H →
    ∃ (i' j' : Nat) (l' : List Int) (H' : Heap), RunsTo Try.prog polS 73 (sub [1, 1, 0, 0] B73) (env73 (.sl db 0 n none n 1) (.int .i64 (a : Int)) (.int .i64 (m : Int)) (.int .i64 (b : Int)) (.func 67 [] [cp]) (.int .i64 (i : Int)) (.int .i64 (j : Int))) H
      (.exit 0) (polS.keys 73) (env73 (.sl db 0 n none n 1) (.int .i64 (a : Int)) (.int .i64 (m : Int)) (.int .i64 (b : Int)) (.func 67 [] [cp]) (.int .i64 (i' : Int)) (.int .i64 (j' : Int))) H' ∧ Ls db K dom l' H' ∧ Fd db H H' ∧ l'.length = n ∧ i' ≤ m ∧ m + i' ≤ n ∧ rotGo m k i j l = swapR (m - i') m i' 0 l' := by
  intro k
  induction k with
  | zero =>
    intro i j l H hk hi hj _ _ _ _
    omega
  | succ k ih =>
    intro i j l H hk hi hj him hjn hl hL
    rw [rotGo]
    by_cases e : i = j
    · rw [if_pos e]
      have s1 := ro_l_0 0 db n (a : Int) (m : Int) (b : Int) cp H (i : Int) (j : Int) (by omega)
      exact ⟨i, j, l, H, RunsTo.loop_out s1 (by simp) (by kernel_rfl) (by kernel_rfl), hL, Fd.refl _ _, hl, him, by omega, rfl⟩
    · rw [if_neg e]
      by_cases h : j < i
      · rw [if_pos h]
        have w1 : IntKind.i64.wrap ((m : Int) - (i : Int)) = ((m - i : Nat) : Int) := by rw [wrapI64]; omega
        have w2 : IntKind.i64.wrap ((i : Int) - (j : Int)) = ((i - j : Nat) : Int) := by rw [wrapI64]; omega
        obtain ⟨H1, c1, hL1, hF1⟩ := swapR_call hc (n := n) (a := m - i) (b := m) (m := j) hn (by omega) (by omega) hl hL cp
        obtain ⟨N, hN⟩ := c1.from
        have s1 := ro_l_1 N db n (a : Int) (m : Int) (b : Int) cp H (i : Int) (j : Int) H1 (by omega) (by omega) (by rw [w1]; exact hN)
        rw [w2] at s1
        obtain ⟨i', j', l', H', r, h1, h2, h3, h4, h5, h6⟩ := ih (i - j) j (swapR (m - i) m j 0 l) H1 (by omega) (by omega) hj (by omega) hjn (by rw [swapR_len]; exact hl) hL1
        exact ⟨i', j', l', H', RunsTo.loop s1 (by kernel_rfl) (gc_eq _ hF1.len) r rfl (by kernel_rfl) (by kernel_rfl), h1, hF1.trans h2, h3, h4, h5, h6⟩
      · rw [if_neg h]
        have w1 : IntKind.i64.wrap ((m : Int) - (i : Int)) = ((m - i : Nat) : Int) := by rw [wrapI64]; omega
        have w2 : IntKind.i64.wrap ((j : Int) - (i : Int)) = ((j - i : Nat) : Int) := by rw [wrapI64]; omega
        have w3 : IntKind.i64.wrap ((m : Int) + (j : Int)) = ((m + j : Nat) : Int) := by rw [wrapI64]; omega
        have w4 : IntKind.i64.wrap (((m + j : Nat) : Int) - (i : Int)) = ((m + j - i : Nat) : Int) := by rw [wrapI64]; omega
        obtain ⟨H1, c1, hL1, hF1⟩ := swapR_call hc (n := n) (a := m - i) (b := m + j - i) (m := i) hn (by omega) (by omega) hl hL cp
        obtain ⟨N, hN⟩ := c1.from
        have s1 := ro_l_2 N db n (a : Int) (m : Int) (b : Int) cp H (i : Int) (j : Int) H1 (by omega) (by omega) (by rw [w1, w3, w4]; exact hN)
        rw [w2] at s1
        obtain ⟨i', j', l', H', r, h1, h2, h3, h4, h5, h6⟩ := ih i (j - i) (swapR (m - i) (m + j - i) i 0 l) H1 (by omega) hi (by omega) him (by omega) (by rw [swapR_len]; exact hl) hL1
        exact ⟨i', j', l', H', RunsTo.loop s1 (by kernel_rfl) (gc_eq _ hF1.len) r rfl (by kernel_rfl) (by kernel_rfl), h1, hF1.trans h2, h3, h4, h5, h6⟩
theorem rotate_call {db : Nat} {cp : HV} {f : Int → Int} {dom : Int → Prop} {K : Heap → Prop} (hc : Cmp db cp f dom K) {n a m b : Nat} (hn : n ≤ 1000) (ham : a < m) (hmb : m < b) (hb : b ≤ n) {l : List Int} {H : Heap} (hl : l.length = n) (hL : Ls db K dom l H) :
    ∃ H', Cl 73 [.sl db 0 n none n 1, .int .i64 (a : Int), .int .i64 (m : Int), .int .i64 (b : Int), .func 67 [] [cp]] H (.tuple []) H' ∧ Ls db K dom (rotate a m b l) H' ∧ Fd db H H' := by
  have a1 := ro_a_0 0 db n (a : Int) (m : Int) (b : Int) cp H
  have b1 := ro_b_0 0 db n (a : Int) (m : Int) (b : Int) cp H ((m - a : Nat) : Int)
  have w1 : IntKind.i64.wrap ((m : Int) - (a : Int)) = ((m - a : Nat) : Int) := by rw [wrapI64]; omega
  have w2 : IntKind.i64.wrap ((b : Int) - (m : Int)) = ((b - m : Nat) : Int) := by rw [wrapI64]; omega
  rw [w1] at a1
  rw [w2] at b1
  obtain ⟨i', j', l', H1, r, hL1, hF1, hl1, h4, h5, h6⟩ := rot_loop hc n hn a m b hb (b - a) (m - a) (b - m) l H (by omega) (by omega) (by omega) (by omega) (by omega) hl hL
  obtain ⟨H2, c2, hL2, hF2⟩ := swapR_call hc (n := n) (a := m - i') (b := m) (m := i') hn (by omega) (by omega) hl1 hL1 cp
  obtain ⟨N, hN⟩ := c2.from
  have w3 : IntKind.i64.wrap ((m : Int) - (i' : Int)) = ((m - i' : Nat) : Int) := by rw [wrapI64]; omega
  have z1 := ro_z_0 N db n (a : Int) (m : Int) (b : Int) cp H1 (i' : Int) (j' : Int) H2 (by rw [w3]; exact hN)
  have t1 := RunsTo.seq (RunsTo.block_exit (c := sub [1, 1, 0] B73) r (by kernel_rfl)) z1 (c := sub [1, 1] B73) (by kernel_rfl) (by kernel_rfl)
  have t2 := RunsTo.seq b1 t1 (c := sub [1] B73) (by kernel_rfl) (by kernel_rfl)
  have t3 := RunsTo.seq a1 t2 (c := B73) (by kernel_rfl) (by kernel_rfl)
  have hcl := CallsTo.shared (P := Try.prog) (pol := polS) (g := 73) (fn := Try.f73) (cd := B73) (args := [.sl db 0 n none n 1, .int .i64 (a : Int), .int .i64 (m : Int), .int .i64 (b : Int), .func 67 [] [cp]]) (v := .tuple []) (by kernel_rfl) (by kernel_rfl) (by kernel_rfl) (by kernel_rfl) t3 (by kernel_rfl) (by simp) (by simp only [resultsV, res73, mapO])
  rw [gc_eq _ (hF1.trans hF2).len] at hcl
  exact ⟨H2, hcl, by rw [rotate, h6]; exact hL2, hF1.trans hF2⟩
end Go.Proofs.Ytmhfkhlamnapdaa
end
section
open Go Go.HL
namespace Go.Proofs.Ytmhfkhlamnapdaa
def bs (q : Nat → Bool) : Nat → Nat → Nat → Nat
  | 0, i, _ => i
  | d + 1, i, j => if i < j then (if q ((i + j) / 2) = true then bs q d ((i + j) / 2 + 1) j else bs q d i ((i + j) / 2)) else i
theorem bs_bound (q : Nat → Bool) : ∀ (d i j : Nat), i ≤ j → i ≤ bs q d i j ∧ bs q d i j ≤ j
  | 0, i, j, h => by rw [bs]; omega
  | d + 1, i, j, h => by
    rw [bs]
    split
    · split
      · have := bs_bound q d ((i + j) / 2 + 1) j (by omega); omega
      · have := bs_bound q d i ((i + j) / 2) (by omega); omega
    · omega
def mvUp : Nat → Nat → List Int → List Int
  | 0, _, l => l
  | d + 1, k, l => mvUp d (k + 1) (swp l k (k + 1))
def mvDn : Nat → Nat → List Int → List Int
  | 0, _, l => l
  | d + 1, k, l => mvDn d (k - 1) (swp l k (k - 1))
theorem mvUp_len : ∀ (d k : Nat) (l : List Int), (mvUp d k l).length = l.length
  | 0, _, _ => rfl
  | d + 1, k, l => by rw [mvUp, mvUp_len d, swp_len]
theorem mvDn_len : ∀ (d k : Nat) (l : List Int), (mvDn d k l).length = l.length
  | 0, _, _ => rfl
  | d + 1, k, l => by rw [mvDn, mvDn_len d, swp_len]
theorem rotate_len (a m b : Nat) (l : List Int) : (rotate a m b l).length = l.length := rotGo_len _ _ _ _ _
def s0F (m b mid a : Nat) : Nat := if mid < m then mid + m - b else a
def r0F (m mid : Nat) : Nat := if mid < m then mid else m
def sF (f : Int → Int) (a m b : Nat) (l : List Int) : Nat :=
  bs (fun c => !decide (f (l.getD c 0) < f (l.getD ((a + b) / 2 + m - 1 - c) 0))) (r0F m ((a + b) / 2) - s0F m b ((a + b) / 2) a) (s0F m b ((a + b) / 2) a) (r0F m ((a + b) / 2))
def symM (f : Int → Int) : Nat → Nat → Nat → Nat → List Int → List Int
  | 0, _, _, _, l => l
  | k + 1, a, m, b, l =>
    if m - a = 1 then mvUp (bs (fun h => decide (f (l.getD a 0) < f (l.getD h 0))) (b - m) m b - 1 - a) a l
    else if b - m = 1 then mvDn (m - bs (fun h => !decide (f (l.getD h 0) < f (l.getD m 0))) (m - a) a m) m l
    else
      let mid := (a + b) / 2
      let s := sF f a m b l
      let e := mid + m - s
      let l1 := if s < m ∧ m < e then rotate s m e l else l
      let l2 := if a < s ∧ s < mid then symM f k a s mid l1 else l1
      if mid < e ∧ e < b then symM f k mid e b l2 else l2
theorem symM_len (f : Int → Int) : ∀ (k a m b : Nat) (l : List Int), (symM f k a m b l).length = l.length
  | 0, _, _, _, _ => rfl
  | k + 1, a, m, b, l => by
    rw [symM]
    split
    · exact mvUp_len _ _ _
    · split
      · exact mvDn_len _ _ _
      · dsimp only
        have h1 : ∀ (c : Prop) [Decidable c] (s m e : Nat) (l : List Int), (if c then rotate s m e l else l).length = l.length := by intro c _ s m e l; split; exact rotate_len _ _ _ _; rfl
        split
        · rw [symM_len f k]
          split
          · rw [symM_len f k, h1]
          · rw [h1]
        · split
          · rw [symM_len f k, h1]
          · rw [h1]
theorem mid_shr (i j : Nat) (hi : i ≤ 100000) (hj : j ≤ 100000) : binV Try.prog .shr 76 (.int .u64 (IntKind.u64.wrap (IntKind.i64.wrap ((i : Int) + (j : Int))))) (.int .u64 1) = some (.int .u64 (((i + j) / 2 : Nat) : Int)) := by
  have e1 : IntKind.i64.wrap ((i : Int) + (j : Int)) = ((i + j : Nat) : Int) := by rw [wrapI64]; omega
  have e2 : IntKind.u64.wrap ((i + j : Nat) : Int) = ((i + j : Nat) : Int) := by rw [wrapU64]; omega
  have e3 : (((i + j : Nat) : Int)).fdiv (2 ^ min (1 : Int).toNat IntKind.u64.bits) = (((i + j) / 2 : Nat) : Int) := by
    have : (2 : Int) ^ min (1 : Int).toNat IntKind.u64.bits = 2 := by decide
    rw [this, Int.fdiv_eq_ediv_of_nonneg _ (by omega)]
    omega
  have e4 : IntKind.u64.wrap (((i + j) / 2 : Nat) : Int) = (((i + j) / 2 : Nat) : Int) := by rw [wrapU64]; omega
  rw [e1, e2]
  simp only [binV, intBin]
  rw [if_neg (by omega), e3]
theorem mid_i64 (h : Nat) (hh : h ≤ 100000) : IntKind.i64.wrap ((h : Nat) : Int) = (h : Int) := by rw [wrapI64]; omega
abbrev sE (db n : Nat) (a m b : Int) (cp : HV) (v10 v11 v12 v13 v14 v15 v16 v17 v18 v19 v20 v21 v22 v23 v24 : HV) : Env :=
  env72 (.sl db 0 n none n 1) (.int .i64 a) (.int .i64 m) (.int .i64 b) (.func 67 [] [cp]) v10 v11 v12 v13 v14 v15 v16 v17 v18 v19 v20 v21 v22 v23 v24
section
variable {db : Nat} {cp : HV} {f : Int → Int} {dom : Int → Prop} {K : Heap → Prop}
theorem gi_ {db n y : Nat} (hy : y < n) : idxV Try.prog 24 (.sl db 0 n none n 1) (.int .i64 ((y : Nat) : Int)) = some (.ptr db (((y : Nat) : Int).toNat) 0 n) := idx_sl u24b z3b (by omega) (by omega)
end
section
variable {db : Nat} {cp : HV} {f : Int → Int} {dom : Int → Prop} {K : Heap → Prop}
theorem Ls.gl_ {l : List Int} {H : Heap} {n y : Nat} (hL : Ls db K dom l H) (hl : l.length = n) (hy : y < n) : loadV Try.prog H 3 (.ptr db (((y : Nat) : Int).toNat) 0 n) = some (.int .i64 (l.getD y 0)) := by
  rw [Int.toNat_natCast, ← hl]; exact hL.load (by omega)
end
section
variable {db : Nat} {cp : HV} {f : Int → Int} {dom : Int → Prop} {K : Heap → Prop}
theorem sy_bs1 (hc : Cmp db cp f dom K) (n : Nat) (hn : n ≤ 1000) (a m b : Nat) (ha : a < n) (hb : b ≤ n) (l : List Int) (hl : l.length = n) : ∀ (d i j : Nat) (H : Heap), j - i ≤ d → j ≤ b → Ls db K dom l H →
    ∃ (j' : Nat) (H' : Heap), RunsTo Try.prog polS 72 (sub [0, 1, 0, 1, 1, 0, 0] B72) (sE db n a m b cp (.int .i64 (i : Int)) (.int .i64 (j : Int)) .undef .undef .undef .undef .undef .undef .undef .undef .undef .undef .undef .undef .undef) H
      (.exit 0) (polS.keys 72) (sE db n a m b cp (.int .i64 ((bs (fun h => decide (f (l.getD a 0) < f (l.getD h 0))) d i j : Nat) : Int)) (.int .i64 (j' : Int)) .undef .undef .undef .undef .undef .undef .undef .undef .undef .undef .undef .undef .undef) H' ∧ Ls db K dom l H' ∧ Fr H H' := by
  intro d
  induction d with
  | zero =>
    intro i j H hd hj hL
    rw [bs]
    exact ⟨j, H, RunsTo.loop_out (sy_d_2 0 db n (a : Int) (m : Int) (b : Int) cp H (i : Int) (j : Int) (by omega)) (by simp) (by kernel_rfl) (by kernel_rfl), hL, Fr.refl _⟩
  | succ d ih =>
    intro i j H hd hj hL
    rw [bs]
    by_cases hij : i < j
    · rw [if_pos hij]
      have hh : (i + j) / 2 < n := by omega
      have hw := mid_i64 ((i + j) / 2) (by omega)
      obtain ⟨c, H1, hcl, hlt, hK, hF⟩ := hc.call H (l.getD ((i + j) / 2) 0) (l.getD a 0) hL.ok (hL.dom_ (by omega)) (hL.dom_ (by omega))
      obtain ⟨N, hN⟩ := hcl.from
      have hL1 := hL.fr hc.one hK hF
      by_cases hq : f (l.getD a 0) < f (l.getD ((i + j) / 2) 0)
      · rw [if_pos (by simpa using hq)]
        have st := sy_d_0 N db n (a : Int) (m : Int) (b : Int) cp H (i : Int) (j : Int) _ _ _ c H1 (by omega) (mid_shr i j (by omega) (by omega)) (by rw [hw]; exact gi_ hh) (by rw [hw]; exact hL.gl_ hl hh) (gi_ ha) (hL.gl_ hl ha) hN (hlt.2 hq)
        rw [hw, wrap_succ (by omega)] at st
        obtain ⟨j', H2, r2, h2, h3⟩ := ih ((i + j) / 2 + 1) j H1 (by omega) hj hL1
        exact ⟨j', H2, RunsTo.loop st (by kernel_rfl) (gc_eq _ hF.len) r2 rfl (by kernel_rfl) (by kernel_rfl), h2, hF.trans h3⟩
      · rw [if_neg (by simpa using hq)]
        have st := sy_d_1 N db n (a : Int) (m : Int) (b : Int) cp H (i : Int) (j : Int) _ _ _ c H1 (by omega) (mid_shr i j (by omega) (by omega)) (by rw [hw]; exact gi_ hh) (by rw [hw]; exact hL.gl_ hl hh) (gi_ ha) (hL.gl_ hl ha) hN (fun h => hq (hlt.1 h))
        rw [hw] at st
        obtain ⟨j', H2, r2, h2, h3⟩ := ih i ((i + j) / 2) H1 (by omega) (by omega) hL1
        exact ⟨j', H2, RunsTo.loop st (by kernel_rfl) (gc_eq _ hF.len) r2 rfl (by kernel_rfl) (by kernel_rfl), h2, hF.trans h3⟩
    · rw [if_neg hij]
      exact ⟨j, H, RunsTo.loop_out (sy_d_2 0 db n (a : Int) (m : Int) (b : Int) cp H (i : Int) (j : Int) (by omega)) (by simp) (by kernel_rfl) (by kernel_rfl), hL, Fr.refl _⟩
end
section
variable {db : Nat} {cp : HV} {f : Int → Int} {dom : Int → Prop} {K : Heap → Prop}
theorem sy_bs2 (hc : Cmp db cp f dom K) (n : Nat) (hn : n ≤ 1000) (a m b : Nat) (hm : m < n) (l : List Int) (hl : l.length = n) : ∀ (d i j : Nat) (H : Heap), j - i ≤ d → j ≤ m → Ls db K dom l H →
    ∃ (j' : Nat) (H' : Heap), RunsTo Try.prog polS 72 (sub [1, 0, 1, 0, 1, 1, 0, 0] B72) (sE db n a m b cp .undef .undef .undef .undef (.int .i64 (i : Int)) (.int .i64 (j : Int)) .undef .undef .undef .undef .undef .undef .undef .undef .undef) H
      (.exit 4) (polS.keys 72) (sE db n a m b cp .undef .undef .undef .undef (.int .i64 ((bs (fun h => !decide (f (l.getD h 0) < f (l.getD m 0))) d i j : Nat) : Int)) (.int .i64 (j' : Int)) .undef .undef .undef .undef .undef .undef .undef .undef .undef) H' ∧ Ls db K dom l H' ∧ Fr H H' := by
  intro d
  induction d with
  | zero =>
    intro i j H hd hj hL
    rw [bs]
    exact ⟨j, H, RunsTo.loop_out (sy_k_2 0 db n (a : Int) (m : Int) (b : Int) cp H (i : Int) (j : Int) (by omega)) (by simp) (by kernel_rfl) (by kernel_rfl), hL, Fr.refl _⟩
  | succ d ih =>
    intro i j H hd hj hL
    rw [bs]
    by_cases hij : i < j
    · rw [if_pos hij]
      have hh : (i + j) / 2 < n := by omega
      have hw := mid_i64 ((i + j) / 2) (by omega)
      obtain ⟨c, H1, hcl, hlt, hK, hF⟩ := hc.call H (l.getD m 0) (l.getD ((i + j) / 2) 0) hL.ok (hL.dom_ (by omega)) (hL.dom_ (by omega))
      obtain ⟨N, hN⟩ := hcl.from
      have hL1 := hL.fr hc.one hK hF
      by_cases hq : f (l.getD ((i + j) / 2) 0) < f (l.getD m 0)
      · rw [if_neg (by simpa using hq)]
        have st := sy_k_0 N db n (a : Int) (m : Int) (b : Int) cp H (i : Int) (j : Int) _ _ _ c H1 (by omega) (mid_shr i j (by omega) (by omega)) (gi_ hm) (hL.gl_ hl hm) (by rw [hw]; exact gi_ hh) (by rw [hw]; exact hL.gl_ hl hh) hN (hlt.2 hq)
        rw [hw] at st
        obtain ⟨j', H2, r2, h2, h3⟩ := ih i ((i + j) / 2) H1 (by omega) (by omega) hL1
        exact ⟨j', H2, RunsTo.loop st (by kernel_rfl) (gc_eq _ hF.len) r2 rfl (by kernel_rfl) (by kernel_rfl), h2, hF.trans h3⟩
      · rw [if_pos (by simpa using hq)]
        have st := sy_k_1 N db n (a : Int) (m : Int) (b : Int) cp H (i : Int) (j : Int) _ _ _ c H1 (by omega) (mid_shr i j (by omega) (by omega)) (gi_ hm) (hL.gl_ hl hm) (by rw [hw]; exact gi_ hh) (by rw [hw]; exact hL.gl_ hl hh) hN (fun h => hq (hlt.1 h))
        rw [hw, wrap_succ (by omega)] at st
        obtain ⟨j', H2, r2, h2, h3⟩ := ih ((i + j) / 2 + 1) j H1 (by omega) hj hL1
        exact ⟨j', H2, RunsTo.loop st (by kernel_rfl) (gc_eq _ hF.len) r2 rfl (by kernel_rfl) (by kernel_rfl), h2, hF.trans h3⟩
    · rw [if_neg hij]
      exact ⟨j, H, RunsTo.loop_out (sy_k_2 0 db n (a : Int) (m : Int) (b : Int) cp H (i : Int) (j : Int) (by omega)) (by simp) (by kernel_rfl) (by kernel_rfl), hL, Fr.refl _⟩
end
section
variable {db : Nat} {cp : HV} {f : Int → Int} {dom : Int → Prop} {K : Heap → Prop}
theorem sy_bs3 (hc : Cmp db cp f dom K) (n : Nat) (hn : n ≤ 1000) (a m b mid nn : Nat) (hnn : 1 ≤ nn ∧ nn ≤ 2000) (l : List Int) (hl : l.length = n) (s0 r0 : Nat) (hb : ∀ c, s0 ≤ c → c < r0 → c < n ∧ c ≤ nn - 1 ∧ nn - 1 - c < n) : ∀ (d i j : Nat) (H : Heap), j - i ≤ d → s0 ≤ i → j ≤ r0 → Ls db K dom l H →
    ∃ (j' : Nat) (H' : Heap), RunsTo Try.prog polS 72 (sub [1, 1, 1, 1, 1, 1, 1, 0, 0] B72) (sE db n a m b cp .undef .undef .undef .undef .undef .undef .undef .undef (.int .i64 (mid : Int)) (.int .i64 (nn : Int)) (.int .i64 (i : Int)) (.int .i64 (j : Int)) (.int .i64 ((nn - 1 : Nat) : Int)) .undef .undef) H
      (.exit 8) (polS.keys 72) (sE db n a m b cp .undef .undef .undef .undef .undef .undef .undef .undef (.int .i64 (mid : Int)) (.int .i64 (nn : Int)) (.int .i64 ((bs (fun c => !decide (f (l.getD c 0) < f (l.getD (nn - 1 - c) 0))) d i j : Nat) : Int)) (.int .i64 (j' : Int)) (.int .i64 ((nn - 1 : Nat) : Int)) .undef .undef) H' ∧ Ls db K dom l H' ∧ Fr H H' := by
  intro d
  induction d with
  | zero =>
    intro i j H hd _ hj hL
    rw [bs]
    exact ⟨j, H, RunsTo.loop_out (sy_t_2 0 db n (a : Int) (m : Int) (b : Int) cp H (mid : Int) (nn : Int) (i : Int) (j : Int) ((nn - 1 : Nat) : Int) (by omega)) (by simp) (by kernel_rfl) (by kernel_rfl), hL, Fr.refl _⟩
  | succ d ih =>
    intro i j H hd hi hj hL
    rw [bs]
    by_cases hij : i < j
    · rw [if_pos hij]
      obtain ⟨hh, hle, hp⟩ := hb ((i + j) / 2) (by omega) (by omega)
      have hw := mid_i64 ((i + j) / 2) (by omega)
      have hw2 : IntKind.i64.wrap (((nn - 1 : Nat) : Int) - (((i + j) / 2 : Nat) : Int)) = ((nn - 1 - (i + j) / 2 : Nat) : Int) := by rw [wrapI64]; omega
      obtain ⟨c, H1, hcl, hlt, hK, hF⟩ := hc.call H (l.getD (nn - 1 - (i + j) / 2) 0) (l.getD ((i + j) / 2) 0) hL.ok (hL.dom_ (by omega)) (hL.dom_ (by omega))
      obtain ⟨N, hN⟩ := hcl.from
      have hL1 := hL.fr hc.one hK hF
      by_cases hq : f (l.getD ((i + j) / 2) 0) < f (l.getD (nn - 1 - (i + j) / 2) 0)
      · rw [if_neg (by simpa using hq)]
        have st := sy_t_0 N db n (a : Int) (m : Int) (b : Int) cp H (mid : Int) (nn : Int) (i : Int) (j : Int) ((nn - 1 : Nat) : Int) _ _ _ c H1 (by omega) (mid_shr i j (by omega) (by omega)) (by rw [hw, hw2]; exact gi_ hp) (by rw [hw, hw2]; exact hL.gl_ hl hp) (by rw [hw]; exact gi_ hh) (by rw [hw]; exact hL.gl_ hl hh) hN (hlt.2 hq)
        rw [hw] at st
        obtain ⟨j', H2, r2, h2, h3⟩ := ih i ((i + j) / 2) H1 (by omega) hi (by omega) hL1
        exact ⟨j', H2, RunsTo.loop st (by kernel_rfl) (gc_eq _ hF.len) r2 rfl (by kernel_rfl) (by kernel_rfl), h2, hF.trans h3⟩
      · rw [if_pos (by simpa using hq)]
        have st := sy_t_1 N db n (a : Int) (m : Int) (b : Int) cp H (mid : Int) (nn : Int) (i : Int) (j : Int) ((nn - 1 : Nat) : Int) _ _ _ c H1 (by omega) (mid_shr i j (by omega) (by omega)) (by rw [hw, hw2]; exact gi_ hp) (by rw [hw, hw2]; exact hL.gl_ hl hp) (by rw [hw]; exact gi_ hh) (by rw [hw]; exact hL.gl_ hl hh) hN (fun h => hq (hlt.1 h))
        rw [hw, wrap_succ (by omega)] at st
        obtain ⟨j', H2, r2, h2, h3⟩ := ih ((i + j) / 2 + 1) j H1 (by omega) (by omega) hj hL1
        exact ⟨j', H2, RunsTo.loop st (by kernel_rfl) (gc_eq _ hF.len) r2 rfl (by kernel_rfl) (by kernel_rfl), h2, hF.trans h3⟩
    · rw [if_neg hij]
      exact ⟨j, H, RunsTo.loop_out (sy_t_2 0 db n (a : Int) (m : Int) (b : Int) cp H (mid : Int) (nn : Int) (i : Int) (j : Int) ((nn - 1 : Nat) : Int) (by omega)) (by simp) (by kernel_rfl) (by kernel_rfl), hL, Fr.refl _⟩
end
section
variable {db : Nat} {cp : HV} {f : Int → Int} {dom : Int → Prop} {K : Heap → Prop}
theorem sy_up (hc : Cmp db cp f dom K) (n : Nat) (hn : n ≤ 1000) (a m b : Int) (i : Nat) (hi : 1 ≤ i ∧ i ≤ n) : ∀ (d k : Nat) (l : List Int) (H : Heap), k + d = i - 1 → l.length = n → Ls db K dom l H →
    ∃ H', RunsTo Try.prog polS 72 (sub [0, 1, 0, 1, 1, 1, 0, 1, 0] B72) (sE db n a m b cp (.int .i64 (i : Int)) .undef .undef (.int .i64 (k : Int)) .undef .undef .undef .undef .undef .undef .undef .undef .undef .undef .undef) H
      (.exit 2) (polS.keys 72) (sE db n a m b cp (.int .i64 (i : Int)) .undef .undef (.int .i64 ((i - 1 : Nat) : Int)) .undef .undef .undef .undef .undef .undef .undef .undef .undef .undef .undef) H' ∧ Ls db K dom (mvUp d k l) H' ∧ Fd db H H' := by
  have w0 : IntKind.i64.wrap ((i : Int) - 1) = ((i - 1 : Nat) : Int) := by rw [wrapI64]; omega
  intro d
  induction d with
  | zero =>
    intro k l H hk hl hL
    have hk : k = i - 1 := by omega
    subst hk
    exact ⟨H, RunsTo.loop_out (sy_f_1 0 db n a m b cp H (i : Int) ((i - 1 : Nat) : Int) (by rw [w0]; omega)) (by simp) (by kernel_rfl) (by kernel_rfl), hL, Fd.refl _ _⟩
  | succ d ih =>
    intro k l H hk hl hL
    have w1 : IntKind.i64.wrap ((k : Int) + 1) = ((k + 1 : Nat) : Int) := by rw [wrapI64]; omega
    obtain ⟨s1, s2, s3, s4⟩ := hL.swp_ hc (i := k) (j := k + 1) (by omega) (by omega)
    rw [hl] at s1 s2
    have st := sy_f_0 0 db n a m b cp H (i : Int) (k : Int) _ _ _ _ (by rw [w0]; omega) (by rw [w1]; exact gi_ (by omega)) (by rw [w1]; exact hL.gl_ hl (by omega)) (gi_ (by omega)) (hL.gl_ hl (by omega)) (gi_ (by omega)) (by rw [Int.toNat_natCast]; exact s1) (by rw [w1]; exact gi_ (by omega)) (by rw [w1, Int.toNat_natCast]; exact s2)
    rw [w1] at st
    obtain ⟨H', r2, h2, h3⟩ := ih (k + 1) (swp l k (k + 1)) _ (by omega) (by rw [swp_len]; exact hl) s3
    exact ⟨H', RunsTo.loop st (by kernel_rfl) (gc_eq _ s4.len) r2 rfl (by kernel_rfl) (by kernel_rfl), by rw [mvUp]; exact h2, s4.trans h3⟩
end
section
variable {db : Nat} {cp : HV} {f : Int → Int} {dom : Int → Prop} {K : Heap → Prop}
theorem sy_dn (hc : Cmp db cp f dom K) (n : Nat) (hn : n ≤ 1000) (a m b : Int) (i : Nat) : ∀ (d k : Nat) (l : List Int) (H : Heap), k = i + d → k < n → l.length = n → Ls db K dom l H →
    ∃ H', RunsTo Try.prog polS 72 (sub [1, 0, 1, 0, 1, 1, 1, 0, 1, 0] B72) (sE db n a m b cp .undef .undef .undef .undef (.int .i64 (i : Int)) .undef .undef (.int .i64 (k : Int)) .undef .undef .undef .undef .undef .undef .undef) H
      (.exit 6) (polS.keys 72) (sE db n a m b cp .undef .undef .undef .undef (.int .i64 (i : Int)) .undef .undef (.int .i64 (i : Int)) .undef .undef .undef .undef .undef .undef .undef) H' ∧ Ls db K dom (mvDn d k l) H' ∧ Fd db H H' := by
  intro d
  induction d with
  | zero =>
    intro k l H hk hkn hl hL
    have hk : k = i := by omega
    subst hk
    exact ⟨H, RunsTo.loop_out (sy_m_1 0 db n a m b cp H (k : Int) (k : Int) (by omega)) (by simp) (by kernel_rfl) (by kernel_rfl), hL, Fd.refl _ _⟩
  | succ d ih =>
    intro k l H hk hkn hl hL
    have w1 : IntKind.i64.wrap ((k : Int) - 1) = ((k - 1 : Nat) : Int) := by rw [wrapI64]; omega
    obtain ⟨s1, s2, s3, s4⟩ := hL.swp_ hc (i := k) (j := k - 1) (by omega) (by omega)
    rw [hl] at s1 s2
    have st := sy_m_0 0 db n a m b cp H (i : Int) (k : Int) _ _ _ _ (by omega) (by rw [w1]; exact gi_ (by omega)) (by rw [w1]; exact hL.gl_ hl (by omega)) (gi_ hkn) (hL.gl_ hl hkn) (gi_ hkn) (by rw [Int.toNat_natCast]; exact s1) (by rw [w1]; exact gi_ (by omega)) (by rw [w1, Int.toNat_natCast]; exact s2)
    rw [w1] at st
    obtain ⟨H', r2, h2, h3⟩ := ih (k - 1) (swp l k (k - 1)) _ (by omega) (by omega) (by rw [swp_len]; exact hl) s3
    exact ⟨H', RunsTo.loop st (by kernel_rfl) (gc_eq _ s4.len) r2 rfl (by kernel_rfl) (by kernel_rfl), by rw [mvDn]; exact h2, s4.trans h3⟩
end
end Go.Proofs.Ytmhfkhlamnapdaa
end
section
open Go Go.HL
namespace Go.Proofs.Ytmhfkhlamnapdaa
theorem res72 : Try.f72.results.toList = [] := by kernel_rfl
section
variable {db : Nat} {cp : HV} {f : Int → Int} {dom : Int → Prop} {K : Heap → Prop}
theorem wsub {x y : Nat} (h : y ≤ x) (hx : x ≤ 100000) : IntKind.i64.wrap ((x : Int) - (y : Int)) = ((x - y : Nat) : Int) := by rw [wrapI64]; omega
end
section
variable {db : Nat} {cp : HV} {f : Int → Int} {dom : Int → Prop} {K : Heap → Prop}
theorem wadd {x y : Nat} (hx : x ≤ 100000) (hy : y ≤ 100000) : IntKind.i64.wrap ((x : Int) + (y : Int)) = ((x + y : Nat) : Int) := by rw [wrapI64]; omega
end
section
variable {db : Nat} {cp : HV} {f : Int → Int} {dom : Int → Prop} {K : Heap → Prop}
theorem sy_done {n : Nat} {a m b : Int} {X : X} {E : Env} {H H' : Heap} (t : RunsTo Try.prog polS 72 B72 [(0, .sl db 0 n none n 1), (1, .int .i64 a), (2, .int .i64 m), (3, .int .i64 b), (4, .func 67 [] [cp])] H X (polS.keys 72) E H') (hx : ∀ i, X ≠ .exit i) (hF : Fd db H H') :
    Cl 72 [.sl db 0 n none n 1, .int .i64 a, .int .i64 m, .int .i64 b, .func 67 [] [cp]] H (.tuple []) H' := by
  have hcl := CallsTo.shared (P := Try.prog) (pol := polS) (g := 72) (fn := Try.f72) (cd := B72) (args := [.sl db 0 n none n 1, .int .i64 a, .int .i64 m, .int .i64 b, .func 67 [] [cp]]) (v := .tuple []) (by kernel_rfl) (by kernel_rfl) (by kernel_rfl) (by kernel_rfl) t (by kernel_rfl) hx (by simp only [resultsV, res72, mapO])
  rw [gc_eq _ hF.len] at hcl
  exact hcl
end
section
variable {db : Nat} {cp : HV} {f : Int → Int} {dom : Int → Prop} {K : Heap → Prop}
theorem symM_call (hc : Cmp db cp f dom K) (n : Nat) (hn : n ≤ 1000) : ∀ (k a m b : Nat) (l : List Int) (H : Heap), b - a ≤ k → a < m → m < b → b ≤ n → l.length = n → Ls db K dom l H →
    ∃ H', Cl 72 [.sl db 0 n none n 1, .i (a : Int), .i (m : Int), .i (b : Int), .func 67 [] [cp]] H (.tuple []) H' ∧ Ls db K dom (symM f k a m b l) H' ∧ Fd db H H' := by
  intro k
  induction k with
  | zero => intro a m b l H h1 h2 h3; omega
  | succ k ih =>
    intro a m b l H hk ham hmb hbn hl hL
    rw [symM]
    by_cases c1 : m - a = 1
    · rw [if_pos c1]
      have a1 := sy_a_0 0 db n (a : Int) (m : Int) (b : Int) cp H (by rw [wsub (by omega) (by omega)]; omega)
      have b1 := sy_b_0 0 db n (a : Int) (m : Int) (b : Int) cp H
      have c2 := sy_c_0 0 db n (a : Int) (m : Int) (b : Int) cp H (m : Int)
      obtain ⟨j', H1, r1, hL1, hF1⟩ := sy_bs1 hc n hn a m b (by omega) hbn l hl (b - m) m b H (by omega) (by omega) hL
      have hbd := bs_bound (fun h => decide (f (l.getD a 0) < f (l.getD h 0))) (b - m) m b (by omega)
      generalize bs (fun h => decide (f (l.getD a 0) < f (l.getD h 0))) (b - m) m b = i at r1 hbd
      have e1 := sy_e_0 0 db n (a : Int) (m : Int) (b : Int) cp H1 (i : Int) (j' : Int) .undef
      obtain ⟨H2, r2, hL2, hF2⟩ := sy_up hc n hn (a : Int) (m : Int) (b : Int) i (by omega) (i - 1 - a) a l H1 (by omega) hl hL1
      have r2' := RunsTo.loop_in (e0 := sE db n a m b cp (.i (i : Int)) (.i (j' : Int)) .undef (.i (a : Int)) .undef .undef .undef .undef .undef .undef .undef .undef .undef .undef .undef) r2 (b := sub [0, 1, 0, 1, 1, 1, 0, 1, 0, 0] B72) (by kernel_rfl) (by kernel_rfl) (by kernel_rfl)
      have g1 := sy_g_0 0 db n (a : Int) (m : Int) (b : Int) cp H2 (i : Int) ((i - 1 : Nat) : Int)
      have t1 := RunsTo.seq e1 (RunsTo.block_exit (c := sub [0, 1, 0, 1, 1, 1, 0, 1] B72) r2' (by kernel_rfl)) (c := sub [0, 1, 0, 1, 1, 1, 0] B72) (by kernel_rfl) (by kernel_rfl)
      have t2 := RunsTo.seq t1 g1 (c := sub [0, 1, 0, 1, 1, 1] B72) (by kernel_rfl) (by kernel_rfl)
      have t3 := RunsTo.seq (RunsTo.block_exit (c := sub [0, 1, 0, 1, 1, 0] B72) r1 (by kernel_rfl)) t2 (c := sub [0, 1, 0, 1, 1] B72) (by kernel_rfl) (by kernel_rfl)
      have t4 := RunsTo.seq c2 t3 (c := sub [0, 1, 0, 1] B72) (by kernel_rfl) (by kernel_rfl)
      have t5 := RunsTo.seq b1 t4 (c := sub [0, 1, 0] B72) (by kernel_rfl) (by kernel_rfl)
      have t6 := RunsTo.seq a1 (RunsTo.cond (y := .tmp 28) (t := true) (c := sub [0, 1] B72) (a := sub [0, 1, 0] B72) (b := sub [0, 1, 1] B72) (by kernel_rfl) rfl t5) (c := sub [0] B72) (by kernel_rfl) (by kernel_rfl)
      have t7 := RunsTo.seq_out t6 (by simp) (c := B72) (b := sub [1] B72) (by kernel_rfl)
      exact ⟨H2, sy_done t7 (by simp) (hF1.fd.trans hF2), hL2, hF1.fd.trans hF2⟩
    · rw [if_neg c1]
      have a1 := sy_a_1 0 db n (a : Int) (m : Int) (b : Int) cp H (by rw [wsub (by omega) (by omega)]; omega)
      have first := fun (E' : Env) (H' : Heap) (X : X) (hx : RunsTo Try.prog polS 72 (sub [1] B72) (sE db n a m b cp .undef .undef .undef .undef .undef .undef .undef .undef .undef .undef .undef .undef .undef .undef .undef) H X (polS.keys 72) E' H') =>
        RunsTo.seq (RunsTo.seq a1 (RunsTo.cond (y := .tmp 28) (t := false) (c := sub [0, 1] B72) (a := sub [0, 1, 0] B72) (b := sub [0, 1, 1] B72) (K := polS.keys 72) (x := .normal) (E := sE db n a m b cp .undef .undef .undef .undef .undef .undef .undef .undef .undef .undef .undef .undef .undef .undef .undef) (by kernel_rfl) rfl (RunsTo.hint 1 60 [] fun kf hk => by
          obtain ⟨kf, rfl⟩ : ∃ n, kf = n + 1 := ⟨kf - 1, by omega⟩
          exact ⟨[], by kernel_rfl, Obls.nil⟩)) (c := sub [0] B72) (by kernel_rfl) (by kernel_rfl)) hx (c := B72) (by kernel_rfl) (by kernel_rfl)
      by_cases c2 : b - m = 1
      · rw [if_pos c2]
        have h1 := sy_h_0 0 db n (a : Int) (m : Int) (b : Int) cp H (by rw [wsub (by omega) (by omega)]; omega)
        have i1 := sy_i_0 0 db n (a : Int) (m : Int) (b : Int) cp H
        have j1 := sy_j_0 0 db n (a : Int) (m : Int) (b : Int) cp H (a : Int)
        obtain ⟨j', H1, r1, hL1, hF1⟩ := sy_bs2 hc n hn a m b (by omega) l hl (m - a) a m H (by omega) (by omega) hL
        have hbd := bs_bound (fun h => !decide (f (l.getD h 0) < f (l.getD m 0))) (m - a) a m (by omega)
        generalize bs (fun h => !decide (f (l.getD h 0) < f (l.getD m 0))) (m - a) a m = i at r1 hbd
        have e1 := sy_l_0 0 db n (a : Int) (m : Int) (b : Int) cp H1 (i : Int) (j' : Int) .undef
        obtain ⟨H2, r2, hL2, hF2⟩ := sy_dn hc n hn (a : Int) (m : Int) (b : Int) i (m - i) m l H1 (by omega) (by omega) hl hL1
        have r2' := RunsTo.loop_in (e0 := sE db n a m b cp .undef .undef .undef .undef (.i (i : Int)) (.i (j' : Int)) .undef (.i (m : Int)) .undef .undef .undef .undef .undef .undef .undef) r2 (b := sub [1, 0, 1, 0, 1, 1, 1, 0, 1, 0, 0] B72) (by kernel_rfl) (by kernel_rfl) (by kernel_rfl)
        have g1 := sy_n_0 0 db n (a : Int) (m : Int) (b : Int) cp H2 (i : Int) (i : Int)
        have t1 := RunsTo.seq e1 (RunsTo.block_exit (c := sub [1, 0, 1, 0, 1, 1, 1, 0, 1] B72) r2' (by kernel_rfl)) (c := sub [1, 0, 1, 0, 1, 1, 1, 0] B72) (by kernel_rfl) (by kernel_rfl)
        have t2 := RunsTo.seq t1 g1 (c := sub [1, 0, 1, 0, 1, 1, 1] B72) (by kernel_rfl) (by kernel_rfl)
        have t3 := RunsTo.seq (RunsTo.block_exit (c := sub [1, 0, 1, 0, 1, 1, 0] B72) r1 (by kernel_rfl)) t2 (c := sub [1, 0, 1, 0, 1, 1] B72) (by kernel_rfl) (by kernel_rfl)
        have t4 := RunsTo.seq j1 t3 (c := sub [1, 0, 1, 0, 1] B72) (by kernel_rfl) (by kernel_rfl)
        have t5 := RunsTo.seq i1 t4 (c := sub [1, 0, 1, 0] B72) (by kernel_rfl) (by kernel_rfl)
        have t6 := RunsTo.seq h1 (RunsTo.cond (y := .tmp 80) (t := true) (c := sub [1, 0, 1] B72) (a := sub [1, 0, 1, 0] B72) (b := sub [1, 0, 1, 1] B72) (by kernel_rfl) rfl t5) (c := sub [1, 0] B72) (by kernel_rfl) (by kernel_rfl)
        have t7 := RunsTo.seq_out t6 (by simp) (c := sub [1] B72) (b := sub [1, 1] B72) (by kernel_rfl)
        exact ⟨H2, sy_done (first _ _ _ t7) (by simp) (hF1.fd.trans hF2), hL2, hF1.fd.trans hF2⟩
      · rw [if_neg c2]
        dsimp only
        have h1 := sy_h_1 0 db n (a : Int) (m : Int) (b : Int) cp H (by rw [wsub (by omega) (by omega)]; omega)
        have second := fun (E' : Env) (H' : Heap) (X : X) (hx : RunsTo Try.prog polS 72 (sub [1, 1] B72) (sE db n a m b cp .undef .undef .undef .undef .undef .undef .undef .undef .undef .undef .undef .undef .undef .undef .undef) H X (polS.keys 72) E' H') =>
          RunsTo.seq (RunsTo.seq h1 (RunsTo.cond (y := .tmp 80) (t := false) (c := sub [1, 0, 1] B72) (a := sub [1, 0, 1, 0] B72) (b := sub [1, 0, 1, 1] B72) (K := polS.keys 72) (x := .normal) (E := sE db n a m b cp .undef .undef .undef .undef .undef .undef .undef .undef .undef .undef .undef .undef .undef .undef .undef) (by kernel_rfl) rfl (RunsTo.hint 1 60 [] fun kf hk => by
            obtain ⟨kf, rfl⟩ : ∃ n, kf = n + 1 := ⟨kf - 1, by omega⟩
            exact ⟨[], by kernel_rfl, Obls.nil⟩)) (c := sub [1, 0] B72) (by kernel_rfl) (by kernel_rfl)) hx (c := sub [1] B72) (by kernel_rfl) (by kernel_rfl)
        generalize hmid : (a + b) / 2 = mid
        have hw1 : IntKind.i64.wrap (((a + b) / 2 : Nat) : Int) = (mid : Int) := by rw [mid_i64 _ (by omega), hmid]
        have o1 := sy_o_0 0 db n (a : Int) (m : Int) (b : Int) cp H _ (mid_shr a b (by omega) (by omega))
        rw [hw1] at o1
        have p1 := sy_p_0 0 db n (a : Int) (m : Int) (b : Int) cp H (mid : Int)
        rw [wadd (by omega) (by omega)] at p1
        have q1 := sy_q_0 0 db n (a : Int) (m : Int) (b : Int) cp H (mid : Int) ((mid + m : Nat) : Int)
        have r1 : RunsTo Try.prog polS 72 (sub [1, 1, 1, 1, 1, 0] B72) (sE db n a m b cp .undef .undef .undef .undef .undef .undef .undef .undef (.i (mid : Int)) (.i ((mid + m : Nat) : Int)) (.i 0) (.i 0) .undef .undef .undef) H .normal (polS.keys 72) (sE db n a m b cp .undef .undef .undef .undef .undef .undef .undef .undef (.i (mid : Int)) (.i ((mid + m : Nat) : Int)) (.i (s0F m b mid a : Int)) (.i (r0F m mid : Int)) .undef .undef .undef) H := by
          by_cases hlt : mid < m
          · have := sy_r_0 0 db n (a : Int) (m : Int) (b : Int) cp H (mid : Int) ((mid + m : Nat) : Int) (by omega)
            rw [wsub (by omega) (by omega)] at this
            rw [s0F, r0F, if_pos hlt, if_pos hlt]
            exact this
          · have := sy_r_1 0 db n (a : Int) (m : Int) (b : Int) cp H (mid : Int) ((mid + m : Nat) : Int) (by omega)
            rw [s0F, r0F, if_neg hlt, if_neg hlt]
            exact this
        have hs0 : s0F m b mid a ≤ r0F m mid ∧ r0F m mid ≤ m ∧ a ≤ s0F m b mid a ∧ mid + m - s0F m b mid a ≤ b ∧ mid + m - r0F m mid ≥ m ∧ mid + m - r0F m mid ≥ mid ∧ s0F m b mid a ≤ mid + m ∧ r0F m mid ≤ mid := by
          unfold s0F r0F
          split <;> omega
        have s1 := sy_s_0 0 db n (a : Int) (m : Int) (b : Int) cp H (mid : Int) ((mid + m : Nat) : Int) (s0F m b mid a : Int) (r0F m mid : Int)
        have hwn : IntKind.i64.wrap (((mid + m : Nat) : Int) - 1) = ((mid + m - 1 : Nat) : Int) := by rw [wrapI64]; omega
        rw [hwn] at s1
        obtain ⟨j', H1, u1, hL1, hF1⟩ := sy_bs3 hc n hn a m b mid (mid + m) (by omega) l hl (s0F m b mid a) (r0F m mid) (fun c h1 h2 => by omega) (r0F m mid - s0F m b mid a) (s0F m b mid a) (r0F m mid) H (Nat.le_refl _) (Nat.le_refl _) (Nat.le_refl _) hL
        have hsF : sF f a m b l = bs (fun c => !decide (f (l.getD c 0) < f (l.getD (mid + m - 1 - c) 0))) (r0F m mid - s0F m b mid a) (s0F m b mid a) (r0F m mid) := by rw [sF, hmid]
        have hbd := bs_bound (fun c => !decide (f (l.getD c 0) < f (l.getD (mid + m - 1 - c) 0))) (r0F m mid - s0F m b mid a) (s0F m b mid a) (r0F m mid) hs0.1
        rw [← hsF] at u1 hbd
        generalize sF f a m b l = s at u1 hbd
        have v1 := sy_u_0 0 db n (a : Int) (m : Int) (b : Int) cp H1 (mid : Int) ((mid + m : Nat) : Int) (s : Int) (j' : Int) ((mid + m - 1 : Nat) : Int) .undef
        rw [wsub (by omega) (by omega)] at v1
        -- the rotation
        obtain ⟨H2, w1, hL2, hF2⟩ : ∃ H2, RunsTo Try.prog polS 72 (sub [1, 1, 1, 1, 1, 1, 1, 1, 1, 0] B72) (sE db n a m b cp .undef .undef .undef .undef .undef .undef .undef .undef (.i (mid : Int)) (.i ((mid + m : Nat) : Int)) (.i (s : Int)) (.i (j' : Int)) (.i ((mid + m - 1 : Nat) : Int)) .undef (.i ((mid + m - s : Nat) : Int))) H1 .normal (polS.keys 72) (sE db n a m b cp .undef .undef .undef .undef .undef .undef .undef .undef (.i (mid : Int)) (.i ((mid + m : Nat) : Int)) (.i (s : Int)) (.i (j' : Int)) (.i ((mid + m - 1 : Nat) : Int)) .undef (.i ((mid + m - s : Nat) : Int))) H2 ∧
            Ls db K dom (if s < m ∧ m < mid + m - s then rotate s m (mid + m - s) l else l) H2 ∧ Fd db H1 H2 := by
          by_cases h1 : s < m
          · by_cases h2 : m < mid + m - s
            · obtain ⟨H2, hcl, hL2, hF2⟩ := rotate_call hc (n := n) (a := s) (m := m) (b := mid + m - s) hn h1 h2 (by omega) hl hL1
              obtain ⟨N, hN⟩ := hcl.from
              rw [if_pos ⟨h1, h2⟩]
              exact ⟨H2, sy_v_0 N db n (a : Int) (m : Int) (b : Int) cp H1 (mid : Int) ((mid + m : Nat) : Int) (s : Int) (j' : Int) ((mid + m - 1 : Nat) : Int) .undef ((mid + m - s : Nat) : Int) H2 (by omega) (by omega) hN, hL2, hF2⟩
            · rw [if_neg (fun h => h2 h.2)]
              exact ⟨H1, sy_v_1 0 db n (a : Int) (m : Int) (b : Int) cp H1 (mid : Int) ((mid + m : Nat) : Int) (s : Int) (j' : Int) ((mid + m - 1 : Nat) : Int) .undef ((mid + m - s : Nat) : Int) (by omega) (by omega), hL1, Fd.refl _ _⟩
          · rw [if_neg (fun h => h1 h.1)]
            exact ⟨H1, sy_v_2 0 db n (a : Int) (m : Int) (b : Int) cp H1 (mid : Int) ((mid + m : Nat) : Int) (s : Int) (j' : Int) ((mid + m - 1 : Nat) : Int) .undef ((mid + m - s : Nat) : Int) (by omega), hL1, Fd.refl _ _⟩
        have hl2 : (if s < m ∧ m < mid + m - s then rotate s m (mid + m - s) l else l).length = n := by split; rw [rotate_len]; exact hl; exact hl
        generalize (if s < m ∧ m < mid + m - s then rotate s m (mid + m - s) l else l) = l2 at hL2 hl2
        -- the first half
        obtain ⟨H3, x1, hL3, hF3⟩ : ∃ H3, RunsTo Try.prog polS 72 (sub [1, 1, 1, 1, 1, 1, 1, 1, 1, 1, 0] B72) (sE db n a m b cp .undef .undef .undef .undef .undef .undef .undef .undef (.i (mid : Int)) (.i ((mid + m : Nat) : Int)) (.i (s : Int)) (.i (j' : Int)) (.i ((mid + m - 1 : Nat) : Int)) .undef (.i ((mid + m - s : Nat) : Int))) H2 .normal (polS.keys 72) (sE db n a m b cp .undef .undef .undef .undef .undef .undef .undef .undef (.i (mid : Int)) (.i ((mid + m : Nat) : Int)) (.i (s : Int)) (.i (j' : Int)) (.i ((mid + m - 1 : Nat) : Int)) .undef (.i ((mid + m - s : Nat) : Int))) H3 ∧
            Ls db K dom (if a < s ∧ s < mid then symM f k a s mid l2 else l2) H3 ∧ Fd db H2 H3 := by
          by_cases h1 : a < s
          · by_cases h2 : s < mid
            · obtain ⟨H3, hcl, hL3, hF3⟩ := ih a s mid l2 H2 (by omega) h1 h2 (by omega) hl2 hL2
              obtain ⟨N, hN⟩ := hcl.from
              rw [if_pos ⟨h1, h2⟩]
              exact ⟨H3, sy_w_0 N db n (a : Int) (m : Int) (b : Int) cp H2 (mid : Int) ((mid + m : Nat) : Int) (s : Int) (j' : Int) ((mid + m - 1 : Nat) : Int) .undef ((mid + m - s : Nat) : Int) H3 (by omega) (by omega) hN, hL3, hF3⟩
            · rw [if_neg (fun h => h2 h.2)]
              exact ⟨H2, sy_w_1 0 db n (a : Int) (m : Int) (b : Int) cp H2 (mid : Int) ((mid + m : Nat) : Int) (s : Int) (j' : Int) ((mid + m - 1 : Nat) : Int) .undef ((mid + m - s : Nat) : Int) (by omega) (by omega), hL2, Fd.refl _ _⟩
          · rw [if_neg (fun h => h1 h.1)]
            exact ⟨H2, sy_w_2 0 db n (a : Int) (m : Int) (b : Int) cp H2 (mid : Int) ((mid + m : Nat) : Int) (s : Int) (j' : Int) ((mid + m - 1 : Nat) : Int) .undef ((mid + m - s : Nat) : Int) (by omega), hL2, Fd.refl _ _⟩
        have hl3 : (if a < s ∧ s < mid then symM f k a s mid l2 else l2).length = n := by split; rw [symM_len]; exact hl2; exact hl2
        generalize (if a < s ∧ s < mid then symM f k a s mid l2 else l2) = l3 at hL3 hl3
        -- the other half
        obtain ⟨H4, y1, hL4, hF4⟩ : ∃ H4, RunsTo Try.prog polS 72 (sub [1, 1, 1, 1, 1, 1, 1, 1, 1, 1, 1] B72) (sE db n a m b cp .undef .undef .undef .undef .undef .undef .undef .undef (.i (mid : Int)) (.i ((mid + m : Nat) : Int)) (.i (s : Int)) (.i (j' : Int)) (.i ((mid + m - 1 : Nat) : Int)) .undef (.i ((mid + m - s : Nat) : Int))) H3 .normal (polS.keys 72) (sE db n a m b cp .undef .undef .undef .undef .undef .undef .undef .undef (.i (mid : Int)) (.i ((mid + m : Nat) : Int)) (.i (s : Int)) (.i (j' : Int)) (.i ((mid + m - 1 : Nat) : Int)) .undef (.i ((mid + m - s : Nat) : Int))) H4 ∧
            Ls db K dom (if mid < mid + m - s ∧ mid + m - s < b then symM f k mid (mid + m - s) b l3 else l3) H4 ∧ Fd db H3 H4 := by
          by_cases h1 : mid < mid + m - s
          · by_cases h2 : mid + m - s < b
            · obtain ⟨H4, hcl, hL4, hF4⟩ := ih mid (mid + m - s) b l3 H3 (by omega) h1 h2 hbn hl3 hL3
              obtain ⟨N, hN⟩ := hcl.from
              rw [if_pos ⟨h1, h2⟩]
              exact ⟨H4, sy_x_0 N db n (a : Int) (m : Int) (b : Int) cp H3 (mid : Int) ((mid + m : Nat) : Int) (s : Int) (j' : Int) ((mid + m - 1 : Nat) : Int) .undef ((mid + m - s : Nat) : Int) H4 (by omega) (by omega) hN, hL4, hF4⟩
            · rw [if_neg (fun h => h2 h.2)]
              exact ⟨H3, sy_x_1 0 db n (a : Int) (m : Int) (b : Int) cp H3 (mid : Int) ((mid + m : Nat) : Int) (s : Int) (j' : Int) ((mid + m - 1 : Nat) : Int) .undef ((mid + m - s : Nat) : Int) (by omega) (by omega), hL3, Fd.refl _ _⟩
          · rw [if_neg (fun h => h1 h.1)]
            exact ⟨H3, sy_x_2 0 db n (a : Int) (m : Int) (b : Int) cp H3 (mid : Int) ((mid + m : Nat) : Int) (s : Int) (j' : Int) ((mid + m - 1 : Nat) : Int) .undef ((mid + m - s : Nat) : Int) (by omega), hL3, Fd.refl _ _⟩
        have t1 := RunsTo.seq x1 y1 (c := sub [1, 1, 1, 1, 1, 1, 1, 1, 1, 1] B72) (by kernel_rfl) (by kernel_rfl)
        have t2 := RunsTo.seq w1 t1 (c := sub [1, 1, 1, 1, 1, 1, 1, 1, 1] B72) (by kernel_rfl) (by kernel_rfl)
        have t3 := RunsTo.seq v1 t2 (c := sub [1, 1, 1, 1, 1, 1, 1, 1] B72) (by kernel_rfl) (by kernel_rfl)
        have t4 := RunsTo.seq (RunsTo.block_exit (c := sub [1, 1, 1, 1, 1, 1, 1, 0] B72) u1 (by kernel_rfl)) t3 (c := sub [1, 1, 1, 1, 1, 1, 1] B72) (by kernel_rfl) (by kernel_rfl)
        have t5 := RunsTo.seq s1 t4 (c := sub [1, 1, 1, 1, 1, 1] B72) (by kernel_rfl) (by kernel_rfl)
        have t6 := RunsTo.seq r1 t5 (c := sub [1, 1, 1, 1, 1] B72) (by kernel_rfl) (by kernel_rfl)
        have t7 := RunsTo.seq q1 t6 (c := sub [1, 1, 1, 1] B72) (by kernel_rfl) (by kernel_rfl)
        have t8 := RunsTo.seq p1 t7 (c := sub [1, 1, 1] B72) (by kernel_rfl) (by kernel_rfl)
        have t9 := RunsTo.seq o1 t8 (c := sub [1, 1] B72) (by kernel_rfl) (by kernel_rfl)
        have hF := hF1.fd.trans (hF2.trans (hF3.trans hF4))
        exact ⟨H4, sy_done (first _ _ _ (second _ _ _ t9)) (by simp) hF, hL4, hF⟩
end
end Go.Proofs.Ytmhfkhlamnapdaa
end
