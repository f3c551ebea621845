/- A part of the proof: X13c. -/
import Derived.Test.YtmhfkhlamnapdaaX13
set_option linter.unusedVariables false
set_option linter.unusedSimpArgs false
open Go Go.HL
namespace Go.Proofs.Ytmhfkhlamnapdaa
theorem res13 : Try.f13.results.toList = [.tmp 4] := by kernel_rfl
theorem toArg_pair'' (H : Heap) (d : Nat) (p : Int × Int) : toArg H (d + 1) (encP p) = some (encP p) := by cases d <;> rfl
theorem arg_sl_pairs'' (H : Heap) (l : List (Int × Int)) (n : Nat) (hn : n = l.length) (hb : H[0]? = some (.arr 2 (l.map encP) true 0)) : toArg H 6 (.sl 0 0 n none n 2) = some (.imm .arg 2 (l.map encP)) := by
  subst hn
  have e : ∀ H : Heap, toArg H 6 (.sl 0 0 l.length none l.length 2) = if l.length = 0 then some (.imm .arg 2 []) else match view H 0 0 l.length l.length 2 with | some l => (match mapO (toArg H 5) l with | some l => some (.imm .arg 2 l) | none => none) | none => none := fun _ => rfl
  rw [e]
  split
  · rename_i h0
    rw [List.length_eq_zero_iff.1 h0]
    rfl
  · have hv : view H 0 0 l.length l.length 2 = some (l.map encP) := by
      simp only [view, hb, List.length_map]
      rw [if_pos ⟨trivial, by omega, trivial⟩]
      simp [List.take_of_length_le]
    rw [hv]
    simp only [mapO_self (toArg_pair'' _ 4)]
theorem argP_ints : ∀ (l : List Int), argPL (l.map encI) = some (l.map encI)
  | [] => rfl
  | p :: l => by simp only [List.map_cons, argPL, argP_ints l, encI, argP]
theorem arg_ints (H : Heap) (l : List Int) : toArg H 6 (.imm .own 1 (l.map encI)) = some (.imm .arg 1 (l.map encI)) := by
  show argP (.imm .own 1 (l.map encI)) = _
  simp only [argP, argP_ints]
theorem pairs_any'' : ∀ (M : List (Int × Int)), (M.map encP).any isOwn = false
  | [] => rfl
  | r :: M => by simp only [List.map_cons, List.any_cons, pairs_any'' M, encP, isOwn, Bool.or_self]

theorem k16 (l : List (Int × Int)) : ∀ k, callN Try.prog polK (k + 1) 16 [.imm .arg 2 (l.map encP)] [] = some (.sl 0 0 (l.take 201).length none (l.take 201).length 2, [.arr 2 ((l.take 201).map encP) true 0]) := fun k => by
  rw [prim_call (pol := polK) (g := 16) (F := few16) (by kernel_rfl) (rs := [.imm .arg 2 (l.map encP)]) (by simp only [mapO, arg_pairs']) (res := .own 2 ((l.take 201).map encP)) (by simp only [few16, mapO_map decP_enc])]
  simp only [recv, recvVal, recvCell, pairs_any'', List.length_map]
  rfl
theorem kArgs (n : Int) (l : List (Int × Int)) (H : Heap) (hb : H[0]? = some (.arr 2 (l.map encP) true 0)) : mapO (toArg H 6) [.int .i64 n, .sl 0 0 l.length none l.length 2] = some [.int .i64 n, .imm .arg 2 (l.map encP)] := by
  simp only [mapO, arg_sl_pairs'' H l l.length rfl hb]; rfl
theorem k42 (n : Int) (l : List (Int × Int)) (B : Blk) (hB : B = .arr 2 (l.map encP) true 0) : ∀ k, callN Try.prog polK (k + 1) 42 [.int .i64 n, .sl 0 0 l.length none l.length 2] [B] =
    (match knownF n l with
    | some M => some (.tuple [.sl 1 0 (tRows M 0 n.toNat []).length none (tRows M 0 n.toNat []).length 1, .int .i64 0], [B, bIs (tRows M 0 n.toNat [])])
    | none => some (.tuple [.sl 1 0 0 none 0 1, .int .i64 2], [B, .arr 1 [] true 0])) := fun k => by
  rw [prim_call (pol := polK) (g := 42) (F := known42) (by kernel_rfl) (kArgs n l [B] (by rw [hB]; rfl)) (by simp only [known42, mapO_map decP_enc]; rfl)]
  cases knownF n l with
  | none => rfl
  | some M =>
    simp only [recv, recvVals, recvVal, recvCell, ints_any, List.length_map]
    rfl
theorem k43 (n : Int) (l : List (Int × Int)) (H : Heap) (hb : H[0]? = some (.arr 2 (l.map encP) true 0)) : ∀ k, callN Try.prog polK (k + 1) 43 [.int .i64 n, .sl 0 0 l.length none l.length 2] H = some (.int .i64 (enoughF n l), H) := fun k => by
  rw [prim_call (pol := polK) (g := 43) (F := enough43) (by kernel_rfl) (kArgs n l H hb) (res := .int .i64 (enoughF n l)) (by simp only [enough43, mapO_map decP_enc])]; rfl
theorem k38 (n : Int) (l : List (Int × Int)) (H : Heap) (hb : H[0]? = some (.arr 2 (l.map encP) true 0)) (hl : l.length ≤ 1000) : ∀ k, callN Try.prog polK (k + 1) 38 [.int .i64 n, .sl 0 0 l.length none l.length 2] H = some (.bool (rCalls n l), H) := fun k => by
  rw [prim_call (pol := polK) (g := 38) (F := rcalls38) (by kernel_rfl) (kArgs n l H hb) (res := .bool (rCalls n l)) (by simp only [rcalls38, mapO_map decP_enc]; rw [if_pos hl])]; rfl
theorem k44 (n : Int) (l : List (Int × Int)) (B C : Blk) (hB : B = .arr 2 (l.map encP) true 0) (hg : ((1 ≤ n ∧ n ≤ 20) ∧ l.length ≤ 1000) ∧ l.all (validB n) = true) : ∀ k, callN Try.prog polK (k + 1) 44 [.int .i64 n, .sl 0 0 l.length none l.length 2] [B, C] =
    some (.sl 2 0 (rKnown n.toNat l).length none (rKnown n.toNat l).length 1, [B, C, bIs (rKnown n.toNat l)]) := fun k => by
  rw [prim_call (pol := polK) (g := 44) (F := refk44) (by kernel_rfl) (kArgs n l [B, C] (by rw [hB]; rfl)) (res := .own 1 ((rKnown n.toNat l).map encIs)) (by simp only [refk44, mapO_map decP_enc]; rw [if_pos hg])]
  simp only [recv, recvVal, recvCell, ints_any, List.length_map]
  rfl
theorem k39 (n : Int) (l : List (Int × Int)) (H : Heap) (hb : H[0]? = some (.arr 2 (l.map encP) true 0)) (hg : ((1 ≤ n ∧ n ≤ 20) ∧ l.length ≤ 1000) ∧ l.all (validB n) = true) : ∀ k, callN Try.prog polK (k + 1) 39 [.int .i64 n, .sl 0 0 l.length none l.length 2] H = some (.bool (rEnough n.toNat l), H) := fun k => by
  rw [prim_call (pol := polK) (g := 39) (F := rEnough39) (by kernel_rfl) (kArgs n l H hb) (res := .bool (rEnough n.toNat l)) (by simp only [rEnough39, mapO_map decP_enc]; rw [if_pos hg])]; rfl
theorem k21 (a : List Int) (H : Heap) (ha : a.length ≤ 1000) : ∀ k, callN Try.prog polK (k + 1) 21 [.imm .own 1 (a.map encI), .imm .own 1 (a.map encI)] H = some (.bool true, H) := fun k => by
  rw [prim_call (pol := polK) (g := 21) (F := ints21) (by kernel_rfl) (rs := [.imm .arg 1 (a.map encI), .imm .arg 1 (a.map encI)]) (by simp only [mapO, arg_ints]) (res := .bool true) (by simp only [ints21, mapO_map decI_enc]; rw [if_pos ha]; simp)]; rfl

abbrev lE (n : Int) (lc : List HV) (m R T : Nat) (f : Int) (j : Nat) : Env := env13 (.int .i64 n) (.imm .arg 2 lc) (.bool false) (.sl 0 0 m none m 2) (.sl 1 0 R none R 1) .undef (.int .i64 f) (.sl 2 0 T none T 1) (.int .i64 (j : Int))
theorem rRow_len20 (m j : Nat) (hm : m ≤ 20) (F : List Bool) : (rRow m j F 0 m []).length ≤ 20 := by
  have := rRow_length m j F m 0 [] (by simp); omega
theorem law13_loop (m : Nat) (hm : m ≤ 20) (lc : List HV) (q : Nat) (els : List HV) (L : List (List Int)) (hL : L.length = m) (hr : ∀ r ∈ L, r.length ≤ 1000) (f : Int) : ∀ (d j : Nat), j + d = m →
    RunsTo Try.prog polK 13 (sub [1, 1, 1, 1, 1, 1, 1, 0, 1, 0] B13) (lE (m : Int) lc q m m f j) [.arr 2 els true 0, bIs L, bIs L]
      (.exit 0) (polK.keys 13) (lE (m : Int) lc q m m f m) [.arr 2 els true 0, bIs L, bIs L] := by
  intro d
  induction d with
  | zero =>
    intro j hj
    have hj : j = m := by omega
    subst hj
    exact RunsTo.loop_out (l13_x_2 (j : Int) lc q els j (L.map encIs) 0 f j (L.map encIs) j (by omega)) (by simp) (by kernel_rfl) (by kernel_rfl)
  | succ d ih =>
    intro j hj
    have h := ih (j + 1) (by omega)
    have hjl : j < L.length := by omega
    have hp : L[j]? = some L[j] := List.getElem?_eq_getElem hjl
    have g1 : ∀ b, idxV Try.prog 55 (.sl b 0 m none m 1) (.int .i64 (j : Int)) = some (.ptr b j 0 m) := fun b => by
      have := idx_sl (P := Try.prog) (t := 55) (b := b) (tot := m) (cap := none) (ik := .i64) (n := (j : Int)) u55f u24f (by omega) (len := m) (by omega)
      simpa using this
    have g2 : ∀ b, [Blk.arr 2 els true 0, bIs L, bIs L][b]? = some (bIs L) → loadV Try.prog [.arr 2 els true 0, bIs L, bIs L] 24 (.ptr b j 0 m) = some (.imm .own 1 (L[j].map encI)) := fun b hb =>
      load_elem (b := b) hb (by rw [List.length_map]; exact hL.symm) (by rw [List.getElem?_map, hp]; rfl) rfl a24f i24f
    have s1 := l13_l_0 (m : Int) lc q els m (L.map encIs) 0 f m (L.map encIs) j (L[j].map encI) (L[j].map encI) (by omega) (g1 1) (g2 1 rfl) (g1 2) (g2 2 rfl) (k21 L[j] _ (hr _ (List.getElem_mem hjl)))
    rw [wrap_succ (by omega)] at s1
    exact RunsTo.loop s1 (by kernel_rfl) (gc_same (by simp)) h rfl (by kernel_rfl) (by kernel_rfl)

theorem relayCalls_law (n : Int) (l0 : List (Int × Int)) : ∃ E H, RunsTo Try.prog polK 13 B13 (args0 [.int .i64 n, .imm .arg 2 (l0.map encP)]) [] .ret (polK.keys 13) E H ∧ E.get 4 = .bool true := by
  have a1 := l13_a_0 n (l0.map encP)
  have b1 := l13_b_0 n (l0.map encP) _ _ (k16 l0)
  have hlen : (l0.take 201).length ≤ 1000 := by rw [List.length_take]; omega
  generalize l0.take 201 = l at b1 hlen
  by_cases hg : (1 ≤ n ∧ n ≤ 20) ∧ rCalls n l = true
  · obtain ⟨hn, hc⟩ := hg
    have hc' := hc
    rw [rCalls, Bool.and_eq_true, decide_eq_true_eq] at hc'
    obtain ⟨hv, hl2⟩ := hc'
    obtain ⟨m, rfl⟩ : ∃ m : Nat, n = (m : Int) := ⟨n.toNat, by omega⟩
    obtain ⟨M, hM, hrows⟩ := known_eq (n := (m : Int)) (m := m) rfl (by omega) (by omega) l hv hl2
    have hg4 : ((1 ≤ (m : Int) ∧ (m : Int) ≤ 20) ∧ l.length ≤ 1000) ∧ l.all (validB (m : Int)) = true := ⟨⟨hn, hlen⟩, hv⟩
    have hLl := rKnown_length m l
    have hrl : ∀ r ∈ rKnown m l, r.length ≤ 1000 := fun r hr => by
      obtain ⟨i, hi, rfl⟩ := List.getElem_of_mem hr
      have hall := rRows_all m (rGo m l (rDiag m 0 m (List.replicate (m * m) false))) (fun r => decide (r.length ≤ 1000)) m 0 []
      have : (rKnown m l).all (fun r => decide (r.length ≤ 1000)) = true := by
        rw [rKnown, hall, List.all_nil, Bool.true_and, List.all_eq_true]
        intro i hi
        have := rRow_len20 m i (by omega) (rGo m l (rDiag m 0 m (List.replicate (m * m) false)))
        exact decide_eq_true (by omega)
      exact of_decide_eq_true (List.all_eq_true.1 this _ hr)
    have c1 := l13_c_0 (m : Int) (l0.map encP) l.length (l.map encP) m ((rKnown m l).map encIs) 0 (fun k => by
      rw [k42 (m : Int) l _ rfl k, hM]
      simp only [Int.toNat_natCast, hrows, hLl])
    have d1 := l13_d_0 (m : Int) (l0.map encP) l.length (l.map encP) m ((rKnown m l).map encIs) 0 _ (k43 (m : Int) l _ rfl)
    have n1 := l13_n_8 (m : Int) (l0.map encP) l.length (l.map encP) m ((rKnown m l).map encIs) 0 (enoughF (m : Int) l) (by omega) (by omega) (by
      have := k38 (m : Int) l [.arr 2 (l.map encP) true 0, bIs (rKnown m l)] rfl hlen
      rw [hc] at this
      exact this)
    have f1 := l13_f_0 (m : Int) (l0.map encP) l.length (l.map encP) m ((rKnown m l).map encIs) 0 (enoughF (m : Int) l) m ((rKnown m l).map encIs) (fun k => by
      rw [k44 (m : Int) l _ _ rfl hg4 k]
      simp only [Int.toNat_natCast, hLl])
    have g1 := l13_g_0 (m : Int) (l0.map encP) l.length (l.map encP) m ((rKnown m l).map encIs) 0 (enoughF (m : Int) l) m ((rKnown m l).map encIs) rfl rfl
    have h1 := l13_h_0 (m : Int) (l0.map encP) l.length (l.map encP) m ((rKnown m l).map encIs) 0 (enoughF (m : Int) l) m ((rKnown m l).map encIs)
    have x1 := law13_loop m (by omega) (l0.map encP) l.length (l.map encP) (rKnown m l) hLl hrl (enoughF (m : Int) l) m 0 (by omega)
    have x1' := RunsTo.loop_in (e0 := env13 (.int .i64 (m : Int)) (.imm .arg 2 (l0.map encP)) (.bool false) (.sl 0 0 l.length none l.length 2) (.sl 1 0 m none m 1) (.int .i64 0) (.int .i64 (enoughF (m : Int) l)) (.sl 2 0 m none m 1) (.int .i64 0)) x1 (b := sub [1, 1, 1, 1, 1, 1, 1, 0, 1, 0, 0] B13) (by kernel_rfl) (by kernel_rfl) (by kernel_rfl)
    have he := enough_eq (n := (m : Int)) (m := m) rfl (by omega) (by omega) l hv hl2
    have up : ∀ E H, RunsTo Try.prog polK 13 (sub [1, 1, 1, 1, 1, 1, 1, 1] B13) (lE (m : Int) (l0.map encP) l.length m m (enoughF (m : Int) l) m) [.arr 2 (l.map encP) true 0, bIs (rKnown m l), bIs (rKnown m l)] .ret (polK.keys 13) E H → RunsTo Try.prog polK 13 B13 (args0 [.int .i64 (m : Int), .imm .arg 2 (l0.map encP)]) [] .ret (polK.keys 13) E H := by
      intro E H t
      have t1 := RunsTo.seq h1 (RunsTo.block_exit (c := sub [1, 1, 1, 1, 1, 1, 1, 0, 1] B13) x1' (by kernel_rfl)) (c := sub [1, 1, 1, 1, 1, 1, 1, 0] B13) (by kernel_rfl) (by kernel_rfl)
      have t2 := RunsTo.seq t1 t (c := sub [1, 1, 1, 1, 1, 1, 1] B13) (by kernel_rfl) (by kernel_rfl)
      have t3 := RunsTo.seq g1 t2 (c := sub [1, 1, 1, 1, 1, 1] B13) (by kernel_rfl) (by kernel_rfl)
      have t4 := RunsTo.seq f1 t3 (c := sub [1, 1, 1, 1, 1] B13) (by kernel_rfl) (by kernel_rfl)
      have t5 := RunsTo.seq n1 t4 (c := sub [1, 1, 1, 1] B13) (by kernel_rfl) (by kernel_rfl)
      have t6 := RunsTo.seq d1 t5 (c := sub [1, 1, 1] B13) (by kernel_rfl) (by kernel_rfl)
      have t7 := RunsTo.seq c1 t6 (c := sub [1, 1] B13) (by kernel_rfl) (by kernel_rfl)
      have t8 := RunsTo.seq b1 t7 (c := sub [1] B13) (by kernel_rfl) (by kernel_rfl)
      exact RunsTo.seq a1 t8 (c := B13) (by kernel_rfl) (by kernel_rfl)
    have h39 := k39 (m : Int) l [.arr 2 (l.map encP) true 0, bIs (rKnown m l), bIs (rKnown m l)] rfl hg4
    rw [Int.toNat_natCast] at h39
    cases hre : rEnough m l with
    | true =>
      rw [hre] at h39 he
      have o1 := l13_o_0 (m : Int) (l0.map encP) l.length (l.map encP) m ((rKnown m l).map encIs) 0 (enoughF (m : Int) l) m ((rKnown m l).map encIs) m h39
      have z1 := l13_z_0 (m : Int) (l0.map encP) l.length (l.map encP) m ((rKnown m l).map encIs) 0 (enoughF (m : Int) l) m ((rKnown m l).map encIs) m (by rw [he]; rfl)
      exact ⟨_, _, up _ _ (RunsTo.seq o1 z1 (by kernel_rfl) (by kernel_rfl)), rfl⟩
    | false =>
      rw [hre] at h39 he
      have p1 := l13_p_1 (m : Int) (l0.map encP) l.length (l.map encP) m ((rKnown m l).map encIs) 0 (enoughF (m : Int) l) m ((rKnown m l).map encIs) m h39 (by rw [he]; rfl)
      exact ⟨_, _, up _ _ (RunsTo.seq_out p1 (by simp) (b := sub [1, 1, 1, 1, 1, 1, 1, 1, 1] B13) (by kernel_rfl)), rfl⟩
  · have hM := known_none l hg
    have c1 := l13_c_0 n (l0.map encP) l.length (l.map encP) 0 [] 2 (fun k => by rw [k42 n l _ rfl k, hM])
    have d1 := l13_d_0 n (l0.map encP) l.length (l.map encP) 0 [] 2 _ (k43 n l _ rfl)
    have he : enoughF n l = 2 := by rw [enoughF, hM]
    have fin : ∀ E, RunsTo Try.prog polK 13 (sub [1, 1, 1, 1, 0] B13) (env13 (.int .i64 n) (.imm .arg 2 (l0.map encP)) (.bool false) (.sl 0 0 l.length none l.length 2) (.sl 1 0 0 none 0 1) (.int .i64 2) (.int .i64 (enoughF n l)) .undef .undef) [.arr 2 (l.map encP) true 0, .arr 1 [] true 0] .ret (polK.keys 13) E [.arr 2 (l.map encP) true 0, .arr 1 [] true 0] → E.get 4 = .bool true →
        ∃ E H, RunsTo Try.prog polK 13 B13 (args0 [.int .i64 n, .imm .arg 2 (l0.map encP)]) [] .ret (polK.keys 13) E H ∧ E.get 4 = .bool true := by
      intro E t hE
      have t5 := RunsTo.seq_out t (by simp) (c := sub [1, 1, 1, 1] B13) (b := sub [1, 1, 1, 1, 1] B13) (by kernel_rfl)
      have t6 := RunsTo.seq d1 t5 (c := sub [1, 1, 1] B13) (by kernel_rfl) (by kernel_rfl)
      have t7 := RunsTo.seq c1 t6 (c := sub [1, 1] B13) (by kernel_rfl) (by kernel_rfl)
      have t8 := RunsTo.seq b1 t7 (c := sub [1] B13) (by kernel_rfl) (by kernel_rfl)
      exact ⟨_, _, RunsTo.seq a1 t8 (c := B13) (by kernel_rfl) (by kernel_rfl), hE⟩
    by_cases h1 : n < 1
    · exact fin _ (l13_e_0 n (l0.map encP) l.length (l.map encP) 0 [] 2 (enoughF n l) h1 rfl rfl he) rfl
    · by_cases h2 : 20 < n
      · exact fin _ (l13_e_4 n (l0.map encP) l.length (l.map encP) 0 [] 2 (enoughF n l) h1 h2 rfl rfl he) rfl
      · have hcf : rCalls n l = false := by
          cases hh : rCalls n l with
          | false => rfl
          | true => exact absurd ⟨⟨by omega, by omega⟩, hh⟩ hg
        exact fin _ (l13_e_9 n (l0.map encP) l.length (l.map encP) 0 [] 2 (enoughF n l) h1 h2 (by
          have := k38 n l [.arr 2 (l.map encP) true 0, .arr 1 [] true 0] rfl hlen
          rw [hcf] at this
          exact this) rfl rfl he) rfl
end Go.Proofs.Ytmhfkhlamnapdaa
