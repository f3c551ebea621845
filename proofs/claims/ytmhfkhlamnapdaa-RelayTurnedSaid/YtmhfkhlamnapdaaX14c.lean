/- A part of the proof: X14c. -/
import Derived.Test.YtmhfkhlamnapdaaX14
import Derived.Test.YtmhfkhlamnapdaaXT
set_option linter.unusedVariables false
set_option linter.unusedSimpArgs false
open Go Go.HL Go.Gossip
namespace Go.Proofs.Ytmhfkhlamnapdaa
theorem a3t : tyAgg Try.prog 3 = false := by kernel_rfl
theorem i3t : (Try.prog.underlying 3).isSome = true := by kernel_rfl
theorem g33t : tyAgg Try.prog 33 = true := by kernel_rfl
theorem res14 : Try.f14.results.toList = [.tmp 6] := by kernel_rfl
abbrev tE (n : Int) (lc : List HV) (by_ : Int) (m p q : Nat) (v10 v11 v12 v13 v14 v15 v16 v17 v18 v19 : HV) : Env :=
  env14 (.int .i64 n) (.imm .arg 2 lc) (.int .i64 by_) (.bool false) (.sl 0 0 m none m 2) (.sl 1 0 p none p 2) (.sl 2 0 q none q 2) v10 v11 v12 v13 v14 v15 v16 v17 v18 v19
theorem load_pair {H : Heap} {b j : Nat} {x : List (Int × Int)} {mx : Nat} (hb : H[b]? = some (.arr 2 (x.map encP) true mx)) (h : j < x.length) : loadV Try.prog H 33 (.ptr b j 0 x.length) = some (.agg [.int .i64 x[j].1, .int .i64 x[j].2]) := by
  have hi : (x.map encP)[j]? = some (encP x[j]) := by rw [List.getElem?_map, List.getElem?_eq_getElem h]; rfl
  simp only [loadV, hb, List.length_map, if_true, hi]
  have hs : tySize Try.prog 33 = some 2 := z33
  simp only [encP, cellsOf, partV, g33t, if_true, hs]
  rfl
theorem back_loop (n : Int) (lc : List HV) (by_ : Int) (x : List (Int × Int)) (hx : x.length ≤ 100) (rn : List HV) (q : Nat) : ∀ j, j ≤ x.length →
    RunsTo Try.prog polU 14 (sub [1, 1, 1, 1, 0, 1, 0] B14) (tE n lc by_ x.length ((x.drop j).reverse).length q (.int .i64 ((j : Int) - 1)) .undef .undef .undef .undef .undef .undef .undef .undef .undef) [bPs x, bPs (x.drop j).reverse, .arr 2 rn true 0]
      (.exit 0) (polU.keys 14) (tE n lc by_ x.length x.reverse.length q (.int .i64 (-1)) .undef .undef .undef .undef .undef .undef .undef .undef .undef) [bPs x, bPs x.reverse, .arr 2 rn true 0] := by
  intro j
  induction j with
  | zero =>
    intro _
    rw [List.drop_zero]
    exact RunsTo.loop_out (lt_k_1 n lc by_ x.length (x.map encP) x.reverse.length (x.reverse.map encP) q rn (-1) (by omega)) (by simp) (by kernel_rfl) (by kernel_rfl)
  | succ j ih =>
    intro hj
    have h := ih (by omega)
    have hjl : j < x.length := by omega
    have hd : (x.drop j).reverse = (x.drop (j + 1)).reverse ++ [x[j]] := by
      rw [List.drop_eq_getElem_cons hjl, List.reverse_cons]
    have ht : (((j + 1 : Nat) : Int) - 1).toNat = j := by omega
    have g1 : idxV Try.prog 22 (.sl 0 0 x.length none x.length 2) (.int .i64 (((j + 1 : Nat) : Int) - 1)) = some (.ptr 0 (((j + 1 : Nat) : Int) - 1).toNat 0 x.length) := idx_sl u22 z33 (by omega) (by omega)
    have g2 : loadV Try.prog [bPs x, bPs (x.drop (j + 1)).reverse, .arr 2 rn true 0] 33 (.ptr 0 (((j + 1 : Nat) : Int) - 1).toNat 0 x.length) = some (.agg [.int .i64 x[j].1, .int .i64 x[j].2]) := by
      rw [ht]; exact load_pair (mx := 0) rfl hjl
    have hap := app_sl (H := [bPs x, bPs (x.drop (j + 1)).reverse, .arr 2 rn true 0]) (k := 2) (bytes := 16) (b := 1) (n := (x.drop (j + 1)).reverse.length) (mx := 0) (els := (x.drop (j + 1)).reverse.map encP) (xs := [encP x[j]]) rfl (by simp) (by simp)
      (by simp only [List.length_singleton, roomMax, List.length_reverse, List.length_drop]; omega) rfl
    have s1 := lt_k_0 n lc by_ x.length (x.map encP) (x.drop (j + 1)).reverse.length ((x.drop (j + 1)).reverse.map encP) q rn (((j + 1 : Nat) : Int) - 1) _ _ (by omega) g1 g2 hap
    have hw : IntKind.i64.wrap (((j + 1 : Nat) : Int) - 1 - 1) = (j : Int) - 1 := by rw [wrapI64]; omega
    rw [hw] at s1
    have e1 : (x.drop j).reverse.map encP = (x.drop (j + 1)).reverse.map encP ++ [encP x[j]] := by rw [hd]; simp
    have e2 : (x.drop j).reverse.length = (x.drop (j + 1)).reverse.length + 1 := by rw [hd]; simp
    unfold bPs at h
    rw [e1, e2] at h
    exact RunsTo.loop s1 (by kernel_rfl) (gc_same (by simp)) h rfl (by kernel_rfl) (by kernel_rfl)
theorem ren_loop (n : Int) (hn : 0 < n ∧ n < 9223372036854775808) (lc : List HV) (by_ : Int) (x : List (Int × Int)) (hx : x.length ≤ 100) (bk : List (Int × Int)) : ∀ d j, j + d = x.length →
    RunsTo Try.prog polU 14 (sub [1, 1, 1, 1, 1, 0, 1, 0] B14) (tE n lc by_ x.length bk.length j .undef (.int .i64 (j : Int)) .undef .undef .undef .undef .undef .undef .undef .undef) [bPs x, bPs bk, bPs ((x.take j).map (renP n (modW by_ n)))]
      (.exit 2) (polU.keys 14) (tE n lc by_ x.length bk.length x.length .undef (.int .i64 (x.length : Int)) .undef .undef .undef .undef .undef .undef .undef .undef) [bPs x, bPs bk, bPs (x.map (renP n (modW by_ n)))] := by
  intro d
  induction d with
  | zero =>
    intro j hj
    have hj : j = x.length := by omega
    subst hj
    rw [List.take_length]
    exact RunsTo.loop_out (lt_l_1 n lc by_ x.length (x.map encP) bk.length (bk.map encP) x.length ((x.map (renP n (modW by_ n))).map encP) x.length (by omega)) (by simp) (by kernel_rfl) (by kernel_rfl)
  | succ d ih =>
    intro j hj
    have h := ih (j + 1) (by omega)
    have hjl : j < x.length := by omega
    generalize hr : modW by_ n = r at h ⊢
    have hd : (x.take (j + 1)).map (renP n r) = (x.take j).map (renP n r) ++ [renP n r x[j]] := by
      rw [List.take_add_one, List.getElem?_eq_getElem hjl, List.map_append]; rfl
    have hpk : (x.map encP)[j]? = some (.agg [.int .i64 x[j].1, .int .i64 x[j].2]) := by rw [List.getElem?_map, List.getElem?_eq_getElem hjl]; rfl
    have g1 : idxV Try.prog 22 (.sl 0 0 x.length none x.length 2) (.int .i64 (j : Int)) = some (.ptr 0 j 0 x.length) := by
      have := idx_sl (P := Try.prog) (t := 22) (b := 0) (tot := x.length) (cap := none) (ik := .i64) (n := (j : Int)) u22 z33 (by omega) (len := x.length) (by omega)
      simpa using this
    have gl : ∀ (H : Heap), H[0]? = some (bPs x) → ∀ o v, ([.int .i64 x[j].1, .int .i64 x[j].2] : List HV)[o]? = some v → loadV Try.prog H 3 (.ptr 0 j o x.length) = some v := fun H hH o v hv => load_cell (b := 0) hH (by simp) hpk a3t i3t hv
    have gm : ∀ (H : Heap) (k : Nat), callN Try.prog polU (k + 1) 22 [.int .i64 by_, .int .i64 n] H = some (.int .i64 r, H) := fun H k => by
      rw [prim_call (pol := polU) (g := 22) (F := modF) (by kernel_rfl) (rs := [.int .i64 by_, .int .i64 n]) rfl (res := .int .i64 r) (by simp only [modF]; rw [if_pos hn, hr])]; rfl
    have gr : ∀ a : Int, binV Try.prog .rem 3 (.int .i64 a) (.int .i64 n) = some (.int .i64 (a.tmod n)) := fun a => by
      simp only [binV, if_true, intBin]
      rw [if_neg (by omega)]
    have hap := app_sl (H := [bPs x, bPs bk, bPs ((x.take j).map (renP n r))]) (k := 2) (bytes := 16) (b := 2) (n := j) (mx := 0) (els := ((x.take j).map (renP n r)).map encP) (xs := [encP (renP n r x[j])]) rfl (by simp; omega) (by simp)
      (by simp only [List.length_singleton, roomMax]; omega) rfl
    have s1 := lt_l_0 n lc by_ x.length (x.map encP) bk.length (bk.map encP) j (((x.take j).map (renP n r)).map encP) j x[j].2 r x[j].1 r (by omega) g1 (gl _ rfl 1 _ rfl) (gm _) (gr _) g1 (gl _ rfl 0 _ rfl) (gm _) (gr _) hap
      (by
        have k1 := gl [bPs x, bPs bk, bPs ((x.take j).map (renP n r))] rfl 1 _ rfl
        have k0 := gl [bPs x, bPs bk, bPs ((x.take j).map (renP n r))] rfl 0 _ rfl
        unfold bPs at k1 k0
        simp only [k1, k0, Option.map, recL, same, sameH, ints_bs, beq_self_eq_true, Bool.and_self])
    rw [wrap_succ (by omega)] at s1
    have e1 : ((x.take (j + 1)).map (renP n r)).map encP = ((x.take j).map (renP n r)).map encP ++ [encP (renP n r x[j])] := by rw [hd]; simp
    unfold bPs at h
    rw [e1] at h
    exact RunsTo.loop s1 (by kernel_rfl) (gc_same (by simp)) h rfl (by kernel_rfl) (by kernel_rfl)
theorem arg_gen {H : Heap} {l : List (Int × Int)} {b k mx : Nat} (hb : H[b]? = some (.arr 2 (l.map encP) true mx)) (hk : k ≤ l.length) : toArg H 6 (.sl b 0 k none l.length 2) = some (.imm .arg 2 ((l.take k).map encP)) := by
  have e : toArg H 6 (.sl b 0 k none l.length 2) = if k = 0 then some (.imm .arg 2 []) else match view H b 0 k l.length 2 with | some l => (match mapO (toArg H 5) l with | some l => some (.imm .arg 2 l) | none => none) | none => none := rfl
  rw [e]
  split
  · rename_i h0
    subst h0; rfl
  · have hv : view H b 0 k l.length 2 = some ((l.take k).map encP) := by
      simp only [view, hb, List.length_map]
      rw [if_pos ⟨trivial, by omega, trivial⟩]
      simp [List.map_take]
    rw [hv]
    simp only [mapO_self (toArg_pair'' _ 4)]
theorem u43 (n : Int) (l : List (Int × Int)) (b : Nat) (H : Heap) (hb : H[b]? = some (bPs l)) : ∀ k, callN Try.prog polU (k + 1) 43 [.int .i64 n, .sl b 0 l.length none l.length 2] H = some (.int .i64 (enoughF n l), H) := fun k => by
  rw [prim_call (pol := polU) (g := 43) (F := enough43) (by kernel_rfl) (rs := [.int .i64 n, .imm .arg 2 (l.map encP)]) (by
    have := arg_gen (k := l.length) hb (Nat.le_refl _)
    rw [List.take_length] at this
    simp only [mapO, this]; rfl) (res := .int .i64 (enoughF n l)) (by simp only [enough43, mapO_map decP_enc])]; rfl
theorem u42 {m : Nat} (h1 : 1 ≤ m) (hm : m ≤ 20) (l : List (Int × Int)) (k : Nat) (hk : k ≤ l.length) (hv : ∀ p ∈ l, validB (m : Int) p = true) (hl : l.length ≤ 200) (H : Heap) (hb : H[0]? = some (bPs l)) :
    ∀ kf, callN Try.prog polU (kf + 1) 42 [.int .i64 (m : Int), .sl 0 0 k none l.length 2] H = some (.tuple [.sl H.length 0 m none m 1, .int .i64 0], H ++ [bIs (rKnown m (l.take k))]) := fun kf => by
  obtain ⟨M, hM, hrows⟩ := known_eq (n := (m : Int)) (m := m) rfl h1 hm (l.take k) (List.all_eq_true.2 fun p hp => hv p (List.mem_of_mem_take hp)) (by rw [List.length_take]; omega)
  rw [prim_call (pol := polU) (g := 42) (F := known42) (by kernel_rfl) (rs := [.int .i64 (m : Int), .imm .arg 2 ((l.take k).map encP)]) (by simp only [mapO, arg_gen hb hk]; rfl) (by simp only [known42, mapO_map decP_enc]; rfl)]
  rw [hM]
  have hlen : (rKnown m (l.take k)).length = m := rKnown_length m _
  simp only [recv, recvVals, recvVal, recvCell, Int.toNat_natCast, hrows, ints_any, List.length_map, hlen]
  rfl
theorem len_loop (m : Nat) (hm : m ≤ 20) (lc : List HV) (by_ : Int) (b0 b1 b2 : List HV) (A B : List (List Int)) (hA : A.length = m) (hB : B.length = m) (hab : ∀ i, i < m → ∃ a b, B[i]? = some b ∧ A[i]? = some a ∧ b.length ≤ a.length ∧ 1 ≤ b.length) : ∀ d j, j + d = m →
    RunsTo Try.prog polU 14 (sub [1, 1, 1, 1, 1, 1, 1, 1, 1, 1, 1, 1, 1, 0, 1, 0] B14) (env14 (.int .i64 (m : Int)) (.imm .arg 2 lc) (.int .i64 by_) (.bool false) .undef .undef .undef .undef .undef .undef .undef .undef (.sl 3 0 m none m 1) .undef (.sl 4 0 m none m 1) .undef (.int .i64 (j : Int))) [.arr 2 b0 true 0, .arr 2 b1 true 0, .arr 2 b2 true 0, bIs A, bIs B]
      (.exit 4) (polU.keys 14) (env14 (.int .i64 (m : Int)) (.imm .arg 2 lc) (.int .i64 by_) (.bool false) .undef .undef .undef .undef .undef .undef .undef .undef (.sl 3 0 m none m 1) .undef (.sl 4 0 m none m 1) .undef (.int .i64 (m : Int))) [.arr 2 b0 true 0, .arr 2 b1 true 0, .arr 2 b2 true 0, bIs A, bIs B] := by
  intro d
  induction d with
  | zero =>
    intro j hj
    have hj : j = m := by omega
    subst hj
    exact RunsTo.loop_out (lt_s_3 (j : Int) lc by_ 0 b0 0 b1 0 b2 0 0 true j (A.map encIs) j (B.map encIs) j (by omega)) (by simp) (by kernel_rfl) (by kernel_rfl)
  | succ d ih =>
    intro j hj
    have h := ih (j + 1) (by omega)
    obtain ⟨a, b, hb, ha, h1, h2⟩ := hab j (by omega)
    have g1 : ∀ b, idxV Try.prog 55 (.sl b 0 m none m 1) (.int .i64 (j : Int)) = some (.ptr b j 0 m) := fun b => by
      have := idx_sl (P := Try.prog) (t := 55) (b := b) (tot := m) (cap := none) (ik := .i64) (n := (j : Int)) u55f u24f (by omega) (len := m) (by omega)
      simpa using this
    have g2 : ∀ (bb : Nat) (L : List (List Int)) (r : List Int), [Blk.arr 2 b0 true 0, .arr 2 b1 true 0, .arr 2 b2 true 0, bIs A, bIs B][bb]? = some (bIs L) → L.length = m → L[j]? = some r → loadV Try.prog [.arr 2 b0 true 0, .arr 2 b1 true 0, .arr 2 b2 true 0, bIs A, bIs B] 24 (.ptr bb j 0 m) = some (.imm .own 1 (r.map encI)) := fun bb L r hb hL hr =>
      load_elem (b := bb) hb (by rw [List.length_map]; exact hL.symm) (by rw [List.getElem?_map, hr]; rfl) rfl a24f i24f
    have s1 := lt_s_2 (m : Int) lc by_ 0 b0 0 b1 0 b2 0 0 true m (A.map encIs) m (B.map encIs) j (b.map encI) (a.map encI) (b.map encI) (by omega) (g1 4) (g2 4 B b rfl hB hb) (g1 3) (g2 3 A a rfl hA ha) (by simp only [List.length_map]; omega) (g1 4) (g2 4 B b rfl hB hb) (by simp only [List.length_map]; omega)
    rw [wrap_succ (by omega)] at s1
    exact RunsTo.loop s1 (by kernel_rfl) (gc_same (by simp)) h rfl (by kernel_rfl) (by kernel_rfl)
end Go.Proofs.Ytmhfkhlamnapdaa
