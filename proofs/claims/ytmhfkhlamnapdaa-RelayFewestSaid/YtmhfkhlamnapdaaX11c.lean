/- A part of the proof: X11c. -/
import Derived.Test.YtmhfkhlamnapdaaX11
import Derived.Test.YtmhfkhlamnapdaaRows
set_option linter.unusedVariables false
set_option linter.unusedSimpArgs false
open Go Go.HL Go.ChangeShapes Go.WideShapes Go.ChangeAt Go.RowKit
namespace Go.Proofs.Ytmhfkhlamnapdaa
def fewCheck (m : Nat) : Bool := decide (enoughF (m : Int) (callsL m) = 0) && rCalls (m : Int) (callsL m) && decide (((callsL m).length : Int) = fewestN (m : Int))
theorem few_checked : ((List.range 20).all fun i => fewCheck (i + 1)) = true := by kernel_rfl
def rdCheck (m : Nat) : Bool := decide (roundsL m = refRounds m) && decide ((roundsL m).length ≤ 1000) && (roundsL m).all fun r => decide (r.length ≤ 1000)
theorem rd_checked : ([2, 4, 6, 8, 10, 12, 14, 16, 18, 20].all rdCheck) = true := by kernel_rfl

theorem toArg_pair' (H : Heap) (d : Nat) (p : Int × Int) : toArg H (d + 1) (encP p) = some (encP p) := by cases d <;> rfl
theorem arg_sl_pairs' (H : Heap) (l : List (Int × Int)) (n : Nat) (hn : n = l.length) (hb : H[0]? = some (bPs l)) : toArg H 6 (.sl 0 0 n none n 2) = some (.imm .arg 2 (l.map encP)) := by
  subst hn
  have e : ∀ H : Heap, toArg H 6 (.sl 0 0 l.length none l.length 2) = if l.length = 0 then some (.imm .arg 2 []) else match view H 0 0 l.length l.length 2 with | some l => (match mapO (toArg H 5) l with | some l => some (.imm .arg 2 l) | none => none) | none => none := fun _ => rfl
  rw [e]
  split
  · rename_i h0
    rw [List.length_eq_zero_iff.1 h0]
    rfl
  · have hv : view H 0 0 l.length l.length 2 = some (l.map encP) := by
      simp only [view, hb, List.length_map]
      rw [if_pos ⟨trivial, by omega, trivial⟩]
      simp [List.take_of_length_le]
    rw [hv]
    simp only [mapO_self (toArg_pair' _ 4)]
theorem argP_row (r : List (Int × Int)) (H : Heap) (d : Nat) : toArg H (d + 1) (encPs r) = some (encPa r) := by
  show argP (.imm .own 2 (r.map encP)) = _
  simp only [argP, argP_pairs1]
  rfl
theorem mapO_rows (H : Heap) : ∀ (L : List (List (Int × Int))), mapO (toArg H 5) (L.map encPs) = some (L.map encPa)
  | [] => rfl
  | r :: L => by simp only [List.map_cons, mapO, argP_row, mapO_rows H L]
theorem arg_sl_rows (H : Heap) (b : Nat) (L : List (List (Int × Int))) (n : Nat) (hn : n = L.length) (hb : H[b]? = some (bRows L)) : toArg H 6 (.sl b 0 n none n 1) = some (.imm .arg 1 (L.map encPa)) := by
  subst hn
  have e : ∀ H : Heap, toArg H 6 (.sl b 0 L.length none L.length 1) = if L.length = 0 then some (.imm .arg 1 []) else match view H b 0 L.length L.length 1 with | some l => (match mapO (toArg H 5) l with | some l => some (.imm .arg 1 l) | none => none) | none => none := fun _ => rfl
  rw [e]
  split
  · rename_i h0
    rw [List.length_eq_zero_iff.1 h0]
    rfl
  · have hv : view H b 0 L.length L.length 1 = some (L.map encPs) := by
      simp only [view, hb, List.length_map]
      rw [if_pos ⟨trivial, by omega, trivial⟩]
      simp [List.take_of_length_le]
    rw [hv]
    simp only [mapO_rows]
theorem pairs_any' : ∀ (M : List (Int × Int)), (M.map encP).any isOwn = false
  | [] => rfl
  | r :: M => by simp only [List.map_cons, List.any_cons, pairs_any' M, encP, isOwn, Bool.or_self]
theorem rows_any1' : ∀ (M : List (List (Int × Int))), (M.map encPs).any isOwn = false
  | [] => rfl
  | r :: M => by simp only [List.map_cons, List.any_cons, rows_any1' M, encPs, isOwn, Bool.or_self]

theorem res11 : Try.f11.results.toList = [.tmp 2] := by kernel_rfl
theorem q33 (n : Int) (H : Heap) (hn : 1 ≤ n ∧ n ≤ 20) : ∀ k, callN Try.prog polQ (k + 1) 33 [.int .i64 n] H = some (.tuple [.int .i64 (fewestN n), .int .i64 0], H) := fun k => by
  rw [prim_call (pol := polQ) (g := 33) (F := fewestF) (by kernel_rfl) (rs := [.int .i64 n]) rfl rfl, if_pos hn]; rfl
theorem q33' (n : Int) (H : Heap) (hn : ¬ (1 ≤ n ∧ n ≤ 20)) : ∀ k, callN Try.prog polQ (k + 1) 33 [.int .i64 n] H = some (.tuple [.int .i64 0, .int .i64 2], H) := fun k => by
  rw [prim_call (pol := polQ) (g := 33) (F := fewestF) (by kernel_rfl) (rs := [.int .i64 n]) rfl rfl, if_neg hn]; rfl
theorem q34 (n : Int) (hn : 1 ≤ n ∧ n ≤ 20) : ∀ k, callN Try.prog polQ (k + 1) 34 [.int .i64 n] [] = some (.tuple [.sl 0 0 (callsL n.toNat).length none (callsL n.toNat).length 2, .int .i64 0], [bPs (callsL n.toNat)]) := fun k => by
  rw [prim_call (pol := polQ) (g := 34) (F := callsF) (by kernel_rfl) (rs := [.int .i64 n]) rfl (res := callsR n) rfl, callsR, if_pos hn]
  simp only [recv, recvVals, recvVal, recvCell, pairs_any', List.length_map]
  rfl
theorem q34' (n : Int) (hn : ¬ (1 ≤ n ∧ n ≤ 20)) : ∀ k, callN Try.prog polQ (k + 1) 34 [.int .i64 n] [] = some (.tuple [.sl 0 0 0 none 0 2, .int .i64 2], [.arr 2 [] true 0]) := fun k => by
  rw [prim_call (pol := polQ) (g := 34) (F := callsF) (by kernel_rfl) (rs := [.int .i64 n]) rfl (res := callsR n) rfl, callsR, if_neg hn]; rfl
theorem q27' (n : Int) (b : Blk) (hn : roundsOkN n = false) : ∀ k, callN Try.prog polQ (k + 1) 27 [.int .i64 n] [b] = some (.tuple [.sl 1 0 0 none 0 1, .int .i64 2], [b, .arr 1 [] true 0]) := fun k => by
  rw [prim_call (pol := polQ) (g := 27) (F := roundsF) (by kernel_rfl) (rs := [.int .i64 n]) rfl rfl, hn]; rfl
theorem q27 (n : Int) (b : Blk) (hn : roundsOkN n = true) : ∀ k, callN Try.prog polQ (k + 1) 27 [.int .i64 n] [b] = some (.tuple [.sl 1 0 (roundsL n.toNat).length none (roundsL n.toNat).length 1, .int .i64 0], [b, bRows (roundsL n.toNat)]) := fun k => by
  rw [prim_call (pol := polQ) (g := 27) (F := roundsF) (by kernel_rfl) (rs := [.int .i64 n]) rfl rfl, hn, if_pos rfl, roundsR]
  simp only [recv, recvVals, recvVal, recvCell, rows_any1', List.length_map]
  rfl
theorem q37 (n : Int) (H : Heap) (hn : 1 ≤ n ∧ n ≤ 20) : ∀ k, callN Try.prog polQ (k + 1) 37 [.int .i64 n] H = some (.int .i64 (fewestN n), H) := fun k => by
  rw [prim_call (pol := polQ) (g := 37) (F := refFewest37) (by kernel_rfl) (rs := [.int .i64 n]) rfl (res := .int .i64 (fewestN n)) (by simp only [refFewest37]; rw [if_pos hn])]; rfl
theorem q38 (n : Int) (l : List (Int × Int)) (H : Heap) (hb : H[0]? = some (bPs l)) (hc : rCalls n l = true) : ∀ k, callN Try.prog polQ (k + 1) 38 [.int .i64 n, .sl 0 0 l.length none l.length 2] H = some (.bool true, H) := fun k => by
  have hl : l.length ≤ 1000 := by
    rw [rCalls, Bool.and_eq_true, decide_eq_true_eq] at hc; omega
  rw [prim_call (pol := polQ) (g := 38) (F := rcalls38) (by kernel_rfl) (rs := [.int .i64 n, .imm .arg 2 (l.map encP)]) (by simp only [mapO, arg_sl_pairs' H l l.length rfl hb]; rfl) (res := .bool true) (by simp only [rcalls38, mapO_map decP_enc]; rw [if_pos hl, hc])]; rfl
theorem q39 (n : Int) (m : Nat) (l : List (Int × Int)) (H : Heap) (hb : H[0]? = some (bPs l)) (hn : (m : Int) = n) (h1 : 1 ≤ n ∧ n ≤ 20) (hc : rCalls n l = true) (he : enoughF n l = 0) : ∀ k, callN Try.prog polQ (k + 1) 39 [.int .i64 n, .sl 0 0 l.length none l.length 2] H = some (.bool true, H) := fun k => by
  rw [rCalls, Bool.and_eq_true, decide_eq_true_eq] at hc
  have hr : rEnough m l = true := by
    have := enough_eq hn (by omega) (by omega) l hc.1 hc.2
    rw [he] at this
    cases hh : rEnough m l with
    | true => rfl
    | false => rw [hh] at this; simp at this
  rw [prim_call (pol := polQ) (g := 39) (F := rEnough39) (by kernel_rfl) (rs := [.int .i64 n, .imm .arg 2 (l.map encP)]) (by simp only [mapO, arg_sl_pairs' H l l.length rfl hb]; rfl) (res := .bool true)
    (by simp only [rEnough39, mapO_map decP_enc]; rw [if_pos ⟨⟨h1, by omega⟩, hc.1⟩, show n.toNat = m by omega, hr])]; rfl

theorem relayFewest_law (n : Int) : ∃ E H, RunsTo Try.prog polQ 11 B11 (args0 [.int .i64 n]) [] .ret (polQ.keys 11) E H ∧ E.get 2 = .bool true := by
  by_cases h1 : n < 1
  · exact ⟨_, _, law11_0 n 0 2 0 [] 2 0 [] 2 (q33' n [] (by omega)) (q34' n (by omega)) (q27' n _ (by rw [roundsOkN, decide_eq_false (show ¬ (2 ≤ n) by omega)]; rfl)) (by omega) rfl rfl h1 rfl rfl rfl rfl, rfl⟩
  by_cases h2 : 20 < n
  · exact ⟨_, _, law11_22 n 0 2 0 [] 2 0 [] 2 (q33' n [] (by omega)) (q34' n (by omega)) (q27' n _ (by rw [roundsOkN, decide_eq_false (show ¬ (n ≤ 20) by omega)]; simp)) (by omega) h2 rfl rfl h1 h2 rfl rfl rfl rfl, rfl⟩
  have hn : 1 ≤ n ∧ n ≤ 20 := by omega
  obtain ⟨m, hm⟩ : ∃ m : Nat, (m : Int) = n := ⟨n.toNat, by omega⟩
  have hnm : n.toNat = m := by omega
  have hc := List.all_eq_true.1 few_checked (m - 1) (List.mem_range.2 (by omega))
  rw [show m - 1 + 1 = m by omega, fewCheck, Bool.and_eq_true, Bool.and_eq_true, decide_eq_true_eq, decide_eq_true_eq, hm] at hc
  obtain ⟨⟨c1, c2⟩, c3⟩ := hc
  have c34 := q34 n hn
  rw [hnm] at c34
  by_cases h3 : n < 2
  · exact ⟨_, _, law11_10 n (fewestN n) 0 (callsL m).length ((callsL m).map encP) 0 0 [] 2 (fewestN n) (q33 n [] hn) c34 (q27' n _ (by rw [roundsOkN, decide_eq_false (show ¬ (2 ≤ n) by omega)]; rfl)) h3 rfl rfl h1 h2 (q37 n _ hn) rfl rfl c3 (q38 n (callsL m) _ rfl c2) (q39 n m (callsL m) _ rfl hm hn c2 c1) rfl, rfl⟩
  by_cases h4 : n.tmod 2 = 1
  · exact ⟨_, _, law11_34 n (fewestN n) 0 (callsL m).length ((callsL m).map encP) 0 0 [] 2 (fewestN n) (q33 n [] hn) c34 (q27' n _ (by rw [roundsOkN, decide_eq_true h4]; simp)) h3 h2 h4 rfl rfl h1 h2 (q37 n _ hn) rfl rfl c3 (q38 n (callsL m) _ rfl c2) (q39 n m (callsL m) _ rfl hm hn c2 c1) rfl, rfl⟩
  · have hok : roundsOkN n = true := by rw [roundsOkN, decide_eq_true (show 2 ≤ n by omega), decide_eq_true hn.2, decide_eq_false h4]; rfl
    have h4' := h4
    rw [Int.tmod_eq_emod_of_nonneg (by omega)] at h4'
    have hmem : m ∈ [2, 4, 6, 8, 10, 12, 14, 16, 18, 20] := by
      have : m = 2 ∨ m = 4 ∨ m = 6 ∨ m = 8 ∨ m = 10 ∨ m = 12 ∨ m = 14 ∨ m = 16 ∨ m = 18 ∨ m = 20 := by omega
      rcases this with h | h | h | h | h | h | h | h | h | h <;> subst h <;> decide
    have hd := List.all_eq_true.1 rd_checked m hmem
    rw [rdCheck, Bool.and_eq_true, Bool.and_eq_true, decide_eq_true_eq, decide_eq_true_eq] at hd
    obtain ⟨⟨d1, d2⟩, d3⟩ := hd
    have c27 := q27 n (bPs (callsL m)) hok
    rw [hnm] at c27
    have c36 : ∀ k, callN Try.prog polQ (k + 1) 36 [.int .i64 n] [bPs (callsL m), bRows (roundsL m)] = some (.sl 2 0 (roundsL m).length none (roundsL m).length 1, [bPs (callsL m), bRows (roundsL m), bRows (roundsL m)]) := fun k => by
      rw [prim_call (pol := polQ) (g := 36) (F := refRounds36) (by kernel_rfl) (rs := [.int .i64 n]) rfl (res := .own 1 ((roundsL m).map encPs)) (by simp only [refRounds36]; rw [if_pos ⟨by omega, hn.2⟩, hnm, d1])]
      simp only [recv, recvVal, recvCell, rows_any1', List.length_map]
      rfl
    have c35 : ∀ k, callN Try.prog polQ (k + 1) 35 [.sl 1 0 (roundsL m).length none (roundsL m).length 1, .sl 2 0 (roundsL m).length none (roundsL m).length 1] [bPs (callsL m), bRows (roundsL m), bRows (roundsL m)] = some (.bool true, [bPs (callsL m), bRows (roundsL m), bRows (roundsL m)]) := fun k => by
      rw [prim_call (pol := polQ) (g := 35) (F := rounds35) (by kernel_rfl) (rs := [.imm .arg 1 ((roundsL m).map encPa), .imm .arg 1 ((roundsL m).map encPa)])
        (by simp only [mapO, arg_sl_rows [bPs (callsL m), bRows (roundsL m), bRows (roundsL m)] 1 (roundsL m) _ rfl rfl, arg_sl_rows [bPs (callsL m), bRows (roundsL m), bRows (roundsL m)] 2 (roundsL m) _ rfl rfl]) (res := .bool true)
        (by simp only [rounds35, mapO_map decPa_enc]; rw [if_pos ⟨d2, d3⟩]; simp)]
      rfl
    exact ⟨_, _, law11_46 n (fewestN n) 0 (callsL m).length ((callsL m).map encP) 0 (roundsL m).length ((roundsL m).map encPs) 0 (roundsL m).length ((roundsL m).map encPs) (fewestN n) (q33 n [] hn) c34 c27 h3 h2 h4 c36 c35 rfl h1 h2 (q37 n _ hn) rfl rfl c3 (q38 n (callsL m) _ rfl c2) (q39 n m (callsL m) _ rfl hm hn c2 c1) rfl, rfl⟩

theorem relayFewest_run (a : Int) : ∃ n H', callN Try.prog polQ n 11 [.int .i64 a] [] = some (.bool true, H') := by
  obtain ⟨E, H, t, hv⟩ := relayFewest_law a
  obtain ⟨k, h⟩ := CallsTo.pure (pol := polQ) (g := 11) (fn := Try.f11) (cd := B11) (args := [.int .i64 a]) (rs := [.int .i64 a]) (H := []) (v := .bool true) (r := .bool true) (by kernel_rfl) (by kernel_rfl) (by kernel_rfl) (by kernel_rfl) (by kernel_rfl) rfl t (by kernel_rfl) (by simp) (by simp only [resultsV, res11, mapO, resultV, hv]) rfl
  exact ⟨k, _, h k (Nat.le_refl k)⟩
end Go.Proofs.Ytmhfkhlamnapdaa
