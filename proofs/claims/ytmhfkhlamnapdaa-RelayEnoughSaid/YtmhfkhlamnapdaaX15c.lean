/- A part of the proof: X15c. -/
import Derived.Test.YtmhfkhlamnapdaaX15
import Derived.Test.YtmhfkhlamnapdaaRows
set_option linter.unusedVariables false
set_option linter.unusedSimpArgs false
open Go Go.HL Go.ChangeShapes Go.WideShapes Go.ChangeAt Go.RowKit
namespace Go.Proofs.Ytmhfkhlamnapdaa
def callsCheck (n : Nat) : Bool :=
  decide (enoughF (n : Int) (callsL n) = 0) && decide (((callsL n).length : Int) = fewestN (n : Int)) && decide (1 ≤ fewestN (n : Int)) && decide (enoughF (n : Int) ((callsL n).take (fewestN (n : Int) - 1).toNat) = 10)
theorem calls_checked : ((List.range 19).all fun i => callsCheck (i + 2)) = true := by kernel_rfl

theorem toArg_pair (H : Heap) (d : Nat) (p : Int × Int) : toArg H (d + 1) (encP p) = some (encP p) := by cases d <;> rfl
theorem arg_sl_pairs (l : List (Int × Int)) (w : Nat) (hw : w ≤ l.length) : toArg [.arr 2 (l.map encP) true 0] 6 (.sl 0 0 w none l.length 2) = some (.imm .arg 2 ((l.take w).map encP)) := by
  have e : ∀ H : Heap, toArg H 6 (.sl 0 0 w none l.length 2) = if w = 0 then some (.imm .arg 2 []) else match view H 0 0 w l.length 2 with | some l => (match mapO (toArg H 5) l with | some l => some (.imm .arg 2 l) | none => none) | none => none := fun _ => rfl
  rw [e]
  split
  · rename_i h0
    subst h0
    rfl
  · have hv : view [.arr 2 (l.map encP) true 0] 0 0 w l.length 2 = some ((l.take w).map encP) := by
      simp only [view, List.getElem?_cons_zero, List.length_map]
      rw [if_pos ⟨trivial, by omega, trivial⟩]
      simp [List.map_take]
    rw [hv]
    simp only [mapO_self (toArg_pair _ 4)]
theorem pairs_any : ∀ (M : List (Int × Int)), (M.map encP).any isOwn = false
  | [] => rfl
  | r :: M => by simp only [List.map_cons, List.any_cons, pairs_any M, encP, isOwn, Bool.or_self]

theorem slice_sl {P : Program} {t e k b m w tot : Nat} (ht : P.underlying t = some (.slice e)) (hs : tySize P e = some k) (hw : w ≤ m) : sliceV P t (.sl b 0 m none tot k) none (some (.int .i64 (w : Int))) none = some (.sl b 0 w none tot k) := by
  simp only [sliceV, boundV, ht, hs]
  rw [if_pos (by omega : (0 : Int) ≤ (w : Int))]
  simp [hw]
theorem res15 : Try.f15.results.toList = [.tmp 2] := by kernel_rfl
theorem relayEnough_run (a : Int) : ∃ n H', callN Try.prog polD n 15 [.int .i64 a] [] = some (.bool true, H') := by
  obtain ⟨h0, h1⟩ := modW_bounds a 19 (by omega) (by omega)
  obtain ⟨i, hi⟩ : ∃ i : Nat, (i : Int) = modW a 19 := ⟨(modW a 19).toNat, by omega⟩
  have hn : IntKind.i64.wrap (2 + modW a 19) = ((i + 2 : Nat) : Int) := by rw [wrapI64]; omega
  have hc := List.all_eq_true.1 calls_checked i (List.mem_range.2 (by omega))
  simp only [callsCheck, Bool.and_eq_true, decide_eq_true_eq] at hc
  obtain ⟨⟨⟨c1, c2⟩, c3⟩, c4⟩ := hc
  have hr : 1 ≤ ((i + 2 : Nat) : Int) ∧ ((i + 2 : Nat) : Int) ≤ 20 := by omega
  have s1 := l15_a_0 a
  have s2 := l15_b_0 a
  rw [hn] at s2
  have hw : IntKind.i64.wrap (fewestN ((i + 2 : Nat) : Int) - 1) = (((fewestN ((i + 2 : Nat) : Int) - 1).toNat : Nat) : Int) := by
    have : fewestN ((i + 2 : Nat) : Int) ≤ 1000 := by
      rw [← c2, callsL]
      split
      · have : i + 2 = 2 ∨ i + 2 = 3 := by omega
        rcases this with h | h <;> rw [h] <;> decide
      · simp; omega
    rw [wrapI64]; omega
  have s3 := l15_c_0 ((i + 2 : Nat) : Int) (fewestN ((i + 2 : Nat) : Int) - 1).toNat (callsL (i + 2)).length ((callsL (i + 2)).map encP) (fewestN ((i + 2 : Nat) : Int)) 0 10
    (fun k => by
      rw [prim_call (pol := polD) (g := 34) (F := callsF) (by kernel_rfl) (rs := [.int .i64 ((i + 2 : Nat) : Int)]) rfl (res := callsR ((i + 2 : Nat) : Int)) rfl]
      rw [callsR, if_pos hr]
      simp only [recv, recvVals, recvVal, recvCell, pairs_any, List.length_map, Int.toNat_natCast]
      rfl)
    (fun k => by
      rw [prim_call (pol := polD) (g := 33) (F := fewestF) (by kernel_rfl) (rs := [.int .i64 ((i + 2 : Nat) : Int)]) rfl rfl]
      rw [if_pos hr]
      rfl)
    c2 c3
    (fun k => by
      have ha := arg_sl_pairs (callsL (i + 2)) (callsL (i + 2)).length (Nat.le_refl _)
      rw [List.take_length] at ha
      rw [prim_call (pol := polD) (g := 43) (F := enough43) (by kernel_rfl) (rs := [.int .i64 ((i + 2 : Nat) : Int), .imm .arg 2 ((callsL (i + 2)).map encP)]) (by simp only [mapO, ha]; rfl) (res := .int .i64 0) (by simp only [enough43, mapO_map decP_enc, c1])]
      rfl)
    rfl
    (by
      rw [hw]
      exact slice_sl u22 z33 (by omega))
    (fun k => by
      have ha := arg_sl_pairs (callsL (i + 2)) (fewestN ((i + 2 : Nat) : Int) - 1).toNat (by omega)
      rw [prim_call (pol := polD) (g := 43) (F := enough43) (by kernel_rfl) (rs := [.int .i64 ((i + 2 : Nat) : Int), .imm .arg 2 (((callsL (i + 2)).take (fewestN ((i + 2 : Nat) : Int) - 1).toNat).map encP)]) (by simp only [mapO, ha]; rfl) (res := .int .i64 10) (by simp only [enough43, mapO_map decP_enc, c4])]
      rfl)
    rfl
  have t1 := RunsTo.seq s2 s3 (c := sub [1] B15) (by kernel_rfl) (by kernel_rfl)
  have t2 := RunsTo.seq s1 t1 (c := B15) (by kernel_rfl) (by kernel_rfl)
  obtain ⟨m, h⟩ := CallsTo.pure (pol := polD) (g := 15) (fn := Try.f15) (cd := B15) (args := [.int .i64 a]) (rs := [.int .i64 a]) (H := []) (v := .bool true) (r := .bool true) (by kernel_rfl) (by kernel_rfl) (by kernel_rfl) (by kernel_rfl) (by kernel_rfl) rfl t2 (by kernel_rfl) (by simp) (by simp only [resultsV, res15]; rfl) rfl
  exact ⟨m, _, h m (Nat.le_refl m)⟩
end Go.Proofs.Ytmhfkhlamnapdaa
