/- A part of the proof. -/
import Derived.Test.YtmhfkhlamnapdaaHlA
import Derived.Test.YtmhfkhlamnapdaaHlB
import Derived.Test.YtmhfkhlamnapdaaHlC
import Derived.Test.YtmhfkhlamnapdaaHlD
import Derived.Test.YtmhfkhlamnapdaaHlE
import Derived.Test.YtmhfkhlamnapdaaHlF
import Derived.ProofKit
import Derived.Test.YtmhfkhlamnapdaaProg
import Derived.Deep.Slices
import Derived.OpenShut
set_option linter.unusedVariables false
set_option linter.unusedSimpArgs false
section
open Go Go.HL
namespace Go.Proofs.Ytmhfkhlamnapdaa
def keysT : List (List Nat) := [[], [], [], [0, 1, 4, 5, 6, 7, 8, 9, 10], [0, 1, 2, 5, 6, 7, 8, 9, 10, 11, 12, 13], [0, 1, 2, 6, 7, 8, 9, 10, 11, 12, 13, 14], [0, 1, 2, 6, 7, 8, 9, 10, 11, 12, 13, 14, 15, 16, 17, 18], [0, 2, 3, 4, 5, 6, 7, 8, 9, 10], [0, 1, 2, 4, 5, 6, 7], [0, 1, 2, 6, 7, 8, 9, 10, 11, 12, 13, 15, 16, 17, 18, 19, 20, 21, 22, 23, 25, 26], [0, 1, 2, 6, 7, 8, 9, 10, 11], [0, 2, 3, 4, 5, 6, 7, 8], [0, 1, 2, 6, 7, 8, 9, 10, 11, 12, 13], [0, 1, 4, 5, 6, 7, 8, 9, 10], [0, 1, 2, 6, 7, 8, 9, 10, 11, 12, 13, 14, 15, 16, 17, 18, 19], [0, 2, 3, 4, 5, 6], [0, 2, 3], [0, 1, 4, 5, 6, 7, 8, 9, 10, 11, 12, 13, 14, 23, 24, 36, 37, 38], [0, 1, 4, 5, 6, 7, 8, 9], [0, 1, 2, 3, 4, 5, 6, 7, 8, 9, 10, 11], [0, 1, 4, 5, 6, 7, 8, 9], [0, 1, 4, 5], [0, 1, 4], [0, 1, 4, 5, 6, 7], [0, 1, 2, 6, 7, 8, 9], [0, 1, 2, 6, 7, 8, 9], [0, 1, 2, 6], [0, 2, 3, 4, 5, 6, 7, 8, 18, 19, 23, 24], [0, 2, 3, 4, 5], [0, 1, 2, 3, 8, 9, 10, 11, 13, 14, 16, 17, 18, 20, 39, 40, 41, 46, 47, 48, 97, 98, 99], [0, 1, 2, 3, 8, 9, 10, 11, 12, 13, 14, 15, 16, 17], [0, 1, 2, 6, 7, 8, 9, 10, 11], [0, 1, 4, 5], [0, 2, 3], [0, 1, 2, 3, 4, 5, 6, 7, 13, 14, 17, 18], [0, 1, 4, 5], [0, 2, 3, 4, 5, 6, 7, 8], [0, 2], [0, 1, 4, 5, 6, 7], [0, 1, 4, 5, 6], [0, 1, 2, 6], [0, 1, 2, 6, 7, 8, 9, 10, 11, 12, 13, 14], [0, 1, 4, 5, 6, 7, 8, 10, 11, 12, 13, 22, 23, 24, 28, 29], [0, 1, 4, 5, 6, 7, 8, 10, 19, 20, 26, 27, 28], [0, 1, 4, 5, 6, 7, 8, 9, 10, 11, 12, 13, 14, 15], [0, 1, 4, 5, 6, 7, 8], [0, 1, 4, 5, 6, 8, 24, 25, 26], [0, 1, 2, 3, 6, 7, 9, 10, 11, 12, 28, 29, 30], [0, 2, 3, 4], [0, 1, 2, 6], [0, 1, 2, 4, 5, 6, 7, 8, 10, 16, 17, 42, 43, 44], [0, 1, 2, 6, 7, 8, 9, 10, 11, 12], [0, 1, 4], [0, 1, 2, 6, 7], [0, 1, 2, 3, 4, 5, 10, 14, 15, 16], [0, 1, 2, 3, 4, 5, 6, 7], [0, 1, 2], [0, 1, 2, 3, 8, 9, 10, 11, 12, 13, 14, 15, 16], [0, 1, 4, 5, 6, 7, 9, 10, 11, 12, 24, 25, 34, 35, 36, 70, 71], [0, 1, 4, 5, 7, 8], [0, 1, 4, 5, 6, 7], [0, 2], [0, 1, 3], [0, 1, 3, 4, 5], [0, 1, 2, 4], [0, 1, 4, 5, 7, 8], [0, 1], [0, 1, 2, 5], [0, 1, 4, 5, 6], [0, 1, 2, 6, 7, 8, 9], [0, 2], [0, 1, 2, 3, 8, 9], [0, 1, 2, 3, 4, 10, 11, 12, 13, 14, 15, 16, 17, 18, 19, 20, 21, 22, 23, 24], [0, 1, 2, 3, 4, 10, 11], [0, 1, 2, 3, 10], [], [], [], [], [], [], [], [], [], [], [], [], [], [], [], []]
def resT : List (List Nat) := [[], [], [], [4], [6], [6], [6], [2], [4], [6], [6], [2], [6], [4], [6], [2], [2], [4, 5, 6], [4], [0], [4, 5], [4], [4], [4], [6, 7], [6, 7], [6], [2, 3], [2], [8], [8], [6, 7], [4], [2, 3], [2, 3], [4], [2], [2], [4], [4], [6], [6], [4, 5], [4], [4], [4], [5], [6], [2], [6], [4], [6], [4], [6], [], [6], [], [8], [4, 5], [4], [4], [2], [3], [4], [4], [4], [], [5], [4], [], [2], [], [], [], [], [], [], [], [], [], [], [], [], [], [], [], [], [], [], [], []]
def sharedT : List Nat := [47, 50, 54, 55, 56, 60, 62, 63, 64, 65, 66, 67, 69, 71, 72, 73, 74, 83, 84, 85, 86, 87, 88, 89]
/-- Slots that are dead where a loop's round begins: function, first region, slots. -/
def deadT : List (Nat × Nat × List Nat) := [(58, 5, [7]), (58, 10, [7, 9, 10, 11, 12, 70, 71]), (58, 16, [11, 12]), (43, 6, [8]), (43, 11, [8, 10]), (7, 7, [7, 8, 9, 10]), (7, 13, [9, 10]), (5, 9, [9, 11, 13, 14]), (6, 11, [10, 12, 14, 17, 18]), (6, 18, [10, 12, 13, 14, 16]), (9, 9, [17, 18, 19, 20, 21, 22, 23, 25, 26]), (9, 12, [18, 19, 20, 21, 22, 23, 25, 26]), (9, 17, [9, 11, 13, 16, 17, 20, 21, 22, 23, 25, 26]), (9, 20, [9, 11, 13, 16, 17, 21, 22, 23, 25, 26]), (10, 9, [9]), (13, 10, [7]), (14, 5, [11, 12, 13, 14, 15, 16, 17, 18, 19]), (14, 9, [10, 12, 13, 14, 15, 16, 17, 18, 19]), (14, 23, [7, 8, 9, 10, 11, 12, 13, 14, 16, 18]), (17, 6, [8, 11, 12, 13, 14, 36, 37, 38]), (17, 12, [7, 8, 9, 11, 13, 14, 23, 24]), (18, 4, [6, 7, 8, 9]), (18, 11, [5, 6, 7]), (20, 4, [9]), (23, 3, [7]), (27, 5, [5, 6, 7, 8, 23, 24]), (27, 9, [7, 8]), (28, 3, [5]), (29, 6, [10, 13, 14, 16, 17, 18, 20, 46, 47, 48, 97, 98, 99]), (29, 10, [10, 16, 17, 18, 20, 97, 98, 99]), (29, 18, [10, 13, 14, 16, 17, 18, 20, 46, 47, 48]), (30, 5, [12, 13, 14, 15, 16, 17]), (30, 10, [15, 16, 17]), (30, 18, [12, 14, 15, 16]), (34, 6, [1, 5, 6, 7, 17, 18]), (34, 9, [1, 6, 7]), (36, 4, [6, 7, 8]), (36, 8, [8]), (38, 2, [6, 7]), (41, 3, [9, 10, 11, 12, 13, 14]), (41, 9, [8, 11, 12, 13, 14]), (41, 14, [8, 14]), (42, 6, [6, 7, 10, 11, 12, 13, 28, 29]), (42, 10, [6, 7, 10, 12, 13]), (44, 3, [7, 8, 9, 10, 11, 12, 13, 14, 15]), (44, 7, [6, 8, 9, 10, 11, 12, 13, 14, 15]), (44, 11, [6, 11, 12, 13, 14, 15]), (44, 18, [6, 7, 8, 9, 10, 11, 14, 15]), (44, 22, [6, 7, 8, 9, 10, 11]), (45, 3, [7, 8]), (46, 5, [8]), (47, 6, [9, 11, 12]), (50, 3, [6, 7, 8, 10, 42, 43, 44]), (50, 10, [6, 10, 16, 17, 42, 43, 44]), (50, 13, [6, 10, 16, 17]), (51, 3, [9, 10, 11, 12]), (51, 12, [8, 9, 10]), (54, 1, [10]), (57, 4, [12, 13, 14, 15, 16]), (57, 9, [14, 15, 16]), (57, 17, [10, 11, 12, 13, 14]), (59, 2, [5]), (60, 5, [7]), (65, 2, [5]), (69, 2, [9]), (69, 7, [7, 8, 9]), (69, 9, [9]), (71, 1, [9]), (72, 3, [12, 13, 14, 15, 16, 17, 18, 19, 20, 21, 22, 23, 24]), (72, 9, [11, 12, 14, 15, 16, 17, 18, 19, 20, 21, 22, 23, 24]), (72, 15, [10, 11, 12, 13, 16, 17, 18, 19, 20, 21, 22, 23, 24]), (72, 21, [10, 11, 12, 13, 15, 16, 18, 19, 20, 21, 22, 23, 24]), (72, 33, [10, 11, 12, 13, 14, 15, 16, 17, 23, 24])]
def pol : Pol where
  shared g := sharedT.contains g
  freeze _ _ := true
  freezeS _ _ := false
  blk g d := !((resT.getD g []).contains d)
  nilf g := g == 61
  deep _ := false
  prim _ := none
  rows g _ := g == 31 || g == 46
  keys g := keysT.getD g []
  quiet _ _ := []
  dead f r := ((deadT.find? fun p => p.1 == f && p.2.1 == r).map (·.2.2)).getD []
theorem follows_mixed : Try.prog.follows .mixedOrders = true := by kernel_rfl
set_option maxRecDepth 100000 in
theorem fns_ok : (Try.prog.funcs.toList.zipIdx.all fun p => fnOk pol p.2 p.1) = true := by kernel_rfl
theorem sound (n : Nat) : CallSound Try.prog (callN Try.prog pol n) :=
  callN_ok follows_mixed (fun g fn h => List.all_eq_true.1 fns_ok (fn, g) (by
      rw [List.mem_zipIdx_iff_getElem?]
      simpa using h)) (fun g F h => by cases h) n
theorem sound_prim (F : FuncId → Option (List HV → Option HV)) (hF : ∀ g f, F g = some f → PrimOk Try.prog g f) (n : Nat) : CallSound Try.prog (callN Try.prog { pol with prim := F } n) :=
  callN_ok follows_mixed (fun g fn h => by
    rw [fnOk_prim]
    exact List.all_eq_true.1 fns_ok (fn, g) (by
      rw [List.mem_zipIdx_iff_getElem?]
      simpa using h)) hF n
set_option maxRecDepth 100000 in
theorem awake_run : callN Try.prog pol 200 19 [] [] = some (.bool true, []) := by kernel_rfl
def awakeF : List HV → Option HV | [] => some (.bool true) | _ => none
theorem awake_prim : PrimOk Try.prog 19 awakeF := by
  refine primOk_of (pol := pol) sound (by kernel_rfl) fun args res h => ?_
  match args, h with
  | [], h =>
    cases h
    exact ⟨200, _, _, false, awake_run, rfl⟩
def withinF : List HV → Option HV
  | [.int .i64 n, .int .i64 lo, .int .i64 hi] => some (.bool (decide (lo ≤ n ∧ n ≤ hi)))
  | _ => none
/-- The policy whose 'awake' and 'within' are known. -/
def polB : Pol := { pol with prim := fun g => if g == 19 then some awakeF else if g == 49 then some withinF else none }
def modW (a : Int) (n : Int) : Int := IntKind.i64.wrap ((IntKind.u64.wrap a).tmod (IntKind.u64.wrap n))
theorem wrapU64 (n : Int) : IntKind.u64.wrap n = n % 18446744073709551616 := by simp [IntKind.wrap, IntKind.signed, IntKind.bits]
theorem wrapI64 (n : Int) : IntKind.i64.wrap n = (n + 9223372036854775808) % 18446744073709551616 - 9223372036854775808 := by rw [IntKind.wrap_i64]
theorem modW_bounds (a n : Int) (h0 : 0 < n) (h1 : n < 9223372036854775808) : 0 ≤ modW a n ∧ modW a n < n := by
  have hn : IntKind.u64.wrap n = n := by rw [wrapU64]; omega
  have ha : 0 ≤ IntKind.u64.wrap a := by rw [wrapU64]; omega
  have hm0 : 0 ≤ IntKind.u64.wrap a % n := Int.emod_nonneg _ (by omega)
  have hm1 : IntKind.u64.wrap a % n < n := Int.emod_lt_of_pos _ h0
  simp only [modW, hn]
  rw [Int.tmod_eq_emod_of_nonneg ha, wrapI64]
  constructor <;> omega
end Go.Proofs.Ytmhfkhlamnapdaa
end
section
open Go Go.HL
namespace Go.Proofs.Ytmhfkhlamnapdaa
set_option maxRecDepth 100000
noncomputable def B49 : Code := Try.f49.body.getD .skip
abbrev env49 (v0 v1 v2 v6 : HV) : Env := [(0, v0), (1, v1), (2, v2), (6, v6)]
theorem w49_0 (n lo hi : Int)  (g0 : lo ≤ n) (g1 : n ≤ hi) : RunsTo Try.prog pol 49 (sub [] B49) [(0, .int .i64 n), (1, .int .i64 lo), (2, .int .i64 hi)] [] (.ret) (pol.keys 49) (env49 (.int .i64 n) (.int .i64 lo) (.int .i64 hi) (.bool true)) [] :=
  RunsTo.hint 1 60 [⟨1, 2, .bool true, []⟩, ⟨1, 6, .bool true, []⟩] fun k hk => by
    obtain ⟨k, rfl⟩ : ∃ n, k = n + 1 := ⟨k - 1, by omega⟩
    exact ⟨[some (HV.bool (decide (lo ≤ n)), ([] : Heap)) = some (.bool true, []), some (HV.bool (decide (n ≤ hi)), ([] : Heap)) = some (.bool true, [])], by kernel_rfl, Obls.cons (hintB (decide_eq_true g0)) (Obls.cons (hintB (decide_eq_true g1)) Obls.nil)⟩
theorem w49_1 (n lo hi : Int)  (g0 : lo ≤ n) (g1 : ¬ (n ≤ hi)) : RunsTo Try.prog pol 49 (sub [] B49) [(0, .int .i64 n), (1, .int .i64 lo), (2, .int .i64 hi)] [] (.ret) (pol.keys 49) (env49 (.int .i64 n) (.int .i64 lo) (.int .i64 hi) (.bool false)) [] :=
  RunsTo.hint 1 60 [⟨1, 2, .bool true, []⟩, ⟨1, 6, .bool false, []⟩] fun k hk => by
    obtain ⟨k, rfl⟩ : ∃ n, k = n + 1 := ⟨k - 1, by omega⟩
    exact ⟨[some (HV.bool (decide (lo ≤ n)), ([] : Heap)) = some (.bool true, []), some (HV.bool (decide (n ≤ hi)), ([] : Heap)) = some (.bool false, [])], by kernel_rfl, Obls.cons (hintB (decide_eq_true g0)) (Obls.cons (hintB (decide_eq_false g1)) Obls.nil)⟩
theorem w49_2 (n lo hi : Int)  (g0 : ¬ (lo ≤ n)) : RunsTo Try.prog pol 49 (sub [] B49) [(0, .int .i64 n), (1, .int .i64 lo), (2, .int .i64 hi)] [] (.ret) (pol.keys 49) (env49 (.int .i64 n) (.int .i64 lo) (.int .i64 hi) (.bool false)) [] :=
  RunsTo.hint 1 60 [⟨1, 2, .bool false, []⟩] fun k hk => by
    obtain ⟨k, rfl⟩ : ∃ n, k = n + 1 := ⟨k - 1, by omega⟩
    exact ⟨[some (HV.bool (decide (lo ≤ n)), ([] : Heap)) = some (.bool false, [])], by kernel_rfl, Obls.cons (hintB (decide_eq_false g0)) Obls.nil⟩
noncomputable def B22 : Code := Try.f22.body.getD .skip
abbrev env22 (v0 v1 v4 : HV) : Env := [(0, v0), (1, v1), (4, v4)]
theorem m22_0 (a n : Int)  (g0 : binV Try.prog .rem 76 (.int .u64 (IntKind.u64.wrap a)) (.int .u64 (IntKind.u64.wrap n)) = some (.int .u64 ((IntKind.u64.wrap a : Int).tmod (IntKind.u64.wrap n)))) : RunsTo Try.prog pol 22 (sub [] B22) [(0, .int .i64 a), (1, .int .i64 n)] [] (.ret) (pol.keys 22) (env22 (.int .i64 a) (.int .i64 n) (.int .i64 (IntKind.i64.wrap ((IntKind.u64.wrap a : Int).tmod (IntKind.u64.wrap n))))) [] :=
  RunsTo.hint 1 60 [⟨1, 4, .int .u64 ((IntKind.u64.wrap a : Int).tmod (IntKind.u64.wrap n)), []⟩] fun k hk => by
    obtain ⟨k, rfl⟩ : ∃ n, k = n + 1 := ⟨k - 1, by omega⟩
    exact ⟨[(binV Try.prog .rem 76 (.int .u64 (IntKind.u64.wrap a)) (.int .u64 (IntKind.u64.wrap n))).map (fun v => (v, ([] : Heap))) = some (.int .u64 ((IntKind.u64.wrap a : Int).tmod (IntKind.u64.wrap n)), [])], by kernel_rfl, Obls.cons (hintOp g0) Obls.nil⟩
noncomputable def B33 : Code := Try.f33.body.getD .skip
abbrev env33 (v0 v2 v3 : HV) : Env := [(0, v0), (2, v2), (3, v3)]
theorem f33_0 (n : Int)  (g0 : (1 : Int) ≤ n ∧ n ≤ (20 : Int)) (g1 : n < 4) : RunsTo Try.prog polB 33 (sub [] B33) [(0, .int .i64 n)] [] (.ret) (polB.keys 33) (env33 (.int .i64 n) (.int .i64 (IntKind.i64.wrap ((IntKind.i64.wrap (n * IntKind.i64.wrap (n - 1)) : Int).tdiv 2))) (.int .i64 0)) [] :=
  RunsTo.hint 1 60 [⟨1, 1, .bool true, []⟩, ⟨3, 1, .bool true, []⟩] fun k hk => by
    obtain ⟨k, rfl⟩ : ∃ n, k = n + 1 := ⟨k - 1, by omega⟩
    exact ⟨[some (HV.bool (decide ((1 : Int) ≤ n ∧ n ≤ (20 : Int))), ([] : Heap)) = some (.bool true, []), some (HV.bool (decide (n < 4)), ([] : Heap)) = some (.bool true, [])], by kernel_rfl, Obls.cons (hintB (decide_eq_true g0)) (Obls.cons (hintB (decide_eq_true g1)) Obls.nil)⟩
theorem f33_1 (n : Int)  (g0 : (1 : Int) ≤ n ∧ n ≤ (20 : Int)) (g1 : ¬ (n < 4)) : RunsTo Try.prog polB 33 (sub [] B33) [(0, .int .i64 n)] [] (.ret) (polB.keys 33) (env33 (.int .i64 n) (.int .i64 (IntKind.i64.wrap (IntKind.i64.wrap (2 * n) - 4))) (.int .i64 0)) [] :=
  RunsTo.hint 1 60 [⟨1, 1, .bool true, []⟩, ⟨3, 1, .bool false, []⟩] fun k hk => by
    obtain ⟨k, rfl⟩ : ∃ n, k = n + 1 := ⟨k - 1, by omega⟩
    exact ⟨[some (HV.bool (decide ((1 : Int) ≤ n ∧ n ≤ (20 : Int))), ([] : Heap)) = some (.bool true, []), some (HV.bool (decide (n < 4)), ([] : Heap)) = some (.bool false, [])], by kernel_rfl, Obls.cons (hintB (decide_eq_true g0)) (Obls.cons (hintB (decide_eq_false g1)) Obls.nil)⟩
theorem f33_2 (n : Int)  (g0 : ¬ ((1 : Int) ≤ n ∧ n ≤ (20 : Int))) : RunsTo Try.prog polB 33 (sub [] B33) [(0, .int .i64 n)] [] (.ret) (polB.keys 33) (env33 (.int .i64 n) (.int .i64 0) (.int .i64 2)) [] :=
  RunsTo.hint 1 60 [⟨1, 1, .bool false, []⟩] fun k hk => by
    obtain ⟨k, rfl⟩ : ∃ n, k = n + 1 := ⟨k - 1, by omega⟩
    exact ⟨[some (HV.bool (decide ((1 : Int) ≤ n ∧ n ≤ (20 : Int))), ([] : Heap)) = some (.bool false, [])], by kernel_rfl, Obls.cons (hintB (decide_eq_false g0)) Obls.nil⟩
end Go.Proofs.Ytmhfkhlamnapdaa
end
section
open Go Go.HL
namespace Go.Proofs.Ytmhfkhlamnapdaa
set_option maxRecDepth 100000
noncomputable def B50 : Code := Try.f50.body.getD .skip
abbrev env50 (v0 v1 v2 v4 v5 v6 v7 v8 v10 v16 v17 v42 v43 v44 : HV) : Env := [(0, v0), (1, v1), (2, v2), (4, v4), (5, v5), (6, v6), (7, v7), (8, v8), (10, v10), (16, v16), (17, v17), (42, v42), (43, v43), (44, v44)]
theorem ff_a_0 (rows : List HV) (ks vs : List HV) (x : Int)   : RunsTo Try.prog pol 50 (sub [0] B50) [(0, .agg [.imm .arg 1 rows, .imap .arg ks vs]), (1, .int .i64 x)] [] (.normal) (pol.keys 50) (env50 (.agg [.imm .arg 1 rows, .imap .arg ks vs]) (.int .i64 x) (.ptr 0 0 0 1) (.imm .lit 1 []) .undef .undef .undef .undef .undef .undef .undef .undef .undef .undef) [.arr 2 [.agg [.imm .arg 1 rows, .imap .arg ks vs]] true 0] :=
  RunsTo.hint 1 60 [] fun kf hk => by
    obtain ⟨kf, rfl⟩ : ∃ n, kf = n + 1 := ⟨kf - 1, by omega⟩
    exact ⟨[], by kernel_rfl, Obls.nil⟩
theorem ff_b_0 (rows : List HV) (ks vs : List HV) (x : Int)  (g0 : makeV Try.prog false 24 (.int .i64 (rows.length : Int)) (.int .i64 (rows.length : Int)) [.arr 2 [.agg [.imm .arg 1 rows, .imap .arg ks vs]] true 0] = some (.sl 1 0 rows.length (some rows.length) rows.length 1, [.arr 2 [.agg [.imm .arg 1 rows, .imap .arg ks vs]] true 0, .arr 1 (List.replicate rows.length (.int .i64 0)) true 0])) : RunsTo Try.prog pol 50 (sub [1, 0] B50) (env50 (.agg [.imm .arg 1 rows, .imap .arg ks vs]) (.int .i64 x) (.ptr 0 0 0 1) (.imm .lit 1 []) .undef .undef .undef .undef .undef .undef .undef .undef .undef .undef) [.arr 2 [.agg [.imm .arg 1 rows, .imap .arg ks vs]] true 0] (.normal) (pol.keys 50) (env50 (.agg [.imm .arg 1 rows, .imap .arg ks vs]) (.int .i64 x) (.ptr 0 0 0 1) (.imm .lit 1 []) (.sl 1 0 rows.length (some rows.length) rows.length 1) .undef .undef .undef .undef .undef .undef .undef .undef .undef) [.arr 2 [.agg [.imm .arg 1 rows, .imap .arg ks vs]] true 0, .arr 1 (List.replicate rows.length (.int .i64 0)) true 0] :=
  RunsTo.hint 1 60 [⟨1, 3, .sl 1 0 rows.length (some rows.length) rows.length 1, [.arr 2 [.agg [.imm .arg 1 rows, .imap .arg ks vs]] true 0, .arr 1 (List.replicate rows.length (.int .i64 0)) true 0]⟩] fun kf hk => by
    obtain ⟨kf, rfl⟩ : ∃ n, kf = n + 1 := ⟨kf - 1, by omega⟩
    exact ⟨[makeV Try.prog false 24 (.int .i64 (rows.length : Int)) (.int .i64 (rows.length : Int)) [.arr 2 [.agg [.imm .arg 1 rows, .imap .arg ks vs]] true 0] = some (.sl 1 0 rows.length (some rows.length) rows.length 1, [.arr 2 [.agg [.imm .arg 1 rows, .imap .arg ks vs]] true 0, .arr 1 (List.replicate rows.length (.int .i64 0)) true 0])], by kernel_rfl, Obls.cons (g0) Obls.nil⟩
theorem ff_c_0 (rows : List HV) (ks vs : List HV) (x : Int) (n : Nat) (els : List HV)   : RunsTo Try.prog pol 50 (sub [1, 1, 0, 0] B50) (env50 (.agg [.imm .arg 1 rows, .imap .arg ks vs]) (.int .i64 x) (.ptr 0 0 0 1) (.imm .lit 1 []) (.sl 1 0 n (some n) n 1) .undef .undef .undef .undef .undef .undef .undef .undef .undef) [.arr 2 [.agg [.imm .arg 1 rows, .imap .arg ks vs]] true 0, .arr 1 els true 0] (.normal) (pol.keys 50) (env50 (.agg [.imm .arg 1 rows, .imap .arg ks vs]) (.int .i64 x) (.ptr 0 0 0 1) (.imm .lit 1 []) (.sl 1 0 n (some n) n 1) .undef .undef .undef .undef (.int .i64 (n : Int)) (.int .i64 0) .undef .undef .undef) [.arr 2 [.agg [.imm .arg 1 rows, .imap .arg ks vs]] true 0, .arr 1 els true 0] :=
  RunsTo.hint 1 60 [] fun kf hk => by
    obtain ⟨kf, rfl⟩ : ∃ n, kf = n + 1 := ⟨kf - 1, by omega⟩
    exact ⟨[], by kernel_rfl, Obls.nil⟩
theorem ff_l1_0 (rows : List HV) (ks vs : List HV) (x : Int) (n : Nat) (els : List HV) (j : Nat) (el0 : List HV) (g0 : (j : Int) < (n : Int)) (g1 : idxV Try.prog 24 (.sl 1 0 n (some n) n 1) (.int .i64 (j : Int)) = some (.ptr 1 j 0 n)) (g2 : storeV Try.prog [.arr 2 [.agg [.imm .arg 1 rows, .imap .arg ks vs]] true 0, .arr 1 els true 0] 3 (.ptr 1 j 0 n) (.int .i64 (-1)) = some [.arr 2 [.agg [.imm .arg 1 rows, .imap .arg ks vs]] true 0, .arr 1 el0 true 0]) : RunsTo Try.prog pol 50 (sub [1, 1, 0, 1, 0, 0] B50) (env50 (.agg [.imm .arg 1 rows, .imap .arg ks vs]) (.int .i64 x) (.ptr 0 0 0 1) (.imm .lit 1 []) (.sl 1 0 n (some n) n 1) .undef .undef .undef .undef (.int .i64 (n : Int)) (.int .i64 (j : Int)) .undef .undef .undef) [.arr 2 [.agg [.imm .arg 1 rows, .imap .arg ks vs]] true 0, .arr 1 els true 0] (.normal) (pol.keys 50) (env50 (.agg [.imm .arg 1 rows, .imap .arg ks vs]) (.int .i64 x) (.ptr 0 0 0 1) (.imm .lit 1 []) (.sl 1 0 n (some n) n 1) (.int .i64 (j : Int)) .undef .undef .undef (.int .i64 (n : Int)) (.int .i64 (IntKind.i64.wrap ((j : Int) + 1))) .undef .undef .undef) [.arr 2 [.agg [.imm .arg 1 rows, .imap .arg ks vs]] true 0, .arr 1 el0 true 0] :=
  RunsTo.hint 1 60 [⟨3, 0, .bool true, [.arr 2 [.agg [.imm .arg 1 rows, .imap .arg ks vs]] true 0, .arr 1 els true 0]⟩, ⟨5, 2, .ptr 1 j 0 n, [.arr 2 [.agg [.imm .arg 1 rows, .imap .arg ks vs]] true 0, .arr 1 els true 0]⟩, ⟨5, 3, .tuple [], [.arr 2 [.agg [.imm .arg 1 rows, .imap .arg ks vs]] true 0, .arr 1 el0 true 0]⟩] fun kf hk => by
    obtain ⟨kf, rfl⟩ : ∃ n, kf = n + 1 := ⟨kf - 1, by omega⟩
    exact ⟨[some (HV.bool (decide ((j : Int) < (n : Int))), ([.arr 2 [.agg [.imm .arg 1 rows, .imap .arg ks vs]] true 0, .arr 1 els true 0] : Heap)) = some (.bool true, [.arr 2 [.agg [.imm .arg 1 rows, .imap .arg ks vs]] true 0, .arr 1 els true 0]), (idxV Try.prog 24 (.sl 1 0 n (some n) n 1) (.int .i64 (j : Int))).map (fun v => (v, ([.arr 2 [.agg [.imm .arg 1 rows, .imap .arg ks vs]] true 0, .arr 1 els true 0] : Heap))) = some (.ptr 1 j 0 n, [.arr 2 [.agg [.imm .arg 1 rows, .imap .arg ks vs]] true 0, .arr 1 els true 0]), (storeV Try.prog [.arr 2 [.agg [.imm .arg 1 rows, .imap .arg ks vs]] true 0, .arr 1 els true 0] 3 (.ptr 1 j 0 n) (.int .i64 (-1))).map (fun H => (HV.tuple [], H)) = some (.tuple [], [.arr 2 [.agg [.imm .arg 1 rows, .imap .arg ks vs]] true 0, .arr 1 el0 true 0])], by kernel_rfl, Obls.cons (hintB (decide_eq_true g0)) (Obls.cons (hintOp g1) (Obls.cons (hintSt g2) Obls.nil))⟩
theorem ff_l1_1 (rows : List HV) (ks vs : List HV) (x : Int) (n : Nat) (els : List HV) (j : Nat)  (g0 : ¬ ((j : Int) < (n : Int))) : RunsTo Try.prog pol 50 (sub [1, 1, 0, 1, 0, 0] B50) (env50 (.agg [.imm .arg 1 rows, .imap .arg ks vs]) (.int .i64 x) (.ptr 0 0 0 1) (.imm .lit 1 []) (.sl 1 0 n (some n) n 1) .undef .undef .undef .undef (.int .i64 (n : Int)) (.int .i64 (j : Int)) .undef .undef .undef) [.arr 2 [.agg [.imm .arg 1 rows, .imap .arg ks vs]] true 0, .arr 1 els true 0] (.exit 0) (pol.keys 50) (env50 (.agg [.imm .arg 1 rows, .imap .arg ks vs]) (.int .i64 x) (.ptr 0 0 0 1) (.imm .lit 1 []) (.sl 1 0 n (some n) n 1) .undef .undef .undef .undef (.int .i64 (n : Int)) (.int .i64 (j : Int)) .undef .undef .undef) [.arr 2 [.agg [.imm .arg 1 rows, .imap .arg ks vs]] true 0, .arr 1 els true 0] :=
  RunsTo.hint 1 60 [⟨3, 0, .bool false, [.arr 2 [.agg [.imm .arg 1 rows, .imap .arg ks vs]] true 0, .arr 1 els true 0]⟩] fun kf hk => by
    obtain ⟨kf, rfl⟩ : ∃ n, kf = n + 1 := ⟨kf - 1, by omega⟩
    exact ⟨[some (HV.bool (decide ((j : Int) < (n : Int))), ([.arr 2 [.agg [.imm .arg 1 rows, .imap .arg ks vs]] true 0, .arr 1 els true 0] : Heap)) = some (.bool false, [.arr 2 [.agg [.imm .arg 1 rows, .imap .arg ks vs]] true 0, .arr 1 els true 0])], by kernel_rfl, Obls.cons (hintB (decide_eq_false g0)) Obls.nil⟩
theorem ff_d_0 (rows : List HV) (ks vs : List HV) (x : Int) (n : Nat) (els : List HV) (v6 v16 v17 : HV) (el0 : List HV) (g0 : idxV Try.prog 24 (.sl 1 0 n (some n) n 1) (.int .i64 x) = some (.ptr 1 ((x).toNat) 0 n)) (g1 : storeV Try.prog [.arr 2 [.agg [.imm .arg 1 rows, .imap .arg ks vs]] true 0, .arr 1 els true 0] 3 (.ptr 1 ((x).toNat) 0 n) (.int .i64 0) = some [.arr 2 [.agg [.imm .arg 1 rows, .imap .arg ks vs]] true 0, .arr 1 el0 true 0]) : RunsTo Try.prog pol 50 (sub [1, 1, 1, 0] B50) (env50 (.agg [.imm .arg 1 rows, .imap .arg ks vs]) (.int .i64 x) (.ptr 0 0 0 1) (.imm .lit 1 []) (.sl 1 0 n (some n) n 1) v6 .undef .undef .undef v16 v17 .undef .undef .undef) [.arr 2 [.agg [.imm .arg 1 rows, .imap .arg ks vs]] true 0, .arr 1 els true 0] (.normal) (pol.keys 50) (env50 (.agg [.imm .arg 1 rows, .imap .arg ks vs]) (.int .i64 x) (.ptr 0 0 0 1) (.imm .lit 1 []) (.sl 1 0 n (some n) n 1) v6 .undef .undef .undef v16 v17 .undef .undef .undef) [.arr 2 [.agg [.imm .arg 1 rows, .imap .arg ks vs]] true 0, .arr 1 el0 true 0] :=
  RunsTo.hint 1 60 [⟨7, 2, .ptr 1 ((x).toNat) 0 n, [.arr 2 [.agg [.imm .arg 1 rows, .imap .arg ks vs]] true 0, .arr 1 els true 0]⟩, ⟨7, 3, .tuple [], [.arr 2 [.agg [.imm .arg 1 rows, .imap .arg ks vs]] true 0, .arr 1 el0 true 0]⟩] fun kf hk => by
    obtain ⟨kf, rfl⟩ : ∃ n, kf = n + 1 := ⟨kf - 1, by omega⟩
    exact ⟨[(idxV Try.prog 24 (.sl 1 0 n (some n) n 1) (.int .i64 x)).map (fun v => (v, ([.arr 2 [.agg [.imm .arg 1 rows, .imap .arg ks vs]] true 0, .arr 1 els true 0] : Heap))) = some (.ptr 1 ((x).toNat) 0 n, [.arr 2 [.agg [.imm .arg 1 rows, .imap .arg ks vs]] true 0, .arr 1 els true 0]), (storeV Try.prog [.arr 2 [.agg [.imm .arg 1 rows, .imap .arg ks vs]] true 0, .arr 1 els true 0] 3 (.ptr 1 ((x).toNat) 0 n) (.int .i64 0)).map (fun H => (HV.tuple [], H)) = some (.tuple [], [.arr 2 [.agg [.imm .arg 1 rows, .imap .arg ks vs]] true 0, .arr 1 el0 true 0])], by kernel_rfl, Obls.cons (hintOp g0) (Obls.cons (hintSt g1) Obls.nil)⟩
theorem ff_e_0 (rows : List HV) (ks vs : List HV) (x : Int) (n : Nat) (els : List HV) (v6 v16 v17 : HV)   : RunsTo Try.prog pol 50 (sub [1, 1, 1, 1, 0] B50) (env50 (.agg [.imm .arg 1 rows, .imap .arg ks vs]) (.int .i64 x) (.ptr 0 0 0 1) (.imm .lit 1 []) (.sl 1 0 n (some n) n 1) v6 .undef .undef .undef v16 v17 .undef .undef .undef) [.arr 2 [.agg [.imm .arg 1 rows, .imap .arg ks vs]] true 0, .arr 1 els true 0] (.normal) (pol.keys 50) (env50 (.agg [.imm .arg 1 rows, .imap .arg ks vs]) (.int .i64 x) (.ptr 0 0 0 1) (.imm .lit 1 []) (.sl 1 0 n (some n) n 1) v6 (.sl 2 0 1 (some 1) 1 1) .undef .undef v16 v17 .undef .undef .undef) [.arr 2 [.agg [.imm .arg 1 rows, .imap .arg ks vs]] true 0, .arr 1 els true 0, .arr 1 [.int .i64 x] true 0] :=
  RunsTo.hint 1 60 [] fun kf hk => by
    obtain ⟨kf, rfl⟩ : ∃ n, kf = n + 1 := ⟨kf - 1, by omega⟩
    exact ⟨[], by kernel_rfl, Obls.nil⟩
theorem ff_f_0 (rows : List HV) (ks vs : List HV) (x : Int) (n : Nat) (v6 v16 v17 : HV) (qv : HV) (H : Heap)   : RunsTo Try.prog pol 50 (sub [1, 1, 1, 1, 1, 0, 0] B50) (env50 (.agg [.imm .arg 1 rows, .imap .arg ks vs]) (.int .i64 x) (.ptr 0 0 0 1) (.imm .lit 1 []) (.sl 1 0 n (some n) n 1) v6 qv .undef .undef v16 v17 .undef .undef .undef) H (.normal) (pol.keys 50) (env50 (.agg [.imm .arg 1 rows, .imap .arg ks vs]) (.int .i64 x) (.ptr 0 0 0 1) (.imm .lit 1 []) (.sl 1 0 n (some n) n 1) v6 qv (.int .i64 0) .undef v16 v17 .undef .undef .undef) H :=
  RunsTo.hint 1 60 [] fun kf hk => by
    obtain ⟨kf, rfl⟩ : ∃ n, kf = n + 1 := ⟨kf - 1, by omega⟩
    exact ⟨[], by kernel_rfl, Obls.nil⟩
theorem ff_h_0 (rows : List HV) (ks vs : List HV) (x : Int) (n : Nat) (qv : HV) (H : Heap) (i : Nat) (n0 : Int) (g0 : lenV Try.prog H 24 qv = some (.int .i64 n0)) (g1 : (i : Int) < n0) : RunsTo Try.prog pol 50 (sub [1, 1, 1, 1, 1, 0, 1, 0, 0, 0] B50) (env50 (.agg [.imm .arg 1 rows, .imap .arg ks vs]) (.int .i64 x) (.ptr 0 0 0 1) (.imm .lit 1 []) (.sl 1 0 n (some n) n 1) .undef qv (.int .i64 (i : Int)) .undef .undef .undef .undef .undef .undef) H (.normal) (pol.keys 50) (env50 (.agg [.imm .arg 1 rows, .imap .arg ks vs]) (.int .i64 x) (.ptr 0 0 0 1) (.imm .lit 1 []) (.sl 1 0 n (some n) n 1) .undef qv (.int .i64 (i : Int)) .undef .undef .undef .undef .undef .undef) H :=
  RunsTo.hint 1 60 [⟨10, 2, .int .i64 n0, H⟩, ⟨10, 3, .bool true, H⟩] fun kf hk => by
    obtain ⟨kf, rfl⟩ : ∃ n, kf = n + 1 := ⟨kf - 1, by omega⟩
    exact ⟨[(lenV Try.prog H 24 qv).map (fun v => (v, (H : Heap))) = some (.int .i64 n0, H), some (HV.bool (decide ((i : Int) < n0)), (H : Heap)) = some (.bool true, H)], by kernel_rfl, Obls.cons (hintOp g0) (Obls.cons (hintB (decide_eq_true g1)) Obls.nil)⟩
theorem ff_h_1 (rows : List HV) (ks vs : List HV) (x : Int) (n : Nat) (qv : HV) (H : Heap) (i : Nat) (n0 : Int) (g0 : lenV Try.prog H 24 qv = some (.int .i64 n0)) (g1 : ¬ ((i : Int) < n0)) : RunsTo Try.prog pol 50 (sub [1, 1, 1, 1, 1, 0, 1, 0, 0, 0] B50) (env50 (.agg [.imm .arg 1 rows, .imap .arg ks vs]) (.int .i64 x) (.ptr 0 0 0 1) (.imm .lit 1 []) (.sl 1 0 n (some n) n 1) .undef qv (.int .i64 (i : Int)) .undef .undef .undef .undef .undef .undef) H (.exit 2) (pol.keys 50) (env50 (.agg [.imm .arg 1 rows, .imap .arg ks vs]) (.int .i64 x) (.ptr 0 0 0 1) (.imm .lit 1 []) (.sl 1 0 n (some n) n 1) .undef qv (.int .i64 (i : Int)) .undef .undef .undef .undef .undef .undef) H :=
  RunsTo.hint 1 60 [⟨10, 2, .int .i64 n0, H⟩, ⟨10, 3, .bool false, H⟩] fun kf hk => by
    obtain ⟨kf, rfl⟩ : ∃ n, kf = n + 1 := ⟨kf - 1, by omega⟩
    exact ⟨[(lenV Try.prog H 24 qv).map (fun v => (v, (H : Heap))) = some (.int .i64 n0, H), some (HV.bool (decide ((i : Int) < n0)), (H : Heap)) = some (.bool false, H)], by kernel_rfl, Obls.cons (hintOp g0) (Obls.cons (hintB (decide_eq_false g1)) Obls.nil)⟩
theorem ff_g_0 (rows : List HV) (ks vs : List HV) (x : Int) (n : Nat) (qv : HV) (H : Heap) (i : Nat) (l : List HV) (a0 : HV) (x0 : Int) (l0 : List HV) (g0 : loadV Try.prog H 55 (.ptr 0 0 0 1) = some (.imm .arg 1 rows)) (g1 : idxV Try.prog 24 qv (.int .i64 (i : Int)) = some (a0)) (g2 : loadV Try.prog H 3 (a0) = some (.int .i64 x0)) (g3 : idxV Try.prog 55 (.imm .arg 1 rows) (.int .i64 x0) = some (.vptr (.imm .arg 1 l0))) : RunsTo Try.prog pol 50 (sub [1, 1, 1, 1, 1, 0, 1, 0, 0, 1, 0, 0, 0] B50) (env50 (.agg [.imm .arg 1 rows, .imap .arg ks vs]) (.int .i64 x) (.ptr 0 0 0 1) (.imm .lit 1 []) (.sl 1 0 n (some n) n 1) .undef qv (.int .i64 (i : Int)) .undef .undef .undef .undef .undef .undef) H (.normal) (pol.keys 50) (env50 (.agg [.imm .arg 1 rows, .imap .arg ks vs]) (.int .i64 x) (.ptr 0 0 0 1) (.imm .lit 1 []) (.sl 1 0 n (some n) n 1) .undef qv (.int .i64 (i : Int)) .undef .undef .undef (.imm .arg 1 l0) (.int .i64 (l0.length : Int)) (.int .i64 0)) H :=
  RunsTo.hint 1 60 [⟨12, 1, .imm .arg 1 rows, H⟩, ⟨12, 4, a0, H⟩, ⟨12, 5, .int .i64 x0, H⟩, ⟨12, 6, .vptr (.imm .arg 1 l0), H⟩] fun kf hk => by
    obtain ⟨kf, rfl⟩ : ∃ n, kf = n + 1 := ⟨kf - 1, by omega⟩
    exact ⟨[(loadV Try.prog H 55 (.ptr 0 0 0 1)).map (fun v => (v, (H : Heap))) = some (.imm .arg 1 rows, H), (idxV Try.prog 24 qv (.int .i64 (i : Int))).map (fun v => (v, (H : Heap))) = some (a0, H), (loadV Try.prog H 3 (a0)).map (fun v => (v, (H : Heap))) = some (.int .i64 x0, H), (idxV Try.prog 55 (.imm .arg 1 rows) (.int .i64 x0)).map (fun v => (v, (H : Heap))) = some (.vptr (.imm .arg 1 l0), H)], by kernel_rfl, Obls.cons (hintOp g0) (Obls.cons (hintOp g1) (Obls.cons (hintOp g2) (Obls.cons (hintOp g3) Obls.nil)))⟩
theorem ff_k_0 (rows : List HV) (ks vs : List HV) (x : Int) (n : Nat) (qv : HV) (H : Heap) (i : Nat) (l : List HV) (j : Nat) (x0 : Int) (x1 : Int) (a0 : HV) (x2 : Int) (x3 : Int) (H0 : Heap) (H1 : Heap) (v0 : HV) (g0 : (j : Int) < (l.length : Int)) (g1 : idxV Try.prog 24 (.imm .arg 1 l) (.int .i64 (j : Int)) = some (.vptr (.int .i64 x0))) (g2 : idxV Try.prog 24 (.sl 1 0 n (some n) n 1) (.int .i64 x0) = some (.ptr 1 ((x0).toNat) 0 n)) (g3 : loadV Try.prog H 3 (.ptr 1 ((x0).toNat) 0 n) = some (.int .i64 x1)) (g4 : x1 < 0) (g5 : idxV Try.prog 24 qv (.int .i64 (i : Int)) = some (a0)) (g6 : loadV Try.prog H 3 (a0) = some (.int .i64 x2)) (g7 : idxV Try.prog 24 (.sl 1 0 n (some n) n 1) (.int .i64 x2) = some (.ptr 1 ((x2).toNat) 0 n)) (g8 : loadV Try.prog H 3 (.ptr 1 ((x2).toNat) 0 n) = some (.int .i64 x3)) (g9 : idxV Try.prog 24 (.sl 1 0 n (some n) n 1) (.int .i64 x0) = some (.ptr 1 ((x0).toNat) 0 n)) (g10 : storeV Try.prog H 3 (.ptr 1 ((x0).toNat) 0 n) (.int .i64 (IntKind.i64.wrap (x3 + 1))) = some H0) (g11 : appV H0 1 8 (qv) [.int .i64 x0] = some (v0, H1)) : RunsTo Try.prog pol 50 (sub [1, 1, 1, 1, 1, 0, 1, 0, 0, 1, 0, 0, 1, 0, 0] B50) (env50 (.agg [.imm .arg 1 rows, .imap .arg ks vs]) (.int .i64 x) (.ptr 0 0 0 1) (.imm .lit 1 []) (.sl 1 0 n (some n) n 1) .undef qv (.int .i64 (i : Int)) .undef .undef .undef (.imm .arg 1 l) (.int .i64 (l.length : Int)) (.int .i64 (j : Int))) H (.normal) (pol.keys 50) (env50 (.agg [.imm .arg 1 rows, .imap .arg ks vs]) (.int .i64 x) (.ptr 0 0 0 1) (.imm .lit 1 []) (.sl 1 0 n (some n) n 1) .undef v0 (.int .i64 (i : Int)) (.int .i64 x0) .undef .undef (.imm .arg 1 l) (.int .i64 (l.length : Int)) (.int .i64 (IntKind.i64.wrap ((j : Int) + 1)))) H1 :=
  RunsTo.hint 1 60 [⟨13, 0, .bool true, H⟩, ⟨14, 0, .vptr (.int .i64 x0), H⟩, ⟨15, 2, .ptr 1 ((x0).toNat) 0 n, H⟩, ⟨15, 3, .int .i64 x1, H⟩, ⟨15, 4, .bool true, H⟩, ⟨16, 5, a0, H⟩, ⟨16, 6, .int .i64 x2, H⟩, ⟨16, 7, .ptr 1 ((x2).toNat) 0 n, H⟩, ⟨16, 8, .int .i64 x3, H⟩, ⟨16, 10, .ptr 1 ((x0).toNat) 0 n, H⟩, ⟨16, 11, .tuple [], H0⟩, ⟨17, 3, v0, H1⟩] fun kf hk => by
    obtain ⟨kf, rfl⟩ : ∃ n, kf = n + 1 := ⟨kf - 1, by omega⟩
    exact ⟨[some (HV.bool (decide ((j : Int) < (l.length : Int))), (H : Heap)) = some (.bool true, H), (idxV Try.prog 24 (.imm .arg 1 l) (.int .i64 (j : Int))).map (fun v => (v, (H : Heap))) = some (.vptr (.int .i64 x0), H), (idxV Try.prog 24 (.sl 1 0 n (some n) n 1) (.int .i64 x0)).map (fun v => (v, (H : Heap))) = some (.ptr 1 ((x0).toNat) 0 n, H), (loadV Try.prog H 3 (.ptr 1 ((x0).toNat) 0 n)).map (fun v => (v, (H : Heap))) = some (.int .i64 x1, H), some (HV.bool (decide (x1 < 0)), (H : Heap)) = some (.bool true, H), (idxV Try.prog 24 qv (.int .i64 (i : Int))).map (fun v => (v, (H : Heap))) = some (a0, H), (loadV Try.prog H 3 (a0)).map (fun v => (v, (H : Heap))) = some (.int .i64 x2, H), (idxV Try.prog 24 (.sl 1 0 n (some n) n 1) (.int .i64 x2)).map (fun v => (v, (H : Heap))) = some (.ptr 1 ((x2).toNat) 0 n, H), (loadV Try.prog H 3 (.ptr 1 ((x2).toNat) 0 n)).map (fun v => (v, (H : Heap))) = some (.int .i64 x3, H), (idxV Try.prog 24 (.sl 1 0 n (some n) n 1) (.int .i64 x0)).map (fun v => (v, (H : Heap))) = some (.ptr 1 ((x0).toNat) 0 n, H), (storeV Try.prog H 3 (.ptr 1 ((x0).toNat) 0 n) (.int .i64 (IntKind.i64.wrap (x3 + 1)))).map (fun H => (HV.tuple [], H)) = some (.tuple [], H0), appV H0 1 8 (qv) [.int .i64 x0] = some (v0, H1)], by kernel_rfl, Obls.cons (hintB (decide_eq_true g0)) (Obls.cons (hintOp g1) (Obls.cons (hintOp g2) (Obls.cons (hintOp g3) (Obls.cons (hintB (decide_eq_true g4)) (Obls.cons (hintOp g5) (Obls.cons (hintOp g6) (Obls.cons (hintOp g7) (Obls.cons (hintOp g8) (Obls.cons (hintOp g9) (Obls.cons (hintSt g10) (Obls.cons (g11) Obls.nil)))))))))))⟩
theorem ff_k_1 (rows : List HV) (ks vs : List HV) (x : Int) (n : Nat) (qv : HV) (H : Heap) (i : Nat) (l : List HV) (j : Nat) (x0 : Int) (x1 : Int) (g0 : (j : Int) < (l.length : Int)) (g1 : idxV Try.prog 24 (.imm .arg 1 l) (.int .i64 (j : Int)) = some (.vptr (.int .i64 x0))) (g2 : idxV Try.prog 24 (.sl 1 0 n (some n) n 1) (.int .i64 x0) = some (.ptr 1 ((x0).toNat) 0 n)) (g3 : loadV Try.prog H 3 (.ptr 1 ((x0).toNat) 0 n) = some (.int .i64 x1)) (g4 : ¬ (x1 < 0)) : RunsTo Try.prog pol 50 (sub [1, 1, 1, 1, 1, 0, 1, 0, 0, 1, 0, 0, 1, 0, 0] B50) (env50 (.agg [.imm .arg 1 rows, .imap .arg ks vs]) (.int .i64 x) (.ptr 0 0 0 1) (.imm .lit 1 []) (.sl 1 0 n (some n) n 1) .undef qv (.int .i64 (i : Int)) .undef .undef .undef (.imm .arg 1 l) (.int .i64 (l.length : Int)) (.int .i64 (j : Int))) H (.normal) (pol.keys 50) (env50 (.agg [.imm .arg 1 rows, .imap .arg ks vs]) (.int .i64 x) (.ptr 0 0 0 1) (.imm .lit 1 []) (.sl 1 0 n (some n) n 1) .undef qv (.int .i64 (i : Int)) (.int .i64 x0) .undef .undef (.imm .arg 1 l) (.int .i64 (l.length : Int)) (.int .i64 (IntKind.i64.wrap ((j : Int) + 1)))) H :=
  RunsTo.hint 1 60 [⟨13, 0, .bool true, H⟩, ⟨14, 0, .vptr (.int .i64 x0), H⟩, ⟨15, 2, .ptr 1 ((x0).toNat) 0 n, H⟩, ⟨15, 3, .int .i64 x1, H⟩, ⟨15, 4, .bool false, H⟩] fun kf hk => by
    obtain ⟨kf, rfl⟩ : ∃ n, kf = n + 1 := ⟨kf - 1, by omega⟩
    exact ⟨[some (HV.bool (decide ((j : Int) < (l.length : Int))), (H : Heap)) = some (.bool true, H), (idxV Try.prog 24 (.imm .arg 1 l) (.int .i64 (j : Int))).map (fun v => (v, (H : Heap))) = some (.vptr (.int .i64 x0), H), (idxV Try.prog 24 (.sl 1 0 n (some n) n 1) (.int .i64 x0)).map (fun v => (v, (H : Heap))) = some (.ptr 1 ((x0).toNat) 0 n, H), (loadV Try.prog H 3 (.ptr 1 ((x0).toNat) 0 n)).map (fun v => (v, (H : Heap))) = some (.int .i64 x1, H), some (HV.bool (decide (x1 < 0)), (H : Heap)) = some (.bool false, H)], by kernel_rfl, Obls.cons (hintB (decide_eq_true g0)) (Obls.cons (hintOp g1) (Obls.cons (hintOp g2) (Obls.cons (hintOp g3) (Obls.cons (hintB (decide_eq_false g4)) Obls.nil))))⟩
theorem ff_k_2 (rows : List HV) (ks vs : List HV) (x : Int) (n : Nat) (qv : HV) (H : Heap) (i : Nat) (l : List HV) (j : Nat)  (g0 : ¬ ((j : Int) < (l.length : Int))) : RunsTo Try.prog pol 50 (sub [1, 1, 1, 1, 1, 0, 1, 0, 0, 1, 0, 0, 1, 0, 0] B50) (env50 (.agg [.imm .arg 1 rows, .imap .arg ks vs]) (.int .i64 x) (.ptr 0 0 0 1) (.imm .lit 1 []) (.sl 1 0 n (some n) n 1) .undef qv (.int .i64 (i : Int)) .undef .undef .undef (.imm .arg 1 l) (.int .i64 (l.length : Int)) (.int .i64 (j : Int))) H (.exit 4) (pol.keys 50) (env50 (.agg [.imm .arg 1 rows, .imap .arg ks vs]) (.int .i64 x) (.ptr 0 0 0 1) (.imm .lit 1 []) (.sl 1 0 n (some n) n 1) .undef qv (.int .i64 (i : Int)) .undef .undef .undef (.imm .arg 1 l) (.int .i64 (l.length : Int)) (.int .i64 (j : Int))) H :=
  RunsTo.hint 1 60 [⟨13, 0, .bool false, H⟩] fun kf hk => by
    obtain ⟨kf, rfl⟩ : ∃ n, kf = n + 1 := ⟨kf - 1, by omega⟩
    exact ⟨[some (HV.bool (decide ((j : Int) < (l.length : Int))), (H : Heap)) = some (.bool false, H)], by kernel_rfl, Obls.cons (hintB (decide_eq_false g0)) Obls.nil⟩
theorem ff_m_0 (rows : List HV) (ks vs : List HV) (x : Int) (n : Nat) (qv : HV) (H : Heap) (i : Nat) (l : List HV) (j : Nat) (v10 : HV)   : RunsTo Try.prog pol 50 (sub [1, 1, 1, 1, 1, 0, 1, 0, 0, 1, 1] B50) (env50 (.agg [.imm .arg 1 rows, .imap .arg ks vs]) (.int .i64 x) (.ptr 0 0 0 1) (.imm .lit 1 []) (.sl 1 0 n (some n) n 1) .undef qv (.int .i64 (i : Int)) v10 .undef .undef (.imm .arg 1 l) (.int .i64 (l.length : Int)) (.int .i64 (j : Int))) H (.normal) (pol.keys 50) (env50 (.agg [.imm .arg 1 rows, .imap .arg ks vs]) (.int .i64 x) (.ptr 0 0 0 1) (.imm .lit 1 []) (.sl 1 0 n (some n) n 1) .undef qv (.int .i64 (IntKind.i64.wrap ((i : Int) + 1))) v10 .undef .undef (.imm .arg 1 l) (.int .i64 (l.length : Int)) (.int .i64 (j : Int))) H :=
  RunsTo.hint 1 60 [] fun kf hk => by
    obtain ⟨kf, rfl⟩ : ∃ n, kf = n + 1 := ⟨kf - 1, by omega⟩
    exact ⟨[], by kernel_rfl, Obls.nil⟩
theorem ff_z_0 (rows : List HV) (ks vs : List HV) (x : Int) (n : Nat) (qv : HV) (H : Heap) (i : Nat)   : RunsTo Try.prog pol 50 (sub [1, 1, 1, 1, 1, 1] B50) (env50 (.agg [.imm .arg 1 rows, .imap .arg ks vs]) (.int .i64 x) (.ptr 0 0 0 1) (.imm .lit 1 []) (.sl 1 0 n (some n) n 1) .undef qv (.int .i64 (i : Int)) .undef .undef .undef .undef .undef .undef) H (.ret) (pol.keys 50) (env50 (.agg [.imm .arg 1 rows, .imap .arg ks vs]) (.int .i64 x) (.ptr 0 0 0 1) (.sl 1 0 n (some n) n 1) (.sl 1 0 n (some n) n 1) .undef qv (.int .i64 (i : Int)) .undef .undef .undef .undef .undef .undef) H :=
  RunsTo.hint 1 60 [] fun kf hk => by
    obtain ⟨kf, rfl⟩ : ∃ n, kf = n + 1 := ⟨kf - 1, by omega⟩
    exact ⟨[], by kernel_rfl, Obls.nil⟩
end Go.Proofs.Ytmhfkhlamnapdaa
end
section
open Go Go.HL
namespace Go.Proofs.Ytmhfkhlamnapdaa
set_option maxRecDepth 100000
noncomputable def B58 : Code := Try.f58.body.getD .skip
abbrev env58 (v0 v1 v4 v5 v6 v7 v9 v10 v11 v12 v24 v25 v34 v35 v36 v70 v71 : HV) : Env := [(0, v0), (1, v1), (4, v4), (5, v5), (6, v6), (7, v7), (9, v9), (10, v10), (11, v11), (12, v12), (24, v24), (25, v25), (34, v34), (35, v35), (36, v36), (70, v70), (71, v71)]
theorem k_a_0 (n : Int) (lc : List HV)   : RunsTo Try.prog polB 58 (sub [0] B58) [(0, .int .i64 n), (1, .imm .arg 2 lc)] [] (.normal) (polB.keys 58) (env58 (.int .i64 n) (.imm .arg 2 lc) (.imm .lit 20 []) (.bool false) .undef .undef .undef .undef .undef .undef .undef .undef .undef .undef .undef .undef .undef) [] :=
  RunsTo.hint 1 60 [] fun k hk => by
    obtain ⟨k, rfl⟩ : ∃ n, k = n + 1 := ⟨k - 1, by omega⟩
    exact ⟨[], by kernel_rfl, Obls.nil⟩
theorem k_b_0 (n : Int) (lc : List HV)  (g0 : (1 : Int) ≤ n ∧ n ≤ (20 : Int)) (g1 : 200 < (lc.length : Int)) : RunsTo Try.prog polB 58 (sub [1, 0] B58) (env58 (.int .i64 n) (.imm .arg 2 lc) (.imm .lit 20 []) (.bool false) .undef .undef .undef .undef .undef .undef .undef .undef .undef .undef .undef .undef .undef) [] (.ret) (polB.keys 58) (env58 (.int .i64 n) (.imm .arg 2 lc) (.imm .lit 20 []) (.bool false) .undef .undef .undef .undef .undef .undef .undef .undef .undef .undef .undef .undef .undef) [] :=
  RunsTo.hint 1 60 [⟨1, 1, .bool true, []⟩, ⟨1, 6, .bool true, []⟩] fun k hk => by
    obtain ⟨k, rfl⟩ : ∃ n, k = n + 1 := ⟨k - 1, by omega⟩
    exact ⟨[some (HV.bool (decide ((1 : Int) ≤ n ∧ n ≤ (20 : Int))), ([] : Heap)) = some (.bool true, []), some (HV.bool (decide (200 < (lc.length : Int))), ([] : Heap)) = some (.bool true, [])], by kernel_rfl, Obls.cons (hintB (decide_eq_true g0)) (Obls.cons (hintB (decide_eq_true g1)) Obls.nil)⟩
theorem k_b_1 (n : Int) (lc : List HV)  (g0 : (1 : Int) ≤ n ∧ n ≤ (20 : Int)) (g1 : ¬ (200 < (lc.length : Int))) : RunsTo Try.prog polB 58 (sub [1, 0] B58) (env58 (.int .i64 n) (.imm .arg 2 lc) (.imm .lit 20 []) (.bool false) .undef .undef .undef .undef .undef .undef .undef .undef .undef .undef .undef .undef .undef) [] (.normal) (polB.keys 58) (env58 (.int .i64 n) (.imm .arg 2 lc) (.imm .lit 20 []) (.bool false) .undef .undef .undef .undef .undef .undef .undef .undef .undef .undef .undef .undef .undef) [] :=
  RunsTo.hint 1 60 [⟨1, 1, .bool true, []⟩, ⟨1, 6, .bool false, []⟩] fun k hk => by
    obtain ⟨k, rfl⟩ : ∃ n, k = n + 1 := ⟨k - 1, by omega⟩
    exact ⟨[some (HV.bool (decide ((1 : Int) ≤ n ∧ n ≤ (20 : Int))), ([] : Heap)) = some (.bool true, []), some (HV.bool (decide (200 < (lc.length : Int))), ([] : Heap)) = some (.bool false, [])], by kernel_rfl, Obls.cons (hintB (decide_eq_true g0)) (Obls.cons (hintB (decide_eq_false g1)) Obls.nil)⟩
theorem k_b_2 (n : Int) (lc : List HV)  (g0 : ¬ ((1 : Int) ≤ n ∧ n ≤ (20 : Int))) : RunsTo Try.prog polB 58 (sub [1, 0] B58) (env58 (.int .i64 n) (.imm .arg 2 lc) (.imm .lit 20 []) (.bool false) .undef .undef .undef .undef .undef .undef .undef .undef .undef .undef .undef .undef .undef) [] (.ret) (polB.keys 58) (env58 (.int .i64 n) (.imm .arg 2 lc) (.imm .lit 20 []) (.bool false) .undef .undef .undef .undef .undef .undef .undef .undef .undef .undef .undef .undef .undef) [] :=
  RunsTo.hint 1 60 [⟨1, 1, .bool false, []⟩] fun k hk => by
    obtain ⟨k, rfl⟩ : ∃ n, k = n + 1 := ⟨k - 1, by omega⟩
    exact ⟨[some (HV.bool (decide ((1 : Int) ≤ n ∧ n ≤ (20 : Int))), ([] : Heap)) = some (.bool false, [])], by kernel_rfl, Obls.cons (hintB (decide_eq_false g0)) Obls.nil⟩
theorem k_c_0 (n : Int) (lc : List HV)  (g0 : makeV Try.prog false 85 (.int .i64 n) (.int .i64 n) [] = some (.sl 0 0 ((n).toNat) (some ((n).toNat)) ((n).toNat) 20, [.arr 20 (List.replicate ((n).toNat) (.agg [.bool false, .bool false, .bool false, .bool false, .bool false, .bool false, .bool false, .bool false, .bool false, .bool false, .bool false, .bool false, .bool false, .bool false, .bool false, .bool false, .bool false, .bool false, .bool false, .bool false])) true 0])) : RunsTo Try.prog polB 58 (sub [1, 1, 0] B58) (env58 (.int .i64 n) (.imm .arg 2 lc) (.imm .lit 20 []) (.bool false) .undef .undef .undef .undef .undef .undef .undef .undef .undef .undef .undef .undef .undef) [] (.normal) (polB.keys 58) (env58 (.int .i64 n) (.imm .arg 2 lc) (.imm .lit 20 []) (.bool false) (.sl 0 0 ((n).toNat) (some ((n).toNat)) ((n).toNat) 20) .undef .undef .undef .undef .undef .undef .undef .undef .undef .undef .undef .undef) [.arr 20 (List.replicate ((n).toNat) (.agg [.bool false, .bool false, .bool false, .bool false, .bool false, .bool false, .bool false, .bool false, .bool false, .bool false, .bool false, .bool false, .bool false, .bool false, .bool false, .bool false, .bool false, .bool false, .bool false, .bool false])) true 0] :=
  RunsTo.hint 1 60 [⟨3, 1, .sl 0 0 ((n).toNat) (some ((n).toNat)) ((n).toNat) 20, [.arr 20 (List.replicate ((n).toNat) (.agg [.bool false, .bool false, .bool false, .bool false, .bool false, .bool false, .bool false, .bool false, .bool false, .bool false, .bool false, .bool false, .bool false, .bool false, .bool false, .bool false, .bool false, .bool false, .bool false, .bool false])) true 0]⟩] fun k hk => by
    obtain ⟨k, rfl⟩ : ∃ n, k = n + 1 := ⟨k - 1, by omega⟩
    exact ⟨[makeV Try.prog false 85 (.int .i64 n) (.int .i64 n) [] = some (.sl 0 0 ((n).toNat) (some ((n).toNat)) ((n).toNat) 20, [.arr 20 (List.replicate ((n).toNat) (.agg [.bool false, .bool false, .bool false, .bool false, .bool false, .bool false, .bool false, .bool false, .bool false, .bool false, .bool false, .bool false, .bool false, .bool false, .bool false, .bool false, .bool false, .bool false, .bool false, .bool false])) true 0])], by kernel_rfl, Obls.cons (g0) Obls.nil⟩
theorem k_d_0 (n : Int) (lc : List HV) (m : Nat) (els : List HV)   : RunsTo Try.prog polB 58 (sub [1, 1, 1, 0, 0] B58) (env58 (.int .i64 n) (.imm .arg 2 lc) (.imm .lit 20 []) (.bool false) (.sl 0 0 m (some m) m 20) .undef .undef .undef .undef .undef .undef .undef .undef .undef .undef .undef .undef) [.arr 20 els true 0] (.normal) (polB.keys 58) (env58 (.int .i64 n) (.imm .arg 2 lc) (.imm .lit 20 []) (.bool false) (.sl 0 0 m (some m) m 20) .undef .undef .undef .undef .undef (.int .i64 (m : Int)) (.int .i64 0) .undef .undef .undef .undef .undef) [.arr 20 els true 0] :=
  RunsTo.hint 1 60 [] fun k hk => by
    obtain ⟨k, rfl⟩ : ∃ n, k = n + 1 := ⟨k - 1, by omega⟩
    exact ⟨[], by kernel_rfl, Obls.nil⟩
theorem k_l1_0 (n : Int) (lc : List HV) (m : Nat) (els : List HV) (j : Nat) (el0 : List HV) (g0 : (j : Int) < (m : Int)) (g1 : idxV Try.prog 85 (.sl 0 0 m (some m) m 20) (.int .i64 (j : Int)) = some (.ptr 0 j 0 m)) (g2 : idxV Try.prog 89 (.ptr 0 j 0 m) (.int .i64 (j : Int)) = some (.ptr 0 j j m)) (g3 : storeV Try.prog [.arr 20 els true 0] 4 (.ptr 0 j j m) (.bool true) = some [.arr 20 el0 true 0]) : RunsTo Try.prog polB 58 (sub [1, 1, 1, 0, 1, 0, 0] B58) (env58 (.int .i64 n) (.imm .arg 2 lc) (.imm .lit 20 []) (.bool false) (.sl 0 0 m (some m) m 20) .undef .undef .undef .undef .undef (.int .i64 (m : Int)) (.int .i64 (j : Int)) .undef .undef .undef .undef .undef) [.arr 20 els true 0] (.normal) (polB.keys 58) (env58 (.int .i64 n) (.imm .arg 2 lc) (.imm .lit 20 []) (.bool false) (.sl 0 0 m (some m) m 20) (.int .i64 (j : Int)) .undef .undef .undef .undef (.int .i64 (m : Int)) (.int .i64 (IntKind.i64.wrap ((j : Int) + 1))) .undef .undef .undef .undef .undef) [.arr 20 el0 true 0] :=
  RunsTo.hint 1 60 [⟨5, 0, .bool true, [.arr 20 els true 0]⟩, ⟨7, 3, .ptr 0 j 0 m, [.arr 20 els true 0]⟩, ⟨7, 4, .ptr 0 j j m, [.arr 20 els true 0]⟩, ⟨7, 5, .tuple [], [.arr 20 el0 true 0]⟩] fun k hk => by
    obtain ⟨k, rfl⟩ : ∃ n, k = n + 1 := ⟨k - 1, by omega⟩
    exact ⟨[some (HV.bool (decide ((j : Int) < (m : Int))), ([.arr 20 els true 0] : Heap)) = some (.bool true, [.arr 20 els true 0]), (idxV Try.prog 85 (.sl 0 0 m (some m) m 20) (.int .i64 (j : Int))).map (fun v => (v, ([.arr 20 els true 0] : Heap))) = some (.ptr 0 j 0 m, [.arr 20 els true 0]), (idxV Try.prog 89 (.ptr 0 j 0 m) (.int .i64 (j : Int))).map (fun v => (v, ([.arr 20 els true 0] : Heap))) = some (.ptr 0 j j m, [.arr 20 els true 0]), (storeV Try.prog [.arr 20 els true 0] 4 (.ptr 0 j j m) (.bool true)).map (fun H => (HV.tuple [], H)) = some (.tuple [], [.arr 20 el0 true 0])], by kernel_rfl, Obls.cons (hintB (decide_eq_true g0)) (Obls.cons (hintOp g1) (Obls.cons (hintOp g2) (Obls.cons (hintSt g3) Obls.nil)))⟩
theorem k_l1_1 (n : Int) (lc : List HV) (m : Nat) (els : List HV) (j : Nat)  (g0 : ¬ ((j : Int) < (m : Int))) : RunsTo Try.prog polB 58 (sub [1, 1, 1, 0, 1, 0, 0] B58) (env58 (.int .i64 n) (.imm .arg 2 lc) (.imm .lit 20 []) (.bool false) (.sl 0 0 m (some m) m 20) .undef .undef .undef .undef .undef (.int .i64 (m : Int)) (.int .i64 (j : Int)) .undef .undef .undef .undef .undef) [.arr 20 els true 0] (.exit 0) (polB.keys 58) (env58 (.int .i64 n) (.imm .arg 2 lc) (.imm .lit 20 []) (.bool false) (.sl 0 0 m (some m) m 20) .undef .undef .undef .undef .undef (.int .i64 (m : Int)) (.int .i64 (j : Int)) .undef .undef .undef .undef .undef) [.arr 20 els true 0] :=
  RunsTo.hint 1 60 [⟨5, 0, .bool false, [.arr 20 els true 0]⟩] fun k hk => by
    obtain ⟨k, rfl⟩ : ∃ n, k = n + 1 := ⟨k - 1, by omega⟩
    exact ⟨[some (HV.bool (decide ((j : Int) < (m : Int))), ([.arr 20 els true 0] : Heap)) = some (.bool false, [.arr 20 els true 0])], by kernel_rfl, Obls.cons (hintB (decide_eq_false g0)) Obls.nil⟩
theorem k_e_0 (n : Int) (lc : List HV) (m : Nat) (els : List HV)   : RunsTo Try.prog polB 58 (sub [1, 1, 1, 1, 0, 0] B58) (env58 (.int .i64 n) (.imm .arg 2 lc) (.imm .lit 20 []) (.bool false) (.sl 0 0 m (some m) m 20) .undef .undef .undef .undef .undef (.int .i64 (m : Int)) (.int .i64 (m : Int)) .undef .undef .undef .undef .undef) [.arr 20 els true 0] (.normal) (polB.keys 58) (env58 (.int .i64 n) (.imm .arg 2 lc) (.imm .lit 20 []) (.bool false) (.sl 0 0 m (some m) m 20) .undef .undef .undef .undef .undef (.int .i64 (m : Int)) (.int .i64 (m : Int)) (.imm .arg 2 lc) (.int .i64 (lc.length : Int)) (.int .i64 0) .undef .undef) [.arr 20 els true 0] :=
  RunsTo.hint 1 60 [] fun k hk => by
    obtain ⟨k, rfl⟩ : ∃ n, k = n + 1 := ⟨k - 1, by omega⟩
    exact ⟨[], by kernel_rfl, Obls.nil⟩
theorem k_f_0 (n : Int) (lc : List HV) (m : Nat) (els : List HV) (j : Nat)  (g0 : (j : Int) < (lc.length : Int)) : RunsTo Try.prog polB 58 (sub [1, 1, 1, 1, 0, 1, 0, 0, 0] B58) (env58 (.int .i64 n) (.imm .arg 2 lc) (.imm .lit 20 []) (.bool false) (.sl 0 0 m (some m) m 20) .undef .undef .undef .undef .undef (.int .i64 (m : Int)) (.int .i64 (m : Int)) (.imm .arg 2 lc) (.int .i64 (lc.length : Int)) (.int .i64 (j : Int)) .undef .undef) [.arr 20 els true 0] (.normal) [0, 1, 4, 5, 6, 7, 9, 10, 11, 12, 24, 25, 34, 35, 36, 70, 71, 37] [(0, .int .i64 n), (1, .imm .arg 2 lc), (4, .imm .lit 20 []), (5, .bool false), (6, .sl 0 0 m (some m) m 20), (7, .undef), (9, .undef), (10, .undef), (11, .undef), (12, .undef), (24, .int .i64 (m : Int)), (25, .int .i64 (m : Int)), (34, .imm .arg 2 lc), (35, .int .i64 (lc.length : Int)), (36, .int .i64 (j : Int)), (70, .undef), (71, .undef), (37, .bool true)] [.arr 20 els true 0] :=
  RunsTo.hint 1 60 [⟨10, 0, .bool true, [.arr 20 els true 0]⟩] fun k hk => by
    obtain ⟨k, rfl⟩ : ∃ n, k = n + 1 := ⟨k - 1, by omega⟩
    exact ⟨[some (HV.bool (decide ((j : Int) < (lc.length : Int))), ([.arr 20 els true 0] : Heap)) = some (.bool true, [.arr 20 els true 0])], by kernel_rfl, Obls.cons (hintB (decide_eq_true g0)) Obls.nil⟩
theorem k_f_1 (n : Int) (lc : List HV) (m : Nat) (els : List HV) (j : Nat)  (g0 : ¬ ((j : Int) < (lc.length : Int))) : RunsTo Try.prog polB 58 (sub [1, 1, 1, 1, 0, 1, 0, 0, 0] B58) (env58 (.int .i64 n) (.imm .arg 2 lc) (.imm .lit 20 []) (.bool false) (.sl 0 0 m (some m) m 20) .undef .undef .undef .undef .undef (.int .i64 (m : Int)) (.int .i64 (m : Int)) (.imm .arg 2 lc) (.int .i64 (lc.length : Int)) (.int .i64 (j : Int)) .undef .undef) [.arr 20 els true 0] (.normal) [0, 1, 4, 5, 6, 7, 9, 10, 11, 12, 24, 25, 34, 35, 36, 70, 71, 37] [(0, .int .i64 n), (1, .imm .arg 2 lc), (4, .imm .lit 20 []), (5, .bool false), (6, .sl 0 0 m (some m) m 20), (7, .undef), (9, .undef), (10, .undef), (11, .undef), (12, .undef), (24, .int .i64 (m : Int)), (25, .int .i64 (m : Int)), (34, .imm .arg 2 lc), (35, .int .i64 (lc.length : Int)), (36, .int .i64 (j : Int)), (70, .undef), (71, .undef), (37, .bool false)] [.arr 20 els true 0] :=
  RunsTo.hint 1 60 [⟨10, 0, .bool false, [.arr 20 els true 0]⟩] fun k hk => by
    obtain ⟨k, rfl⟩ : ∃ n, k = n + 1 := ⟨k - 1, by omega⟩
    exact ⟨[some (HV.bool (decide ((j : Int) < (lc.length : Int))), ([.arr 20 els true 0] : Heap)) = some (.bool false, [.arr 20 els true 0])], by kernel_rfl, Obls.cons (hintB (decide_eq_false g0)) Obls.nil⟩
theorem k_gt_0 (n : Int) (lc : List HV) (m : Nat) (els : List HV) (j : Nat)   : RunsTo Try.prog polB 58 (sub [1, 1, 1, 1, 0, 1, 0, 0, 1, 0] B58) [(0, .int .i64 n), (1, .imm .arg 2 lc), (4, .imm .lit 20 []), (5, .bool false), (6, .sl 0 0 m (some m) m 20), (7, .undef), (9, .undef), (10, .undef), (11, .undef), (12, .undef), (24, .int .i64 (m : Int)), (25, .int .i64 (m : Int)), (34, .imm .arg 2 lc), (35, .int .i64 (lc.length : Int)), (36, .int .i64 (j : Int)), (70, .undef), (71, .undef), (37, .bool true)] [.arr 20 els true 0] (.normal) (polB.keys 58) (env58 (.int .i64 n) (.imm .arg 2 lc) (.imm .lit 20 []) (.bool false) (.sl 0 0 m (some m) m 20) .undef .undef .undef .undef .undef (.int .i64 (m : Int)) (.int .i64 (m : Int)) (.imm .arg 2 lc) (.int .i64 (lc.length : Int)) (.int .i64 (j : Int)) .undef .undef) [.arr 20 els true 0] :=
  RunsTo.hint 1 60 [] fun k hk => by
    obtain ⟨k, rfl⟩ : ∃ n, k = n + 1 := ⟨k - 1, by omega⟩
    exact ⟨[], by kernel_rfl, Obls.nil⟩
theorem k_gf_0 (n : Int) (lc : List HV) (m : Nat) (els : List HV) (j : Nat)   : RunsTo Try.prog polB 58 (sub [1, 1, 1, 1, 0, 1, 0, 0, 1, 0] B58) [(0, .int .i64 n), (1, .imm .arg 2 lc), (4, .imm .lit 20 []), (5, .bool false), (6, .sl 0 0 m (some m) m 20), (7, .undef), (9, .undef), (10, .undef), (11, .undef), (12, .undef), (24, .int .i64 (m : Int)), (25, .int .i64 (m : Int)), (34, .imm .arg 2 lc), (35, .int .i64 (lc.length : Int)), (36, .int .i64 (j : Int)), (70, .undef), (71, .undef), (37, .bool false)] [.arr 20 els true 0] (.exit 2) (polB.keys 58) (env58 (.int .i64 n) (.imm .arg 2 lc) (.imm .lit 20 []) (.bool false) (.sl 0 0 m (some m) m 20) .undef .undef .undef .undef .undef (.int .i64 (m : Int)) (.int .i64 (m : Int)) (.imm .arg 2 lc) (.int .i64 (lc.length : Int)) (.int .i64 (j : Int)) .undef .undef) [.arr 20 els true 0] :=
  RunsTo.hint 1 60 [] fun k hk => by
    obtain ⟨k, rfl⟩ : ∃ n, k = n + 1 := ⟨k - 1, by omega⟩
    exact ⟨[], by kernel_rfl, Obls.nil⟩
theorem k_h_0 (n : Int) (lc : List HV) (m : Nat) (els : List HV) (j : Nat) (x0 : Int) (x1 : Int) (g0 : idxV Try.prog 22 (.imm .arg 2 lc) (.int .i64 (j : Int)) = some (.vptr (.agg [.int .i64 x0, .int .i64 x1]))) : RunsTo Try.prog polB 58 (sub [1, 1, 1, 1, 0, 1, 0, 0, 1, 1, 0, 0, 0] B58) (env58 (.int .i64 n) (.imm .arg 2 lc) (.imm .lit 20 []) (.bool false) (.sl 0 0 m (some m) m 20) .undef .undef .undef .undef .undef (.int .i64 (m : Int)) (.int .i64 (m : Int)) (.imm .arg 2 lc) (.int .i64 (lc.length : Int)) (.int .i64 (j : Int)) .undef .undef) [.arr 20 els true 0] (.normal) (polB.keys 58) (env58 (.int .i64 n) (.imm .arg 2 lc) (.imm .lit 20 []) (.bool false) (.sl 0 0 m (some m) m 20) .undef (.ptr 1 0 0 1) .undef .undef .undef (.int .i64 (m : Int)) (.int .i64 (m : Int)) (.imm .arg 2 lc) (.int .i64 (lc.length : Int)) (.int .i64 (j : Int)) .undef .undef) [.arr 20 els true 0, .arr 2 [.agg [.int .i64 x0, .int .i64 x1]] true 0] :=
  RunsTo.hint 1 60 [⟨11, 0, .vptr (.agg [.int .i64 x0, .int .i64 x1]), [.arr 20 els true 0]⟩] fun k hk => by
    obtain ⟨k, rfl⟩ : ∃ n, k = n + 1 := ⟨k - 1, by omega⟩
    exact ⟨[(idxV Try.prog 22 (.imm .arg 2 lc) (.int .i64 (j : Int))).map (fun v => (v, ([.arr 20 els true 0] : Heap))) = some (.vptr (.agg [.int .i64 x0, .int .i64 x1]), [.arr 20 els true 0])], by kernel_rfl, Obls.cons (hintOp g0) Obls.nil⟩
theorem k_i_0 (n : Int) (lc : List HV) (m : Nat) (els : List HV) (j : Nat) (a b : Int)  (g0 : (0 : Int) ≤ a ∧ a ≤ IntKind.i64.wrap (n - 1)) (g1 : (0 : Int) ≤ b ∧ b ≤ IntKind.i64.wrap (n - 1)) (g2 : a = b) : RunsTo Try.prog polB 58 (sub [1, 1, 1, 1, 0, 1, 0, 0, 1, 1, 0, 0, 1, 0] B58) (env58 (.int .i64 n) (.imm .arg 2 lc) (.imm .lit 20 []) (.bool false) (.sl 0 0 m (some m) m 20) .undef (.ptr 1 0 0 1) .undef .undef .undef (.int .i64 (m : Int)) (.int .i64 (m : Int)) (.imm .arg 2 lc) (.int .i64 (lc.length : Int)) (.int .i64 (j : Int)) .undef .undef) [.arr 20 els true 0, .arr 2 [.agg [.int .i64 a, .int .i64 b]] true 0] (.ret) (polB.keys 58) (env58 (.int .i64 n) (.imm .arg 2 lc) (.imm .lit 20 []) (.bool false) (.sl 0 0 m (some m) m 20) .undef (.ptr 1 0 0 1) .undef .undef .undef (.int .i64 (m : Int)) (.int .i64 (m : Int)) (.imm .arg 2 lc) (.int .i64 (lc.length : Int)) (.int .i64 (j : Int)) .undef .undef) [.arr 20 els true 0, .arr 2 [.agg [.int .i64 a, .int .i64 b]] true 0] :=
  RunsTo.hint 1 60 [⟨12, 4, .bool true, [.arr 20 els true 0, .arr 2 [.agg [.int .i64 a, .int .i64 b]] true 0]⟩, ⟨12, 11, .bool true, [.arr 20 els true 0, .arr 2 [.agg [.int .i64 a, .int .i64 b]] true 0]⟩, ⟨12, 19, .bool true, [.arr 20 els true 0, .arr 2 [.agg [.int .i64 a, .int .i64 b]] true 0]⟩] fun k hk => by
    obtain ⟨k, rfl⟩ : ∃ n, k = n + 1 := ⟨k - 1, by omega⟩
    exact ⟨[some (HV.bool (decide ((0 : Int) ≤ a ∧ a ≤ IntKind.i64.wrap (n - 1))), ([.arr 20 els true 0, .arr 2 [.agg [.int .i64 a, .int .i64 b]] true 0] : Heap)) = some (.bool true, [.arr 20 els true 0, .arr 2 [.agg [.int .i64 a, .int .i64 b]] true 0]), some (HV.bool (decide ((0 : Int) ≤ b ∧ b ≤ IntKind.i64.wrap (n - 1))), ([.arr 20 els true 0, .arr 2 [.agg [.int .i64 a, .int .i64 b]] true 0] : Heap)) = some (.bool true, [.arr 20 els true 0, .arr 2 [.agg [.int .i64 a, .int .i64 b]] true 0]), some (HV.bool (decide (a = b)), ([.arr 20 els true 0, .arr 2 [.agg [.int .i64 a, .int .i64 b]] true 0] : Heap)) = some (.bool true, [.arr 20 els true 0, .arr 2 [.agg [.int .i64 a, .int .i64 b]] true 0])], by kernel_rfl, Obls.cons (hintB (decide_eq_true g0)) (Obls.cons (hintB (decide_eq_true g1)) (Obls.cons (hintB (decide_eq_true g2)) Obls.nil))⟩
theorem k_i_1 (n : Int) (lc : List HV) (m : Nat) (els : List HV) (j : Nat) (a b : Int)  (g0 : (0 : Int) ≤ a ∧ a ≤ IntKind.i64.wrap (n - 1)) (g1 : (0 : Int) ≤ b ∧ b ≤ IntKind.i64.wrap (n - 1)) (g2 : ¬ (a = b)) : RunsTo Try.prog polB 58 (sub [1, 1, 1, 1, 0, 1, 0, 0, 1, 1, 0, 0, 1, 0] B58) (env58 (.int .i64 n) (.imm .arg 2 lc) (.imm .lit 20 []) (.bool false) (.sl 0 0 m (some m) m 20) .undef (.ptr 1 0 0 1) .undef .undef .undef (.int .i64 (m : Int)) (.int .i64 (m : Int)) (.imm .arg 2 lc) (.int .i64 (lc.length : Int)) (.int .i64 (j : Int)) .undef .undef) [.arr 20 els true 0, .arr 2 [.agg [.int .i64 a, .int .i64 b]] true 0] (.normal) (polB.keys 58) (env58 (.int .i64 n) (.imm .arg 2 lc) (.imm .lit 20 []) (.bool false) (.sl 0 0 m (some m) m 20) .undef (.ptr 1 0 0 1) .undef .undef .undef (.int .i64 (m : Int)) (.int .i64 (m : Int)) (.imm .arg 2 lc) (.int .i64 (lc.length : Int)) (.int .i64 (j : Int)) .undef .undef) [.arr 20 els true 0, .arr 2 [.agg [.int .i64 a, .int .i64 b]] true 0] :=
  RunsTo.hint 1 60 [⟨12, 4, .bool true, [.arr 20 els true 0, .arr 2 [.agg [.int .i64 a, .int .i64 b]] true 0]⟩, ⟨12, 11, .bool true, [.arr 20 els true 0, .arr 2 [.agg [.int .i64 a, .int .i64 b]] true 0]⟩, ⟨12, 19, .bool false, [.arr 20 els true 0, .arr 2 [.agg [.int .i64 a, .int .i64 b]] true 0]⟩] fun k hk => by
    obtain ⟨k, rfl⟩ : ∃ n, k = n + 1 := ⟨k - 1, by omega⟩
    exact ⟨[some (HV.bool (decide ((0 : Int) ≤ a ∧ a ≤ IntKind.i64.wrap (n - 1))), ([.arr 20 els true 0, .arr 2 [.agg [.int .i64 a, .int .i64 b]] true 0] : Heap)) = some (.bool true, [.arr 20 els true 0, .arr 2 [.agg [.int .i64 a, .int .i64 b]] true 0]), some (HV.bool (decide ((0 : Int) ≤ b ∧ b ≤ IntKind.i64.wrap (n - 1))), ([.arr 20 els true 0, .arr 2 [.agg [.int .i64 a, .int .i64 b]] true 0] : Heap)) = some (.bool true, [.arr 20 els true 0, .arr 2 [.agg [.int .i64 a, .int .i64 b]] true 0]), some (HV.bool (decide (a = b)), ([.arr 20 els true 0, .arr 2 [.agg [.int .i64 a, .int .i64 b]] true 0] : Heap)) = some (.bool false, [.arr 20 els true 0, .arr 2 [.agg [.int .i64 a, .int .i64 b]] true 0])], by kernel_rfl, Obls.cons (hintB (decide_eq_true g0)) (Obls.cons (hintB (decide_eq_true g1)) (Obls.cons (hintB (decide_eq_false g2)) Obls.nil))⟩
theorem k_i_2 (n : Int) (lc : List HV) (m : Nat) (els : List HV) (j : Nat) (a b : Int)  (g0 : (0 : Int) ≤ a ∧ a ≤ IntKind.i64.wrap (n - 1)) (g1 : ¬ ((0 : Int) ≤ b ∧ b ≤ IntKind.i64.wrap (n - 1))) : RunsTo Try.prog polB 58 (sub [1, 1, 1, 1, 0, 1, 0, 0, 1, 1, 0, 0, 1, 0] B58) (env58 (.int .i64 n) (.imm .arg 2 lc) (.imm .lit 20 []) (.bool false) (.sl 0 0 m (some m) m 20) .undef (.ptr 1 0 0 1) .undef .undef .undef (.int .i64 (m : Int)) (.int .i64 (m : Int)) (.imm .arg 2 lc) (.int .i64 (lc.length : Int)) (.int .i64 (j : Int)) .undef .undef) [.arr 20 els true 0, .arr 2 [.agg [.int .i64 a, .int .i64 b]] true 0] (.ret) (polB.keys 58) (env58 (.int .i64 n) (.imm .arg 2 lc) (.imm .lit 20 []) (.bool false) (.sl 0 0 m (some m) m 20) .undef (.ptr 1 0 0 1) .undef .undef .undef (.int .i64 (m : Int)) (.int .i64 (m : Int)) (.imm .arg 2 lc) (.int .i64 (lc.length : Int)) (.int .i64 (j : Int)) .undef .undef) [.arr 20 els true 0, .arr 2 [.agg [.int .i64 a, .int .i64 b]] true 0] :=
  RunsTo.hint 1 60 [⟨12, 4, .bool true, [.arr 20 els true 0, .arr 2 [.agg [.int .i64 a, .int .i64 b]] true 0]⟩, ⟨12, 11, .bool false, [.arr 20 els true 0, .arr 2 [.agg [.int .i64 a, .int .i64 b]] true 0]⟩] fun k hk => by
    obtain ⟨k, rfl⟩ : ∃ n, k = n + 1 := ⟨k - 1, by omega⟩
    exact ⟨[some (HV.bool (decide ((0 : Int) ≤ a ∧ a ≤ IntKind.i64.wrap (n - 1))), ([.arr 20 els true 0, .arr 2 [.agg [.int .i64 a, .int .i64 b]] true 0] : Heap)) = some (.bool true, [.arr 20 els true 0, .arr 2 [.agg [.int .i64 a, .int .i64 b]] true 0]), some (HV.bool (decide ((0 : Int) ≤ b ∧ b ≤ IntKind.i64.wrap (n - 1))), ([.arr 20 els true 0, .arr 2 [.agg [.int .i64 a, .int .i64 b]] true 0] : Heap)) = some (.bool false, [.arr 20 els true 0, .arr 2 [.agg [.int .i64 a, .int .i64 b]] true 0])], by kernel_rfl, Obls.cons (hintB (decide_eq_true g0)) (Obls.cons (hintB (decide_eq_false g1)) Obls.nil)⟩
theorem k_i_3 (n : Int) (lc : List HV) (m : Nat) (els : List HV) (j : Nat) (a b : Int)  (g0 : ¬ ((0 : Int) ≤ a ∧ a ≤ IntKind.i64.wrap (n - 1))) : RunsTo Try.prog polB 58 (sub [1, 1, 1, 1, 0, 1, 0, 0, 1, 1, 0, 0, 1, 0] B58) (env58 (.int .i64 n) (.imm .arg 2 lc) (.imm .lit 20 []) (.bool false) (.sl 0 0 m (some m) m 20) .undef (.ptr 1 0 0 1) .undef .undef .undef (.int .i64 (m : Int)) (.int .i64 (m : Int)) (.imm .arg 2 lc) (.int .i64 (lc.length : Int)) (.int .i64 (j : Int)) .undef .undef) [.arr 20 els true 0, .arr 2 [.agg [.int .i64 a, .int .i64 b]] true 0] (.ret) (polB.keys 58) (env58 (.int .i64 n) (.imm .arg 2 lc) (.imm .lit 20 []) (.bool false) (.sl 0 0 m (some m) m 20) .undef (.ptr 1 0 0 1) .undef .undef .undef (.int .i64 (m : Int)) (.int .i64 (m : Int)) (.imm .arg 2 lc) (.int .i64 (lc.length : Int)) (.int .i64 (j : Int)) .undef .undef) [.arr 20 els true 0, .arr 2 [.agg [.int .i64 a, .int .i64 b]] true 0] :=
  RunsTo.hint 1 60 [⟨12, 4, .bool false, [.arr 20 els true 0, .arr 2 [.agg [.int .i64 a, .int .i64 b]] true 0]⟩] fun k hk => by
    obtain ⟨k, rfl⟩ : ∃ n, k = n + 1 := ⟨k - 1, by omega⟩
    exact ⟨[some (HV.bool (decide ((0 : Int) ≤ a ∧ a ≤ IntKind.i64.wrap (n - 1))), ([.arr 20 els true 0, .arr 2 [.agg [.int .i64 a, .int .i64 b]] true 0] : Heap)) = some (.bool false, [.arr 20 els true 0, .arr 2 [.agg [.int .i64 a, .int .i64 b]] true 0])], by kernel_rfl, Obls.cons (hintB (decide_eq_false g0)) Obls.nil⟩
theorem k_j_0 (n : Int) (lc : List HV) (m : Nat) (els : List HV) (j : Nat) (a b : Int) (cs0 : List HV) (g0 : idxV Try.prog 85 (.sl 0 0 m (some m) m 20) (.int .i64 a) = some (.ptr 0 ((a).toNat) 0 m)) (g1 : loadV Try.prog [.arr 20 els true 0, .arr 2 [.agg [.int .i64 a, .int .i64 b]] true 0] 89 (.ptr 0 ((a).toNat) 0 m) = some (.agg cs0)) (g2 : storeV Try.prog [.arr 20 els true 0, .arr 2 [.agg [.int .i64 a, .int .i64 b]] true 0, .arr 20 [.agg [.bool false, .bool false, .bool false, .bool false, .bool false, .bool false, .bool false, .bool false, .bool false, .bool false, .bool false, .bool false, .bool false, .bool false, .bool false, .bool false, .bool false, .bool false, .bool false, .bool false]] true 0] 89 (.ptr 2 0 0 1) (.agg cs0) = some [.arr 20 els true 0, .arr 2 [.agg [.int .i64 a, .int .i64 b]] true 0, .arr 20 [.agg cs0] true 0]) : RunsTo Try.prog polB 58 (sub [1, 1, 1, 1, 0, 1, 0, 0, 1, 1, 0, 0, 1, 1, 0] B58) (env58 (.int .i64 n) (.imm .arg 2 lc) (.imm .lit 20 []) (.bool false) (.sl 0 0 m (some m) m 20) .undef (.ptr 1 0 0 1) .undef .undef .undef (.int .i64 (m : Int)) (.int .i64 (m : Int)) (.imm .arg 2 lc) (.int .i64 (lc.length : Int)) (.int .i64 (j : Int)) .undef .undef) [.arr 20 els true 0, .arr 2 [.agg [.int .i64 a, .int .i64 b]] true 0] (.normal) (polB.keys 58) (env58 (.int .i64 n) (.imm .arg 2 lc) (.imm .lit 20 []) (.bool false) (.sl 0 0 m (some m) m 20) .undef (.ptr 1 0 0 1) (.ptr 2 0 0 1) .undef .undef (.int .i64 (m : Int)) (.int .i64 (m : Int)) (.imm .arg 2 lc) (.int .i64 (lc.length : Int)) (.int .i64 (j : Int)) .undef .undef) [.arr 20 els true 0, .arr 2 [.agg [.int .i64 a, .int .i64 b]] true 0, .arr 20 [.agg cs0] true 0] :=
  RunsTo.hint 1 60 [⟨14, 3, .ptr 0 ((a).toNat) 0 m, [.arr 20 els true 0, .arr 2 [.agg [.int .i64 a, .int .i64 b]] true 0]⟩, ⟨14, 4, .agg cs0, [.arr 20 els true 0, .arr 2 [.agg [.int .i64 a, .int .i64 b]] true 0]⟩, ⟨14, 6, .tuple [], [.arr 20 els true 0, .arr 2 [.agg [.int .i64 a, .int .i64 b]] true 0, .arr 20 [.agg cs0] true 0]⟩] fun k hk => by
    obtain ⟨k, rfl⟩ : ∃ n, k = n + 1 := ⟨k - 1, by omega⟩
    exact ⟨[(idxV Try.prog 85 (.sl 0 0 m (some m) m 20) (.int .i64 a)).map (fun v => (v, ([.arr 20 els true 0, .arr 2 [.agg [.int .i64 a, .int .i64 b]] true 0] : Heap))) = some (.ptr 0 ((a).toNat) 0 m, [.arr 20 els true 0, .arr 2 [.agg [.int .i64 a, .int .i64 b]] true 0]), (loadV Try.prog [.arr 20 els true 0, .arr 2 [.agg [.int .i64 a, .int .i64 b]] true 0] 89 (.ptr 0 ((a).toNat) 0 m)).map (fun v => (v, ([.arr 20 els true 0, .arr 2 [.agg [.int .i64 a, .int .i64 b]] true 0] : Heap))) = some (.agg cs0, [.arr 20 els true 0, .arr 2 [.agg [.int .i64 a, .int .i64 b]] true 0]), (storeV Try.prog [.arr 20 els true 0, .arr 2 [.agg [.int .i64 a, .int .i64 b]] true 0, .arr 20 [.agg [.bool false, .bool false, .bool false, .bool false, .bool false, .bool false, .bool false, .bool false, .bool false, .bool false, .bool false, .bool false, .bool false, .bool false, .bool false, .bool false, .bool false, .bool false, .bool false, .bool false]] true 0] 89 (.ptr 2 0 0 1) (.agg cs0)).map (fun H => (HV.tuple [], H)) = some (.tuple [], [.arr 20 els true 0, .arr 2 [.agg [.int .i64 a, .int .i64 b]] true 0, .arr 20 [.agg cs0] true 0])], by kernel_rfl, Obls.cons (hintOp g0) (Obls.cons (hintOp g1) (Obls.cons (hintSt g2) Obls.nil))⟩
theorem k_k_0 (n : Int) (lc : List HV) (m : Nat) (els : List HV) (j : Nat) (a b : Int) (ca : List HV) (cs0 : List HV) (g0 : idxV Try.prog 85 (.sl 0 0 m (some m) m 20) (.int .i64 b) = some (.ptr 0 ((b).toNat) 0 m)) (g1 : loadV Try.prog [.arr 20 els true 0, .arr 2 [.agg [.int .i64 a, .int .i64 b]] true 0, .arr 20 [.agg ca] true 0] 89 (.ptr 0 ((b).toNat) 0 m) = some (.agg cs0)) : RunsTo Try.prog polB 58 (sub [1, 1, 1, 1, 0, 1, 0, 0, 1, 1, 0, 0, 1, 1, 1, 0, 0] B58) (env58 (.int .i64 n) (.imm .arg 2 lc) (.imm .lit 20 []) (.bool false) (.sl 0 0 m (some m) m 20) .undef (.ptr 1 0 0 1) (.ptr 2 0 0 1) .undef .undef (.int .i64 (m : Int)) (.int .i64 (m : Int)) (.imm .arg 2 lc) (.int .i64 (lc.length : Int)) (.int .i64 (j : Int)) .undef .undef) [.arr 20 els true 0, .arr 2 [.agg [.int .i64 a, .int .i64 b]] true 0, .arr 20 [.agg ca] true 0] (.normal) (polB.keys 58) (env58 (.int .i64 n) (.imm .arg 2 lc) (.imm .lit 20 []) (.bool false) (.sl 0 0 m (some m) m 20) .undef (.ptr 1 0 0 1) (.ptr 2 0 0 1) .undef .undef (.int .i64 (m : Int)) (.int .i64 (m : Int)) (.imm .arg 2 lc) (.int .i64 (lc.length : Int)) (.int .i64 (j : Int)) (.agg cs0) (.int .i64 0)) [.arr 20 els true 0, .arr 2 [.agg [.int .i64 a, .int .i64 b]] true 0, .arr 20 [.agg ca] true 0] :=
  RunsTo.hint 1 60 [⟨15, 3, .ptr 0 ((b).toNat) 0 m, [.arr 20 els true 0, .arr 2 [.agg [.int .i64 a, .int .i64 b]] true 0, .arr 20 [.agg ca] true 0]⟩, ⟨15, 4, .agg cs0, [.arr 20 els true 0, .arr 2 [.agg [.int .i64 a, .int .i64 b]] true 0, .arr 20 [.agg ca] true 0]⟩] fun k hk => by
    obtain ⟨k, rfl⟩ : ∃ n, k = n + 1 := ⟨k - 1, by omega⟩
    exact ⟨[(idxV Try.prog 85 (.sl 0 0 m (some m) m 20) (.int .i64 b)).map (fun v => (v, ([.arr 20 els true 0, .arr 2 [.agg [.int .i64 a, .int .i64 b]] true 0, .arr 20 [.agg ca] true 0] : Heap))) = some (.ptr 0 ((b).toNat) 0 m, [.arr 20 els true 0, .arr 2 [.agg [.int .i64 a, .int .i64 b]] true 0, .arr 20 [.agg ca] true 0]), (loadV Try.prog [.arr 20 els true 0, .arr 2 [.agg [.int .i64 a, .int .i64 b]] true 0, .arr 20 [.agg ca] true 0] 89 (.ptr 0 ((b).toNat) 0 m)).map (fun v => (v, ([.arr 20 els true 0, .arr 2 [.agg [.int .i64 a, .int .i64 b]] true 0, .arr 20 [.agg ca] true 0] : Heap))) = some (.agg cs0, [.arr 20 els true 0, .arr 2 [.agg [.int .i64 a, .int .i64 b]] true 0, .arr 20 [.agg ca] true 0])], by kernel_rfl, Obls.cons (hintOp g0) (Obls.cons (hintOp g1) Obls.nil)⟩
theorem k_l3_0 (n : Int) (lc : List HV) (m : Nat) (els : List HV) (j q : Nat) (a b : Int) (ca cb : List HV) (cs0 : List HV) (g0 : (q : Int) < 20) (g1 : elemV Try.prog 89 (.agg cb) (.int .i64 (q : Int)) = some (.bool true)) (g2 : idxV Try.prog 89 (.ptr 2 0 0 1) (.int .i64 (q : Int)) = some (.ptr 2 0 q 1)) (g3 : loadV Try.prog [.arr 20 els true 0, .arr 2 [.agg [.int .i64 a, .int .i64 b]] true 0, .arr 20 [.agg ca] true 0] 4 (.ptr 2 0 q 1) = some (.bool true)) (g4 : idxV Try.prog 89 (.ptr 2 0 0 1) (.int .i64 (q : Int)) = some (.ptr 2 0 q 1)) (g5 : storeV Try.prog [.arr 20 els true 0, .arr 2 [.agg [.int .i64 a, .int .i64 b]] true 0, .arr 20 [.agg ca] true 0] 4 (.ptr 2 0 q 1) (.bool true) = some [.arr 20 els true 0, .arr 2 [.agg [.int .i64 a, .int .i64 b]] true 0, .arr 20 [.agg cs0] true 0]) : RunsTo Try.prog polB 58 (sub [1, 1, 1, 1, 0, 1, 0, 0, 1, 1, 0, 0, 1, 1, 1, 0, 1, 0, 0] B58) (env58 (.int .i64 n) (.imm .arg 2 lc) (.imm .lit 20 []) (.bool false) (.sl 0 0 m (some m) m 20) .undef (.ptr 1 0 0 1) (.ptr 2 0 0 1) .undef .undef (.int .i64 (m : Int)) (.int .i64 (m : Int)) (.imm .arg 2 lc) (.int .i64 (lc.length : Int)) (.int .i64 (j : Int)) (.agg cb) (.int .i64 (q : Int))) [.arr 20 els true 0, .arr 2 [.agg [.int .i64 a, .int .i64 b]] true 0, .arr 20 [.agg ca] true 0] (.normal) (polB.keys 58) (env58 (.int .i64 n) (.imm .arg 2 lc) (.imm .lit 20 []) (.bool false) (.sl 0 0 m (some m) m 20) .undef (.ptr 1 0 0 1) (.ptr 2 0 0 1) (.int .i64 (q : Int)) (.bool true) (.int .i64 (m : Int)) (.int .i64 (m : Int)) (.imm .arg 2 lc) (.int .i64 (lc.length : Int)) (.int .i64 (j : Int)) (.agg cb) (.int .i64 (IntKind.i64.wrap ((q : Int) + 1)))) [.arr 20 els true 0, .arr 2 [.agg [.int .i64 a, .int .i64 b]] true 0, .arr 20 [.agg cs0] true 0] :=
  RunsTo.hint 1 60 [⟨16, 0, .bool true, [.arr 20 els true 0, .arr 2 [.agg [.int .i64 a, .int .i64 b]] true 0, .arr 20 [.agg ca] true 0]⟩, ⟨17, 1, .bool true, [.arr 20 els true 0, .arr 2 [.agg [.int .i64 a, .int .i64 b]] true 0, .arr 20 [.agg ca] true 0]⟩, ⟨18, 2, .ptr 2 0 q 1, [.arr 20 els true 0, .arr 2 [.agg [.int .i64 a, .int .i64 b]] true 0, .arr 20 [.agg ca] true 0]⟩, ⟨18, 3, .bool true, [.arr 20 els true 0, .arr 2 [.agg [.int .i64 a, .int .i64 b]] true 0, .arr 20 [.agg ca] true 0]⟩, ⟨18, 7, .ptr 2 0 q 1, [.arr 20 els true 0, .arr 2 [.agg [.int .i64 a, .int .i64 b]] true 0, .arr 20 [.agg ca] true 0]⟩, ⟨18, 8, .tuple [], [.arr 20 els true 0, .arr 2 [.agg [.int .i64 a, .int .i64 b]] true 0, .arr 20 [.agg cs0] true 0]⟩] fun k hk => by
    obtain ⟨k, rfl⟩ : ∃ n, k = n + 1 := ⟨k - 1, by omega⟩
    exact ⟨[some (HV.bool (decide ((q : Int) < 20)), ([.arr 20 els true 0, .arr 2 [.agg [.int .i64 a, .int .i64 b]] true 0, .arr 20 [.agg ca] true 0] : Heap)) = some (.bool true, [.arr 20 els true 0, .arr 2 [.agg [.int .i64 a, .int .i64 b]] true 0, .arr 20 [.agg ca] true 0]), (elemV Try.prog 89 (.agg cb) (.int .i64 (q : Int))).map (fun v => (v, ([.arr 20 els true 0, .arr 2 [.agg [.int .i64 a, .int .i64 b]] true 0, .arr 20 [.agg ca] true 0] : Heap))) = some (.bool true, [.arr 20 els true 0, .arr 2 [.agg [.int .i64 a, .int .i64 b]] true 0, .arr 20 [.agg ca] true 0]), (idxV Try.prog 89 (.ptr 2 0 0 1) (.int .i64 (q : Int))).map (fun v => (v, ([.arr 20 els true 0, .arr 2 [.agg [.int .i64 a, .int .i64 b]] true 0, .arr 20 [.agg ca] true 0] : Heap))) = some (.ptr 2 0 q 1, [.arr 20 els true 0, .arr 2 [.agg [.int .i64 a, .int .i64 b]] true 0, .arr 20 [.agg ca] true 0]), (loadV Try.prog [.arr 20 els true 0, .arr 2 [.agg [.int .i64 a, .int .i64 b]] true 0, .arr 20 [.agg ca] true 0] 4 (.ptr 2 0 q 1)).map (fun v => (v, ([.arr 20 els true 0, .arr 2 [.agg [.int .i64 a, .int .i64 b]] true 0, .arr 20 [.agg ca] true 0] : Heap))) = some (.bool true, [.arr 20 els true 0, .arr 2 [.agg [.int .i64 a, .int .i64 b]] true 0, .arr 20 [.agg ca] true 0]), (idxV Try.prog 89 (.ptr 2 0 0 1) (.int .i64 (q : Int))).map (fun v => (v, ([.arr 20 els true 0, .arr 2 [.agg [.int .i64 a, .int .i64 b]] true 0, .arr 20 [.agg ca] true 0] : Heap))) = some (.ptr 2 0 q 1, [.arr 20 els true 0, .arr 2 [.agg [.int .i64 a, .int .i64 b]] true 0, .arr 20 [.agg ca] true 0]), (storeV Try.prog [.arr 20 els true 0, .arr 2 [.agg [.int .i64 a, .int .i64 b]] true 0, .arr 20 [.agg ca] true 0] 4 (.ptr 2 0 q 1) (.bool true)).map (fun H => (HV.tuple [], H)) = some (.tuple [], [.arr 20 els true 0, .arr 2 [.agg [.int .i64 a, .int .i64 b]] true 0, .arr 20 [.agg cs0] true 0])], by kernel_rfl, Obls.cons (hintB (decide_eq_true g0)) (Obls.cons (hintOp g1) (Obls.cons (hintOp g2) (Obls.cons (hintOp g3) (Obls.cons (hintOp g4) (Obls.cons (hintSt g5) Obls.nil)))))⟩
theorem k_l3_1 (n : Int) (lc : List HV) (m : Nat) (els : List HV) (j q : Nat) (a b : Int) (ca cb : List HV) (cs0 : List HV) (g0 : (q : Int) < 20) (g1 : elemV Try.prog 89 (.agg cb) (.int .i64 (q : Int)) = some (.bool true)) (g2 : idxV Try.prog 89 (.ptr 2 0 0 1) (.int .i64 (q : Int)) = some (.ptr 2 0 q 1)) (g3 : loadV Try.prog [.arr 20 els true 0, .arr 2 [.agg [.int .i64 a, .int .i64 b]] true 0, .arr 20 [.agg ca] true 0] 4 (.ptr 2 0 q 1) = some (.bool false)) (g4 : idxV Try.prog 89 (.ptr 2 0 0 1) (.int .i64 (q : Int)) = some (.ptr 2 0 q 1)) (g5 : storeV Try.prog [.arr 20 els true 0, .arr 2 [.agg [.int .i64 a, .int .i64 b]] true 0, .arr 20 [.agg ca] true 0] 4 (.ptr 2 0 q 1) (.bool true) = some [.arr 20 els true 0, .arr 2 [.agg [.int .i64 a, .int .i64 b]] true 0, .arr 20 [.agg cs0] true 0]) : RunsTo Try.prog polB 58 (sub [1, 1, 1, 1, 0, 1, 0, 0, 1, 1, 0, 0, 1, 1, 1, 0, 1, 0, 0] B58) (env58 (.int .i64 n) (.imm .arg 2 lc) (.imm .lit 20 []) (.bool false) (.sl 0 0 m (some m) m 20) .undef (.ptr 1 0 0 1) (.ptr 2 0 0 1) .undef .undef (.int .i64 (m : Int)) (.int .i64 (m : Int)) (.imm .arg 2 lc) (.int .i64 (lc.length : Int)) (.int .i64 (j : Int)) (.agg cb) (.int .i64 (q : Int))) [.arr 20 els true 0, .arr 2 [.agg [.int .i64 a, .int .i64 b]] true 0, .arr 20 [.agg ca] true 0] (.normal) (polB.keys 58) (env58 (.int .i64 n) (.imm .arg 2 lc) (.imm .lit 20 []) (.bool false) (.sl 0 0 m (some m) m 20) .undef (.ptr 1 0 0 1) (.ptr 2 0 0 1) (.int .i64 (q : Int)) (.bool true) (.int .i64 (m : Int)) (.int .i64 (m : Int)) (.imm .arg 2 lc) (.int .i64 (lc.length : Int)) (.int .i64 (j : Int)) (.agg cb) (.int .i64 (IntKind.i64.wrap ((q : Int) + 1)))) [.arr 20 els true 0, .arr 2 [.agg [.int .i64 a, .int .i64 b]] true 0, .arr 20 [.agg cs0] true 0] :=
  RunsTo.hint 1 60 [⟨16, 0, .bool true, [.arr 20 els true 0, .arr 2 [.agg [.int .i64 a, .int .i64 b]] true 0, .arr 20 [.agg ca] true 0]⟩, ⟨17, 1, .bool true, [.arr 20 els true 0, .arr 2 [.agg [.int .i64 a, .int .i64 b]] true 0, .arr 20 [.agg ca] true 0]⟩, ⟨18, 2, .ptr 2 0 q 1, [.arr 20 els true 0, .arr 2 [.agg [.int .i64 a, .int .i64 b]] true 0, .arr 20 [.agg ca] true 0]⟩, ⟨18, 3, .bool false, [.arr 20 els true 0, .arr 2 [.agg [.int .i64 a, .int .i64 b]] true 0, .arr 20 [.agg ca] true 0]⟩, ⟨18, 7, .ptr 2 0 q 1, [.arr 20 els true 0, .arr 2 [.agg [.int .i64 a, .int .i64 b]] true 0, .arr 20 [.agg ca] true 0]⟩, ⟨18, 8, .tuple [], [.arr 20 els true 0, .arr 2 [.agg [.int .i64 a, .int .i64 b]] true 0, .arr 20 [.agg cs0] true 0]⟩] fun k hk => by
    obtain ⟨k, rfl⟩ : ∃ n, k = n + 1 := ⟨k - 1, by omega⟩
    exact ⟨[some (HV.bool (decide ((q : Int) < 20)), ([.arr 20 els true 0, .arr 2 [.agg [.int .i64 a, .int .i64 b]] true 0, .arr 20 [.agg ca] true 0] : Heap)) = some (.bool true, [.arr 20 els true 0, .arr 2 [.agg [.int .i64 a, .int .i64 b]] true 0, .arr 20 [.agg ca] true 0]), (elemV Try.prog 89 (.agg cb) (.int .i64 (q : Int))).map (fun v => (v, ([.arr 20 els true 0, .arr 2 [.agg [.int .i64 a, .int .i64 b]] true 0, .arr 20 [.agg ca] true 0] : Heap))) = some (.bool true, [.arr 20 els true 0, .arr 2 [.agg [.int .i64 a, .int .i64 b]] true 0, .arr 20 [.agg ca] true 0]), (idxV Try.prog 89 (.ptr 2 0 0 1) (.int .i64 (q : Int))).map (fun v => (v, ([.arr 20 els true 0, .arr 2 [.agg [.int .i64 a, .int .i64 b]] true 0, .arr 20 [.agg ca] true 0] : Heap))) = some (.ptr 2 0 q 1, [.arr 20 els true 0, .arr 2 [.agg [.int .i64 a, .int .i64 b]] true 0, .arr 20 [.agg ca] true 0]), (loadV Try.prog [.arr 20 els true 0, .arr 2 [.agg [.int .i64 a, .int .i64 b]] true 0, .arr 20 [.agg ca] true 0] 4 (.ptr 2 0 q 1)).map (fun v => (v, ([.arr 20 els true 0, .arr 2 [.agg [.int .i64 a, .int .i64 b]] true 0, .arr 20 [.agg ca] true 0] : Heap))) = some (.bool false, [.arr 20 els true 0, .arr 2 [.agg [.int .i64 a, .int .i64 b]] true 0, .arr 20 [.agg ca] true 0]), (idxV Try.prog 89 (.ptr 2 0 0 1) (.int .i64 (q : Int))).map (fun v => (v, ([.arr 20 els true 0, .arr 2 [.agg [.int .i64 a, .int .i64 b]] true 0, .arr 20 [.agg ca] true 0] : Heap))) = some (.ptr 2 0 q 1, [.arr 20 els true 0, .arr 2 [.agg [.int .i64 a, .int .i64 b]] true 0, .arr 20 [.agg ca] true 0]), (storeV Try.prog [.arr 20 els true 0, .arr 2 [.agg [.int .i64 a, .int .i64 b]] true 0, .arr 20 [.agg ca] true 0] 4 (.ptr 2 0 q 1) (.bool true)).map (fun H => (HV.tuple [], H)) = some (.tuple [], [.arr 20 els true 0, .arr 2 [.agg [.int .i64 a, .int .i64 b]] true 0, .arr 20 [.agg cs0] true 0])], by kernel_rfl, Obls.cons (hintB (decide_eq_true g0)) (Obls.cons (hintOp g1) (Obls.cons (hintOp g2) (Obls.cons (hintOp g3) (Obls.cons (hintOp g4) (Obls.cons (hintSt g5) Obls.nil)))))⟩
theorem k_l3_2 (n : Int) (lc : List HV) (m : Nat) (els : List HV) (j q : Nat) (a b : Int) (ca cb : List HV) (cs0 : List HV) (g0 : (q : Int) < 20) (g1 : elemV Try.prog 89 (.agg cb) (.int .i64 (q : Int)) = some (.bool false)) (g2 : idxV Try.prog 89 (.ptr 2 0 0 1) (.int .i64 (q : Int)) = some (.ptr 2 0 q 1)) (g3 : loadV Try.prog [.arr 20 els true 0, .arr 2 [.agg [.int .i64 a, .int .i64 b]] true 0, .arr 20 [.agg ca] true 0] 4 (.ptr 2 0 q 1) = some (.bool true)) (g4 : idxV Try.prog 89 (.ptr 2 0 0 1) (.int .i64 (q : Int)) = some (.ptr 2 0 q 1)) (g5 : storeV Try.prog [.arr 20 els true 0, .arr 2 [.agg [.int .i64 a, .int .i64 b]] true 0, .arr 20 [.agg ca] true 0] 4 (.ptr 2 0 q 1) (.bool true) = some [.arr 20 els true 0, .arr 2 [.agg [.int .i64 a, .int .i64 b]] true 0, .arr 20 [.agg cs0] true 0]) : RunsTo Try.prog polB 58 (sub [1, 1, 1, 1, 0, 1, 0, 0, 1, 1, 0, 0, 1, 1, 1, 0, 1, 0, 0] B58) (env58 (.int .i64 n) (.imm .arg 2 lc) (.imm .lit 20 []) (.bool false) (.sl 0 0 m (some m) m 20) .undef (.ptr 1 0 0 1) (.ptr 2 0 0 1) .undef .undef (.int .i64 (m : Int)) (.int .i64 (m : Int)) (.imm .arg 2 lc) (.int .i64 (lc.length : Int)) (.int .i64 (j : Int)) (.agg cb) (.int .i64 (q : Int))) [.arr 20 els true 0, .arr 2 [.agg [.int .i64 a, .int .i64 b]] true 0, .arr 20 [.agg ca] true 0] (.normal) (polB.keys 58) (env58 (.int .i64 n) (.imm .arg 2 lc) (.imm .lit 20 []) (.bool false) (.sl 0 0 m (some m) m 20) .undef (.ptr 1 0 0 1) (.ptr 2 0 0 1) (.int .i64 (q : Int)) (.bool false) (.int .i64 (m : Int)) (.int .i64 (m : Int)) (.imm .arg 2 lc) (.int .i64 (lc.length : Int)) (.int .i64 (j : Int)) (.agg cb) (.int .i64 (IntKind.i64.wrap ((q : Int) + 1)))) [.arr 20 els true 0, .arr 2 [.agg [.int .i64 a, .int .i64 b]] true 0, .arr 20 [.agg cs0] true 0] :=
  RunsTo.hint 1 60 [⟨16, 0, .bool true, [.arr 20 els true 0, .arr 2 [.agg [.int .i64 a, .int .i64 b]] true 0, .arr 20 [.agg ca] true 0]⟩, ⟨17, 1, .bool false, [.arr 20 els true 0, .arr 2 [.agg [.int .i64 a, .int .i64 b]] true 0, .arr 20 [.agg ca] true 0]⟩, ⟨18, 2, .ptr 2 0 q 1, [.arr 20 els true 0, .arr 2 [.agg [.int .i64 a, .int .i64 b]] true 0, .arr 20 [.agg ca] true 0]⟩, ⟨18, 3, .bool true, [.arr 20 els true 0, .arr 2 [.agg [.int .i64 a, .int .i64 b]] true 0, .arr 20 [.agg ca] true 0]⟩, ⟨18, 7, .ptr 2 0 q 1, [.arr 20 els true 0, .arr 2 [.agg [.int .i64 a, .int .i64 b]] true 0, .arr 20 [.agg ca] true 0]⟩, ⟨18, 8, .tuple [], [.arr 20 els true 0, .arr 2 [.agg [.int .i64 a, .int .i64 b]] true 0, .arr 20 [.agg cs0] true 0]⟩] fun k hk => by
    obtain ⟨k, rfl⟩ : ∃ n, k = n + 1 := ⟨k - 1, by omega⟩
    exact ⟨[some (HV.bool (decide ((q : Int) < 20)), ([.arr 20 els true 0, .arr 2 [.agg [.int .i64 a, .int .i64 b]] true 0, .arr 20 [.agg ca] true 0] : Heap)) = some (.bool true, [.arr 20 els true 0, .arr 2 [.agg [.int .i64 a, .int .i64 b]] true 0, .arr 20 [.agg ca] true 0]), (elemV Try.prog 89 (.agg cb) (.int .i64 (q : Int))).map (fun v => (v, ([.arr 20 els true 0, .arr 2 [.agg [.int .i64 a, .int .i64 b]] true 0, .arr 20 [.agg ca] true 0] : Heap))) = some (.bool false, [.arr 20 els true 0, .arr 2 [.agg [.int .i64 a, .int .i64 b]] true 0, .arr 20 [.agg ca] true 0]), (idxV Try.prog 89 (.ptr 2 0 0 1) (.int .i64 (q : Int))).map (fun v => (v, ([.arr 20 els true 0, .arr 2 [.agg [.int .i64 a, .int .i64 b]] true 0, .arr 20 [.agg ca] true 0] : Heap))) = some (.ptr 2 0 q 1, [.arr 20 els true 0, .arr 2 [.agg [.int .i64 a, .int .i64 b]] true 0, .arr 20 [.agg ca] true 0]), (loadV Try.prog [.arr 20 els true 0, .arr 2 [.agg [.int .i64 a, .int .i64 b]] true 0, .arr 20 [.agg ca] true 0] 4 (.ptr 2 0 q 1)).map (fun v => (v, ([.arr 20 els true 0, .arr 2 [.agg [.int .i64 a, .int .i64 b]] true 0, .arr 20 [.agg ca] true 0] : Heap))) = some (.bool true, [.arr 20 els true 0, .arr 2 [.agg [.int .i64 a, .int .i64 b]] true 0, .arr 20 [.agg ca] true 0]), (idxV Try.prog 89 (.ptr 2 0 0 1) (.int .i64 (q : Int))).map (fun v => (v, ([.arr 20 els true 0, .arr 2 [.agg [.int .i64 a, .int .i64 b]] true 0, .arr 20 [.agg ca] true 0] : Heap))) = some (.ptr 2 0 q 1, [.arr 20 els true 0, .arr 2 [.agg [.int .i64 a, .int .i64 b]] true 0, .arr 20 [.agg ca] true 0]), (storeV Try.prog [.arr 20 els true 0, .arr 2 [.agg [.int .i64 a, .int .i64 b]] true 0, .arr 20 [.agg ca] true 0] 4 (.ptr 2 0 q 1) (.bool true)).map (fun H => (HV.tuple [], H)) = some (.tuple [], [.arr 20 els true 0, .arr 2 [.agg [.int .i64 a, .int .i64 b]] true 0, .arr 20 [.agg cs0] true 0])], by kernel_rfl, Obls.cons (hintB (decide_eq_true g0)) (Obls.cons (hintOp g1) (Obls.cons (hintOp g2) (Obls.cons (hintOp g3) (Obls.cons (hintOp g4) (Obls.cons (hintSt g5) Obls.nil)))))⟩
theorem k_l3_3 (n : Int) (lc : List HV) (m : Nat) (els : List HV) (j q : Nat) (a b : Int) (ca cb : List HV) (cs0 : List HV) (g0 : (q : Int) < 20) (g1 : elemV Try.prog 89 (.agg cb) (.int .i64 (q : Int)) = some (.bool false)) (g2 : idxV Try.prog 89 (.ptr 2 0 0 1) (.int .i64 (q : Int)) = some (.ptr 2 0 q 1)) (g3 : loadV Try.prog [.arr 20 els true 0, .arr 2 [.agg [.int .i64 a, .int .i64 b]] true 0, .arr 20 [.agg ca] true 0] 4 (.ptr 2 0 q 1) = some (.bool false)) (g4 : idxV Try.prog 89 (.ptr 2 0 0 1) (.int .i64 (q : Int)) = some (.ptr 2 0 q 1)) (g5 : storeV Try.prog [.arr 20 els true 0, .arr 2 [.agg [.int .i64 a, .int .i64 b]] true 0, .arr 20 [.agg ca] true 0] 4 (.ptr 2 0 q 1) (.bool false) = some [.arr 20 els true 0, .arr 2 [.agg [.int .i64 a, .int .i64 b]] true 0, .arr 20 [.agg cs0] true 0]) : RunsTo Try.prog polB 58 (sub [1, 1, 1, 1, 0, 1, 0, 0, 1, 1, 0, 0, 1, 1, 1, 0, 1, 0, 0] B58) (env58 (.int .i64 n) (.imm .arg 2 lc) (.imm .lit 20 []) (.bool false) (.sl 0 0 m (some m) m 20) .undef (.ptr 1 0 0 1) (.ptr 2 0 0 1) .undef .undef (.int .i64 (m : Int)) (.int .i64 (m : Int)) (.imm .arg 2 lc) (.int .i64 (lc.length : Int)) (.int .i64 (j : Int)) (.agg cb) (.int .i64 (q : Int))) [.arr 20 els true 0, .arr 2 [.agg [.int .i64 a, .int .i64 b]] true 0, .arr 20 [.agg ca] true 0] (.normal) (polB.keys 58) (env58 (.int .i64 n) (.imm .arg 2 lc) (.imm .lit 20 []) (.bool false) (.sl 0 0 m (some m) m 20) .undef (.ptr 1 0 0 1) (.ptr 2 0 0 1) (.int .i64 (q : Int)) (.bool false) (.int .i64 (m : Int)) (.int .i64 (m : Int)) (.imm .arg 2 lc) (.int .i64 (lc.length : Int)) (.int .i64 (j : Int)) (.agg cb) (.int .i64 (IntKind.i64.wrap ((q : Int) + 1)))) [.arr 20 els true 0, .arr 2 [.agg [.int .i64 a, .int .i64 b]] true 0, .arr 20 [.agg cs0] true 0] :=
  RunsTo.hint 1 60 [⟨16, 0, .bool true, [.arr 20 els true 0, .arr 2 [.agg [.int .i64 a, .int .i64 b]] true 0, .arr 20 [.agg ca] true 0]⟩, ⟨17, 1, .bool false, [.arr 20 els true 0, .arr 2 [.agg [.int .i64 a, .int .i64 b]] true 0, .arr 20 [.agg ca] true 0]⟩, ⟨18, 2, .ptr 2 0 q 1, [.arr 20 els true 0, .arr 2 [.agg [.int .i64 a, .int .i64 b]] true 0, .arr 20 [.agg ca] true 0]⟩, ⟨18, 3, .bool false, [.arr 20 els true 0, .arr 2 [.agg [.int .i64 a, .int .i64 b]] true 0, .arr 20 [.agg ca] true 0]⟩, ⟨18, 7, .ptr 2 0 q 1, [.arr 20 els true 0, .arr 2 [.agg [.int .i64 a, .int .i64 b]] true 0, .arr 20 [.agg ca] true 0]⟩, ⟨18, 8, .tuple [], [.arr 20 els true 0, .arr 2 [.agg [.int .i64 a, .int .i64 b]] true 0, .arr 20 [.agg cs0] true 0]⟩] fun k hk => by
    obtain ⟨k, rfl⟩ : ∃ n, k = n + 1 := ⟨k - 1, by omega⟩
    exact ⟨[some (HV.bool (decide ((q : Int) < 20)), ([.arr 20 els true 0, .arr 2 [.agg [.int .i64 a, .int .i64 b]] true 0, .arr 20 [.agg ca] true 0] : Heap)) = some (.bool true, [.arr 20 els true 0, .arr 2 [.agg [.int .i64 a, .int .i64 b]] true 0, .arr 20 [.agg ca] true 0]), (elemV Try.prog 89 (.agg cb) (.int .i64 (q : Int))).map (fun v => (v, ([.arr 20 els true 0, .arr 2 [.agg [.int .i64 a, .int .i64 b]] true 0, .arr 20 [.agg ca] true 0] : Heap))) = some (.bool false, [.arr 20 els true 0, .arr 2 [.agg [.int .i64 a, .int .i64 b]] true 0, .arr 20 [.agg ca] true 0]), (idxV Try.prog 89 (.ptr 2 0 0 1) (.int .i64 (q : Int))).map (fun v => (v, ([.arr 20 els true 0, .arr 2 [.agg [.int .i64 a, .int .i64 b]] true 0, .arr 20 [.agg ca] true 0] : Heap))) = some (.ptr 2 0 q 1, [.arr 20 els true 0, .arr 2 [.agg [.int .i64 a, .int .i64 b]] true 0, .arr 20 [.agg ca] true 0]), (loadV Try.prog [.arr 20 els true 0, .arr 2 [.agg [.int .i64 a, .int .i64 b]] true 0, .arr 20 [.agg ca] true 0] 4 (.ptr 2 0 q 1)).map (fun v => (v, ([.arr 20 els true 0, .arr 2 [.agg [.int .i64 a, .int .i64 b]] true 0, .arr 20 [.agg ca] true 0] : Heap))) = some (.bool false, [.arr 20 els true 0, .arr 2 [.agg [.int .i64 a, .int .i64 b]] true 0, .arr 20 [.agg ca] true 0]), (idxV Try.prog 89 (.ptr 2 0 0 1) (.int .i64 (q : Int))).map (fun v => (v, ([.arr 20 els true 0, .arr 2 [.agg [.int .i64 a, .int .i64 b]] true 0, .arr 20 [.agg ca] true 0] : Heap))) = some (.ptr 2 0 q 1, [.arr 20 els true 0, .arr 2 [.agg [.int .i64 a, .int .i64 b]] true 0, .arr 20 [.agg ca] true 0]), (storeV Try.prog [.arr 20 els true 0, .arr 2 [.agg [.int .i64 a, .int .i64 b]] true 0, .arr 20 [.agg ca] true 0] 4 (.ptr 2 0 q 1) (.bool false)).map (fun H => (HV.tuple [], H)) = some (.tuple [], [.arr 20 els true 0, .arr 2 [.agg [.int .i64 a, .int .i64 b]] true 0, .arr 20 [.agg cs0] true 0])], by kernel_rfl, Obls.cons (hintB (decide_eq_true g0)) (Obls.cons (hintOp g1) (Obls.cons (hintOp g2) (Obls.cons (hintOp g3) (Obls.cons (hintOp g4) (Obls.cons (hintSt g5) Obls.nil)))))⟩
theorem k_l3_4 (n : Int) (lc : List HV) (m : Nat) (els : List HV) (j q : Nat) (a b : Int) (ca cb : List HV)  (g0 : ¬ ((q : Int) < 20)) : RunsTo Try.prog polB 58 (sub [1, 1, 1, 1, 0, 1, 0, 0, 1, 1, 0, 0, 1, 1, 1, 0, 1, 0, 0] B58) (env58 (.int .i64 n) (.imm .arg 2 lc) (.imm .lit 20 []) (.bool false) (.sl 0 0 m (some m) m 20) .undef (.ptr 1 0 0 1) (.ptr 2 0 0 1) .undef .undef (.int .i64 (m : Int)) (.int .i64 (m : Int)) (.imm .arg 2 lc) (.int .i64 (lc.length : Int)) (.int .i64 (j : Int)) (.agg cb) (.int .i64 (q : Int))) [.arr 20 els true 0, .arr 2 [.agg [.int .i64 a, .int .i64 b]] true 0, .arr 20 [.agg ca] true 0] (.exit 4) (polB.keys 58) (env58 (.int .i64 n) (.imm .arg 2 lc) (.imm .lit 20 []) (.bool false) (.sl 0 0 m (some m) m 20) .undef (.ptr 1 0 0 1) (.ptr 2 0 0 1) .undef .undef (.int .i64 (m : Int)) (.int .i64 (m : Int)) (.imm .arg 2 lc) (.int .i64 (lc.length : Int)) (.int .i64 (j : Int)) (.agg cb) (.int .i64 (q : Int))) [.arr 20 els true 0, .arr 2 [.agg [.int .i64 a, .int .i64 b]] true 0, .arr 20 [.agg ca] true 0] :=
  RunsTo.hint 1 60 [⟨16, 0, .bool false, [.arr 20 els true 0, .arr 2 [.agg [.int .i64 a, .int .i64 b]] true 0, .arr 20 [.agg ca] true 0]⟩] fun k hk => by
    obtain ⟨k, rfl⟩ : ∃ n, k = n + 1 := ⟨k - 1, by omega⟩
    exact ⟨[some (HV.bool (decide ((q : Int) < 20)), ([.arr 20 els true 0, .arr 2 [.agg [.int .i64 a, .int .i64 b]] true 0, .arr 20 [.agg ca] true 0] : Heap)) = some (.bool false, [.arr 20 els true 0, .arr 2 [.agg [.int .i64 a, .int .i64 b]] true 0, .arr 20 [.agg ca] true 0])], by kernel_rfl, Obls.cons (hintB (decide_eq_false g0)) Obls.nil⟩
theorem k_m_0 (n : Int) (lc : List HV) (m : Nat) (els : List HV) (j q : Nat) (a b : Int) (cb : List HV) (c0 c1 c2 c3 c4 c5 c6 c7 c8 c9 c10 c11 c12 c13 c14 c15 c16 c17 c18 c19 : Bool) (el0 : List HV) (el1 : List HV) (g0 : idxV Try.prog 85 (.sl 0 0 m (some m) m 20) (.int .i64 a) = some (.ptr 0 ((a).toNat) 0 m)) (g1 : storeV Try.prog [.arr 20 els true 0, .arr 2 [.agg [.int .i64 a, .int .i64 b]] true 0, .arr 20 [.agg [.bool c0, .bool c1, .bool c2, .bool c3, .bool c4, .bool c5, .bool c6, .bool c7, .bool c8, .bool c9, .bool c10, .bool c11, .bool c12, .bool c13, .bool c14, .bool c15, .bool c16, .bool c17, .bool c18, .bool c19]] true 0] 89 (.ptr 0 ((a).toNat) 0 m) (.agg [.bool c0, .bool c1, .bool c2, .bool c3, .bool c4, .bool c5, .bool c6, .bool c7, .bool c8, .bool c9, .bool c10, .bool c11, .bool c12, .bool c13, .bool c14, .bool c15, .bool c16, .bool c17, .bool c18, .bool c19]) = some [.arr 20 el0 true 0, .arr 2 [.agg [.int .i64 a, .int .i64 b]] true 0, .arr 20 [.agg [.bool c0, .bool c1, .bool c2, .bool c3, .bool c4, .bool c5, .bool c6, .bool c7, .bool c8, .bool c9, .bool c10, .bool c11, .bool c12, .bool c13, .bool c14, .bool c15, .bool c16, .bool c17, .bool c18, .bool c19]] true 0]) (g2 : idxV Try.prog 85 (.sl 0 0 m (some m) m 20) (.int .i64 b) = some (.ptr 0 ((b).toNat) 0 m)) (g3 : storeV Try.prog [.arr 20 el0 true 0, .arr 2 [.agg [.int .i64 a, .int .i64 b]] true 0, .arr 20 [.agg [.bool c0, .bool c1, .bool c2, .bool c3, .bool c4, .bool c5, .bool c6, .bool c7, .bool c8, .bool c9, .bool c10, .bool c11, .bool c12, .bool c13, .bool c14, .bool c15, .bool c16, .bool c17, .bool c18, .bool c19]] true 0] 89 (.ptr 0 ((b).toNat) 0 m) (.agg [.bool c0, .bool c1, .bool c2, .bool c3, .bool c4, .bool c5, .bool c6, .bool c7, .bool c8, .bool c9, .bool c10, .bool c11, .bool c12, .bool c13, .bool c14, .bool c15, .bool c16, .bool c17, .bool c18, .bool c19]) = some [.arr 20 el1 true 0, .arr 2 [.agg [.int .i64 a, .int .i64 b]] true 0, .arr 20 [.agg [.bool c0, .bool c1, .bool c2, .bool c3, .bool c4, .bool c5, .bool c6, .bool c7, .bool c8, .bool c9, .bool c10, .bool c11, .bool c12, .bool c13, .bool c14, .bool c15, .bool c16, .bool c17, .bool c18, .bool c19]] true 0]) (gS20 : ((same (.int .i64 b) (.int .i64 b) && sameH ([.arr 20 els true 0, .arr 2 [.agg [.int .i64 a, .int .i64 b]] true 0, .arr 20 [.agg [.bool c0, .bool c1, .bool c2, .bool c3, .bool c4, .bool c5, .bool c6, .bool c7, .bool c8, .bool c9, .bool c10, .bool c11, .bool c12, .bool c13, .bool c14, .bool c15, .bool c16, .bool c17, .bool c18, .bool c19]] true 0] : Heap) [.arr 20 els true 0, .arr 2 [.agg [.int .i64 a, .int .i64 b]] true 0, .arr 20 [.agg [.bool c0, .bool c1, .bool c2, .bool c3, .bool c4, .bool c5, .bool c6, .bool c7, .bool c8, .bool c9, .bool c10, .bool c11, .bool c12, .bool c13, .bool c14, .bool c15, .bool c16, .bool c17, .bool c18, .bool c19]] true 0] && sameH ([.arr 20 el0 true 0, .arr 2 [.agg [.int .i64 a, .int .i64 b]] true 0, .arr 20 [.agg [.bool c0, .bool c1, .bool c2, .bool c3, .bool c4, .bool c5, .bool c6, .bool c7, .bool c8, .bool c9, .bool c10, .bool c11, .bool c12, .bool c13, .bool c14, .bool c15, .bool c16, .bool c17, .bool c18, .bool c19]] true 0] : Heap) [.arr 20 el0 true 0, .arr 2 [.agg [.int .i64 a, .int .i64 b]] true 0, .arr 20 [.agg [.bool c0, .bool c1, .bool c2, .bool c3, .bool c4, .bool c5, .bool c6, .bool c7, .bool c8, .bool c9, .bool c10, .bool c11, .bool c12, .bool c13, .bool c14, .bool c15, .bool c16, .bool c17, .bool c18, .bool c19]] true 0]) && ((same (.agg [.bool c0, .bool c1, .bool c2, .bool c3, .bool c4, .bool c5, .bool c6, .bool c7, .bool c8, .bool c9, .bool c10, .bool c11, .bool c12, .bool c13, .bool c14, .bool c15, .bool c16, .bool c17, .bool c18, .bool c19]) (.agg [.bool c0, .bool c1, .bool c2, .bool c3, .bool c4, .bool c5, .bool c6, .bool c7, .bool c8, .bool c9, .bool c10, .bool c11, .bool c12, .bool c13, .bool c14, .bool c15, .bool c16, .bool c17, .bool c18, .bool c19]) && sameH ([.arr 20 els true 0, .arr 2 [.agg [.int .i64 a, .int .i64 b]] true 0, .arr 20 [.agg [.bool c0, .bool c1, .bool c2, .bool c3, .bool c4, .bool c5, .bool c6, .bool c7, .bool c8, .bool c9, .bool c10, .bool c11, .bool c12, .bool c13, .bool c14, .bool c15, .bool c16, .bool c17, .bool c18, .bool c19]] true 0] : Heap) [.arr 20 els true 0, .arr 2 [.agg [.int .i64 a, .int .i64 b]] true 0, .arr 20 [.agg [.bool c0, .bool c1, .bool c2, .bool c3, .bool c4, .bool c5, .bool c6, .bool c7, .bool c8, .bool c9, .bool c10, .bool c11, .bool c12, .bool c13, .bool c14, .bool c15, .bool c16, .bool c17, .bool c18, .bool c19]] true 0] && sameH ([.arr 20 el0 true 0, .arr 2 [.agg [.int .i64 a, .int .i64 b]] true 0, .arr 20 [.agg [.bool c0, .bool c1, .bool c2, .bool c3, .bool c4, .bool c5, .bool c6, .bool c7, .bool c8, .bool c9, .bool c10, .bool c11, .bool c12, .bool c13, .bool c14, .bool c15, .bool c16, .bool c17, .bool c18, .bool c19]] true 0] : Heap) [.arr 20 el0 true 0, .arr 2 [.agg [.int .i64 a, .int .i64 b]] true 0, .arr 20 [.agg [.bool c0, .bool c1, .bool c2, .bool c3, .bool c4, .bool c5, .bool c6, .bool c7, .bool c8, .bool c9, .bool c10, .bool c11, .bool c12, .bool c13, .bool c14, .bool c15, .bool c16, .bool c17, .bool c18, .bool c19]] true 0]) && true)) = true) : RunsTo Try.prog polB 58 (sub [1, 1, 1, 1, 0, 1, 0, 0, 1, 1, 0, 0, 1, 1, 1, 1] B58) (env58 (.int .i64 n) (.imm .arg 2 lc) (.imm .lit 20 []) (.bool false) (.sl 0 0 m (some m) m 20) .undef (.ptr 1 0 0 1) (.ptr 2 0 0 1) .undef .undef (.int .i64 (m : Int)) (.int .i64 (m : Int)) (.imm .arg 2 lc) (.int .i64 (lc.length : Int)) (.int .i64 (j : Int)) (.agg cb) (.int .i64 (q : Int))) [.arr 20 els true 0, .arr 2 [.agg [.int .i64 a, .int .i64 b]] true 0, .arr 20 [.agg [.bool c0, .bool c1, .bool c2, .bool c3, .bool c4, .bool c5, .bool c6, .bool c7, .bool c8, .bool c9, .bool c10, .bool c11, .bool c12, .bool c13, .bool c14, .bool c15, .bool c16, .bool c17, .bool c18, .bool c19]] true 0] (.normal) (polB.keys 58) (env58 (.int .i64 n) (.imm .arg 2 lc) (.imm .lit 20 []) (.bool false) (.sl 0 0 m (some m) m 20) .undef (.ptr 1 0 0 1) (.ptr 2 0 0 1) .undef .undef (.int .i64 (m : Int)) (.int .i64 (m : Int)) (.imm .arg 2 lc) (.int .i64 (lc.length : Int)) (.int .i64 (j : Int)) (.agg cb) (.int .i64 (q : Int))) [.arr 20 el1 true 0, .arr 2 [.agg [.int .i64 a, .int .i64 b]] true 0, .arr 20 [.agg [.bool c0, .bool c1, .bool c2, .bool c3, .bool c4, .bool c5, .bool c6, .bool c7, .bool c8, .bool c9, .bool c10, .bool c11, .bool c12, .bool c13, .bool c14, .bool c15, .bool c16, .bool c17, .bool c18, .bool c19]] true 0] :=
  RunsTo.hint 1 60 [⟨20, 8, .ptr 0 ((a).toNat) 0 m, [.arr 20 els true 0, .arr 2 [.agg [.int .i64 a, .int .i64 b]] true 0, .arr 20 [.agg [.bool c0, .bool c1, .bool c2, .bool c3, .bool c4, .bool c5, .bool c6, .bool c7, .bool c8, .bool c9, .bool c10, .bool c11, .bool c12, .bool c13, .bool c14, .bool c15, .bool c16, .bool c17, .bool c18, .bool c19]] true 0]⟩, ⟨20, 9, .tuple [], [.arr 20 el0 true 0, .arr 2 [.agg [.int .i64 a, .int .i64 b]] true 0, .arr 20 [.agg [.bool c0, .bool c1, .bool c2, .bool c3, .bool c4, .bool c5, .bool c6, .bool c7, .bool c8, .bool c9, .bool c10, .bool c11, .bool c12, .bool c13, .bool c14, .bool c15, .bool c16, .bool c17, .bool c18, .bool c19]] true 0]⟩, ⟨20, 10, .ptr 0 ((b).toNat) 0 m, [.arr 20 el0 true 0, .arr 2 [.agg [.int .i64 a, .int .i64 b]] true 0, .arr 20 [.agg [.bool c0, .bool c1, .bool c2, .bool c3, .bool c4, .bool c5, .bool c6, .bool c7, .bool c8, .bool c9, .bool c10, .bool c11, .bool c12, .bool c13, .bool c14, .bool c15, .bool c16, .bool c17, .bool c18, .bool c19]] true 0]⟩, ⟨20, 11, .tuple [], [.arr 20 el1 true 0, .arr 2 [.agg [.int .i64 a, .int .i64 b]] true 0, .arr 20 [.agg [.bool c0, .bool c1, .bool c2, .bool c3, .bool c4, .bool c5, .bool c6, .bool c7, .bool c8, .bool c9, .bool c10, .bool c11, .bool c12, .bool c13, .bool c14, .bool c15, .bool c16, .bool c17, .bool c18, .bool c19]] true 0]⟩] fun k hk => by
    obtain ⟨k, rfl⟩ : ∃ n, k = n + 1 := ⟨k - 1, by omega⟩
    exact ⟨[((same (.int .i64 b) (.int .i64 b) && sameH ([.arr 20 els true 0, .arr 2 [.agg [.int .i64 a, .int .i64 b]] true 0, .arr 20 [.agg [.bool c0, .bool c1, .bool c2, .bool c3, .bool c4, .bool c5, .bool c6, .bool c7, .bool c8, .bool c9, .bool c10, .bool c11, .bool c12, .bool c13, .bool c14, .bool c15, .bool c16, .bool c17, .bool c18, .bool c19]] true 0] : Heap) [.arr 20 els true 0, .arr 2 [.agg [.int .i64 a, .int .i64 b]] true 0, .arr 20 [.agg [.bool c0, .bool c1, .bool c2, .bool c3, .bool c4, .bool c5, .bool c6, .bool c7, .bool c8, .bool c9, .bool c10, .bool c11, .bool c12, .bool c13, .bool c14, .bool c15, .bool c16, .bool c17, .bool c18, .bool c19]] true 0] && sameH ([.arr 20 el0 true 0, .arr 2 [.agg [.int .i64 a, .int .i64 b]] true 0, .arr 20 [.agg [.bool c0, .bool c1, .bool c2, .bool c3, .bool c4, .bool c5, .bool c6, .bool c7, .bool c8, .bool c9, .bool c10, .bool c11, .bool c12, .bool c13, .bool c14, .bool c15, .bool c16, .bool c17, .bool c18, .bool c19]] true 0] : Heap) [.arr 20 el0 true 0, .arr 2 [.agg [.int .i64 a, .int .i64 b]] true 0, .arr 20 [.agg [.bool c0, .bool c1, .bool c2, .bool c3, .bool c4, .bool c5, .bool c6, .bool c7, .bool c8, .bool c9, .bool c10, .bool c11, .bool c12, .bool c13, .bool c14, .bool c15, .bool c16, .bool c17, .bool c18, .bool c19]] true 0]) && ((same (.agg [.bool c0, .bool c1, .bool c2, .bool c3, .bool c4, .bool c5, .bool c6, .bool c7, .bool c8, .bool c9, .bool c10, .bool c11, .bool c12, .bool c13, .bool c14, .bool c15, .bool c16, .bool c17, .bool c18, .bool c19]) (.agg [.bool c0, .bool c1, .bool c2, .bool c3, .bool c4, .bool c5, .bool c6, .bool c7, .bool c8, .bool c9, .bool c10, .bool c11, .bool c12, .bool c13, .bool c14, .bool c15, .bool c16, .bool c17, .bool c18, .bool c19]) && sameH ([.arr 20 els true 0, .arr 2 [.agg [.int .i64 a, .int .i64 b]] true 0, .arr 20 [.agg [.bool c0, .bool c1, .bool c2, .bool c3, .bool c4, .bool c5, .bool c6, .bool c7, .bool c8, .bool c9, .bool c10, .bool c11, .bool c12, .bool c13, .bool c14, .bool c15, .bool c16, .bool c17, .bool c18, .bool c19]] true 0] : Heap) [.arr 20 els true 0, .arr 2 [.agg [.int .i64 a, .int .i64 b]] true 0, .arr 20 [.agg [.bool c0, .bool c1, .bool c2, .bool c3, .bool c4, .bool c5, .bool c6, .bool c7, .bool c8, .bool c9, .bool c10, .bool c11, .bool c12, .bool c13, .bool c14, .bool c15, .bool c16, .bool c17, .bool c18, .bool c19]] true 0] && sameH ([.arr 20 el0 true 0, .arr 2 [.agg [.int .i64 a, .int .i64 b]] true 0, .arr 20 [.agg [.bool c0, .bool c1, .bool c2, .bool c3, .bool c4, .bool c5, .bool c6, .bool c7, .bool c8, .bool c9, .bool c10, .bool c11, .bool c12, .bool c13, .bool c14, .bool c15, .bool c16, .bool c17, .bool c18, .bool c19]] true 0] : Heap) [.arr 20 el0 true 0, .arr 2 [.agg [.int .i64 a, .int .i64 b]] true 0, .arr 20 [.agg [.bool c0, .bool c1, .bool c2, .bool c3, .bool c4, .bool c5, .bool c6, .bool c7, .bool c8, .bool c9, .bool c10, .bool c11, .bool c12, .bool c13, .bool c14, .bool c15, .bool c16, .bool c17, .bool c18, .bool c19]] true 0]) && true)) = true, (idxV Try.prog 85 (.sl 0 0 m (some m) m 20) (.int .i64 a)).map (fun v => (v, ([.arr 20 els true 0, .arr 2 [.agg [.int .i64 a, .int .i64 b]] true 0, .arr 20 [.agg [.bool c0, .bool c1, .bool c2, .bool c3, .bool c4, .bool c5, .bool c6, .bool c7, .bool c8, .bool c9, .bool c10, .bool c11, .bool c12, .bool c13, .bool c14, .bool c15, .bool c16, .bool c17, .bool c18, .bool c19]] true 0] : Heap))) = some (.ptr 0 ((a).toNat) 0 m, [.arr 20 els true 0, .arr 2 [.agg [.int .i64 a, .int .i64 b]] true 0, .arr 20 [.agg [.bool c0, .bool c1, .bool c2, .bool c3, .bool c4, .bool c5, .bool c6, .bool c7, .bool c8, .bool c9, .bool c10, .bool c11, .bool c12, .bool c13, .bool c14, .bool c15, .bool c16, .bool c17, .bool c18, .bool c19]] true 0]), (storeV Try.prog [.arr 20 els true 0, .arr 2 [.agg [.int .i64 a, .int .i64 b]] true 0, .arr 20 [.agg [.bool c0, .bool c1, .bool c2, .bool c3, .bool c4, .bool c5, .bool c6, .bool c7, .bool c8, .bool c9, .bool c10, .bool c11, .bool c12, .bool c13, .bool c14, .bool c15, .bool c16, .bool c17, .bool c18, .bool c19]] true 0] 89 (.ptr 0 ((a).toNat) 0 m) (.agg [.bool c0, .bool c1, .bool c2, .bool c3, .bool c4, .bool c5, .bool c6, .bool c7, .bool c8, .bool c9, .bool c10, .bool c11, .bool c12, .bool c13, .bool c14, .bool c15, .bool c16, .bool c17, .bool c18, .bool c19])).map (fun H => (HV.tuple [], H)) = some (.tuple [], [.arr 20 el0 true 0, .arr 2 [.agg [.int .i64 a, .int .i64 b]] true 0, .arr 20 [.agg [.bool c0, .bool c1, .bool c2, .bool c3, .bool c4, .bool c5, .bool c6, .bool c7, .bool c8, .bool c9, .bool c10, .bool c11, .bool c12, .bool c13, .bool c14, .bool c15, .bool c16, .bool c17, .bool c18, .bool c19]] true 0]), (idxV Try.prog 85 (.sl 0 0 m (some m) m 20) (.int .i64 b)).map (fun v => (v, ([.arr 20 el0 true 0, .arr 2 [.agg [.int .i64 a, .int .i64 b]] true 0, .arr 20 [.agg [.bool c0, .bool c1, .bool c2, .bool c3, .bool c4, .bool c5, .bool c6, .bool c7, .bool c8, .bool c9, .bool c10, .bool c11, .bool c12, .bool c13, .bool c14, .bool c15, .bool c16, .bool c17, .bool c18, .bool c19]] true 0] : Heap))) = some (.ptr 0 ((b).toNat) 0 m, [.arr 20 el0 true 0, .arr 2 [.agg [.int .i64 a, .int .i64 b]] true 0, .arr 20 [.agg [.bool c0, .bool c1, .bool c2, .bool c3, .bool c4, .bool c5, .bool c6, .bool c7, .bool c8, .bool c9, .bool c10, .bool c11, .bool c12, .bool c13, .bool c14, .bool c15, .bool c16, .bool c17, .bool c18, .bool c19]] true 0]), (storeV Try.prog [.arr 20 el0 true 0, .arr 2 [.agg [.int .i64 a, .int .i64 b]] true 0, .arr 20 [.agg [.bool c0, .bool c1, .bool c2, .bool c3, .bool c4, .bool c5, .bool c6, .bool c7, .bool c8, .bool c9, .bool c10, .bool c11, .bool c12, .bool c13, .bool c14, .bool c15, .bool c16, .bool c17, .bool c18, .bool c19]] true 0] 89 (.ptr 0 ((b).toNat) 0 m) (.agg [.bool c0, .bool c1, .bool c2, .bool c3, .bool c4, .bool c5, .bool c6, .bool c7, .bool c8, .bool c9, .bool c10, .bool c11, .bool c12, .bool c13, .bool c14, .bool c15, .bool c16, .bool c17, .bool c18, .bool c19])).map (fun H => (HV.tuple [], H)) = some (.tuple [], [.arr 20 el1 true 0, .arr 2 [.agg [.int .i64 a, .int .i64 b]] true 0, .arr 20 [.agg [.bool c0, .bool c1, .bool c2, .bool c3, .bool c4, .bool c5, .bool c6, .bool c7, .bool c8, .bool c9, .bool c10, .bool c11, .bool c12, .bool c13, .bool c14, .bool c15, .bool c16, .bool c17, .bool c18, .bool c19]] true 0])], by kernel_rfl, Obls.cons (gS20) (Obls.cons (hintOp g0) (Obls.cons (hintSt g1) (Obls.cons (hintOp g2) (Obls.cons (hintSt g3) Obls.nil))))⟩
theorem k_n_0 (n : Int) (lc : List HV) (m : Nat) (els : List HV) (j q : Nat) (a b : Int) (cb : List HV) (c0 c1 c2 c3 c4 c5 c6 c7 c8 c9 c10 c11 c12 c13 c14 c15 c16 c17 c18 c19 : Bool)   : RunsTo Try.prog polB 58 (sub [1, 1, 1, 1, 0, 1, 0, 0, 1, 1, 1] B58) (env58 (.int .i64 n) (.imm .arg 2 lc) (.imm .lit 20 []) (.bool false) (.sl 0 0 m (some m) m 20) .undef (.ptr 1 0 0 1) (.ptr 2 0 0 1) .undef .undef (.int .i64 (m : Int)) (.int .i64 (m : Int)) (.imm .arg 2 lc) (.int .i64 (lc.length : Int)) (.int .i64 (j : Int)) (.agg cb) (.int .i64 (q : Int))) [.arr 20 els true 0, .arr 2 [.agg [.int .i64 a, .int .i64 b]] true 0, .arr 20 [.agg [.bool c0, .bool c1, .bool c2, .bool c3, .bool c4, .bool c5, .bool c6, .bool c7, .bool c8, .bool c9, .bool c10, .bool c11, .bool c12, .bool c13, .bool c14, .bool c15, .bool c16, .bool c17, .bool c18, .bool c19]] true 0] (.normal) (polB.keys 58) (env58 (.int .i64 n) (.imm .arg 2 lc) (.imm .lit 20 []) (.bool false) (.sl 0 0 m (some m) m 20) .undef (.ptr 1 0 0 1) (.ptr 2 0 0 1) .undef .undef (.int .i64 (m : Int)) (.int .i64 (m : Int)) (.imm .arg 2 lc) (.int .i64 (lc.length : Int)) (.int .i64 (IntKind.i64.wrap ((j : Int) + 1))) (.agg cb) (.int .i64 (q : Int))) [.arr 20 els true 0, .arr 2 [.agg [.int .i64 a, .int .i64 b]] true 0, .arr 20 [.agg [.bool c0, .bool c1, .bool c2, .bool c3, .bool c4, .bool c5, .bool c6, .bool c7, .bool c8, .bool c9, .bool c10, .bool c11, .bool c12, .bool c13, .bool c14, .bool c15, .bool c16, .bool c17, .bool c18, .bool c19]] true 0] :=
  RunsTo.hint 1 60 [] fun k hk => by
    obtain ⟨k, rfl⟩ : ∃ n, k = n + 1 := ⟨k - 1, by omega⟩
    exact ⟨[], by kernel_rfl, Obls.nil⟩
theorem k_z_0 (n : Int) (lc : List HV) (m : Nat) (els : List HV) (j : Nat)   : RunsTo Try.prog polB 58 (sub [1, 1, 1, 1, 1] B58) (env58 (.int .i64 n) (.imm .arg 2 lc) (.imm .lit 20 []) (.bool false) (.sl 0 0 m (some m) m 20) .undef .undef .undef .undef .undef (.int .i64 (m : Int)) (.int .i64 (m : Int)) (.imm .arg 2 lc) (.int .i64 (lc.length : Int)) (.int .i64 (j : Int)) .undef .undef) [.arr 20 els true 0] (.ret) (polB.keys 58) (env58 (.int .i64 n) (.imm .arg 2 lc) (.sl 0 0 m (some m) m 20) (.bool true) (.sl 0 0 m (some m) m 20) .undef .undef .undef .undef .undef (.int .i64 (m : Int)) (.int .i64 (m : Int)) (.imm .arg 2 lc) (.int .i64 (lc.length : Int)) (.int .i64 (j : Int)) .undef .undef) [.arr 20 els true 0] :=
  RunsTo.hint 1 60 [] fun k hk => by
    obtain ⟨k, rfl⟩ : ∃ n, k = n + 1 := ⟨k - 1, by omega⟩
    exact ⟨[], by kernel_rfl, Obls.nil⟩
end Go.Proofs.Ytmhfkhlamnapdaa
end
section
open Go Go.HL
namespace Go.Proofs.Ytmhfkhlamnapdaa
abbrev Mat := List (List Bool)
def zero20 : List Bool := List.replicate 20 false
def rowAt (M : Mat) (i : Nat) : List Bool := (M[i]?).getD []
def bitAt (r : List Bool) (i : Nat) : Bool := (r[i]?).getD false
def orRow (a b : List Bool) : List Bool := List.zipWith (· || ·) a b
def knStep (M : Mat) (i j : Nat) : Mat := (M.set i (orRow (rowAt M i) (rowAt M j))).set j (orRow (rowAt M i) (rowAt M j))
def knGo (n : Int) : List (Int × Int) → Mat → Option Mat
  | [], M => some M
  | p :: l, M => if (0 ≤ p.1 ∧ p.1 ≤ n - 1) ∧ (0 ≤ p.2 ∧ p.2 ≤ n - 1) ∧ p.1 ≠ p.2 then knGo n l (knStep M p.1.toNat p.2.toNat) else none
def diag : Nat → Nat → Mat → Mat
  | _, 0, M => M
  | j, d + 1, M => diag (j + 1) d (M.set j ((rowAt M j).set j true))
def Wf (m : Nat) (M : Mat) : Prop := M.length = m ∧ ∀ (i : Nat) (r : List Bool), M[i]? = some r → r.length = 20
theorem wrap_succ {j : Nat} (h : j < 4611686018427387904) : IntKind.i64.wrap ((j : Int) + 1) = ((j + 1 : Nat) : Int) := by rw [wrapI64]; omega
theorem rowAt_get {m : Nat} {M : Mat} (hM : Wf m M) {i : Nat} (h : i < m) : M[i]? = some (rowAt M i) ∧ (rowAt M i).length = 20 := by
  have h1 : i < M.length := by rw [hM.1]; exact h
  have h2 : M[i]? = some M[i] := List.getElem?_eq_getElem h1
  refine ⟨by simp [rowAt, h2], ?_⟩
  simp only [rowAt, h2, Option.getD_some]
  exact hM.2 i _ h2
theorem Wf.set {m : Nat} {M : Mat} (hM : Wf m M) {i : Nat} {r : List Bool} (hr : r.length = 20) : Wf m (M.set i r) := by
  refine ⟨by simp [hM.1], fun k s hk => ?_⟩
  rw [List.getElem?_set] at hk
  split at hk
  · split at hk
    · cases hk; exact hr
    · cases hk
  · exact hM.2 k s hk
theorem encM_get {m : Nat} {M : Mat} (hM : Wf m M) {i : Nat} (h : i < m) : (M.map encRow)[i]? = some (.agg ((rowAt M i).map .bool)) := by
  rw [List.getElem?_map, (rowAt_get hM h).1]; rfl
theorem bit_get {r : List Bool} (hr : r.length = 20) {i : Nat} (h : i < 20) : (r.map HV.bool)[i]? = some (.bool (bitAt r i)) := by
  rw [List.getElem?_map]
  have : r[i]? = some r[i] := List.getElem?_eq_getElem (by omega)
  simp [bitAt, this]
theorem u85 : Try.prog.underlying 85 = some (.slice 89) := by kernel_rfl
theorem u89 : Try.prog.underlying 89 = some (.array 20 4) := by kernel_rfl
theorem u4 : Try.prog.underlying 4 = some .bool := by kernel_rfl
theorem u22 : Try.prog.underlying 22 = some (.slice 33) := by kernel_rfl
theorem z89 : tySize Try.prog 89 = some 20 := by kernel_rfl
theorem z4 : tySize Try.prog 4 = some 1 := by kernel_rfl
theorem z33 : tySize Try.prog 33 = some 2 := by kernel_rfl
theorem a4 : tyAgg Try.prog 4 = false := by kernel_rfl
theorem a89 : tyAgg Try.prog 89 = true := by kernel_rfl
theorem i4 : (Try.prog.underlying 4).isSome = true := by kernel_rfl
abbrev kE (n : Int) (lc : List HV) (m : Nat) (v9 v10 v24 v25 v34 v35 v36 v70 v71 : HV) : Env :=
  env58 (.int .i64 n) (.imm .arg 2 lc) (.imm .lit 20 []) (.bool false) (.sl 0 0 m (some m) m 20) .undef v9 v10 .undef .undef v24 v25 v34 v35 v36 v70 v71
abbrev bM (M : Mat) : Blk := .arr 20 (M.map encRow) true 0
abbrev bP (a b : Int) : Blk := .arr 2 [.agg [.int .i64 a, .int .i64 b]] true 0
abbrev bR (r : List Bool) : Blk := .arr 20 [.agg (r.map .bool)] true 0
theorem idx85 {m : Nat} {n : Int} (h0 : 0 ≤ n) (h : n.toNat < m) : idxV Try.prog 85 (.sl 0 0 m (some m) m 20) (.int .i64 n) = some (.ptr 0 n.toNat 0 m) := idx_sl u85 z89 h0 h
theorem idx89 {b i m : Nat} {n : Int} (h0 : 0 ≤ n) (h : n.toNat < 20) : idxV Try.prog 89 (.ptr b i 0 m) (.int .i64 n) = some (.ptr b i n.toNat m) := idx_arr u89 z4 h0 h
theorem info89 : (Try.prog.info? 89).map (fun i => (i.size, i.bytes, i.zero.map ofConst)) = some (20, 20, some (.agg [.bool false, .bool false, .bool false, .bool false, .bool false, .bool false, .bool false, .bool false, .bool false, .bool false, .bool false, .bool false, .bool false, .bool false, .bool false, .bool false, .bool false, .bool false, .bool false, .bool false])) := by kernel_rfl
theorem known_l1 (n : Int) (lc : List HV) (m : Nat) (hm : m ≤ 20) : ∀ (d j : Nat) (M : Mat), j + d = m → Wf m M →
    RunsTo Try.prog polB 58 (sub [1, 1, 1, 0, 1, 0] B58) (kE n lc m .undef .undef (.int .i64 (m : Int)) (.int .i64 (j : Int)) .undef .undef .undef .undef .undef) [bM M]
      (.exit 0) (polB.keys 58) (kE n lc m .undef .undef (.int .i64 (m : Int)) (.int .i64 (m : Int)) .undef .undef .undef .undef .undef) [bM (diag j d M)] ∧ Wf m (diag j d M) := by
  intro d
  induction d with
  | zero =>
    intro j M hj hM
    have hj : j = m := by omega
    subst hj
    exact ⟨RunsTo.loop_out (k_l1_1 n lc j _ j (by omega)) (by simp) (by kernel_rfl) (by kernel_rfl), hM⟩
  | succ d ih =>
    intro j M hj hM
    have hjm : j < m := by omega
    obtain ⟨h1, h2⟩ := rowAt_get hM hjm
    obtain ⟨h, hw⟩ := ih (j + 1) (M.set j ((rowAt M j).set j true)) (by omega) (hM.set (by simp [h2]))
    have s1 := k_l1_0 n lc m (M.map encRow) j ((M.set j ((rowAt M j).set j true)).map encRow) (by omega)
      (by simpa using idx85 (m := m) (n := (j : Int)) (by omega) (by omega))
      (by simpa using idx89 (b := 0) (i := j) (m := m) (n := (j : Int)) (by omega) (by omega))
      (by
        rw [store_cell (H := [.arr 20 (M.map encRow) true 0]) (b := 0) (i := j) (off := j) (t := 4) rfl (by simp [hM.1]) (encM_get hM hjm) z4 rfl rfl rfl (by simp [h2]; omega)]
        simp [encRow, List.map_set])
    rw [wrap_succ (by omega)] at s1
    exact ⟨RunsTo.loop s1 (by kernel_rfl) (gc_same (by simp)) h rfl (by kernel_rfl) (by kernel_rfl), hw⟩
def orFrom : Nat → Nat → List Bool → List Bool → List Bool
  | _, 0, ra, _ => ra
  | q, d + 1, ra, rb => orFrom (q + 1) d (ra.set q (bitAt ra q || bitAt rb q)) rb
theorem orFrom_length : ∀ (d q : Nat) (ra rb : List Bool), (orFrom q d ra rb).length = ra.length
  | 0, _, _, _ => rfl
  | d + 1, q, ra, rb => by simp [orFrom, orFrom_length d]
theorem orFrom_get : ∀ (d q : Nat) (ra rb : List Bool) (i : Nat), q + d = ra.length → rb.length = ra.length → bitAt (orFrom q d ra rb) i = if q ≤ i then (bitAt ra i || bitAt rb i) else bitAt ra i
  | 0, q, ra, rb, i, h, hb => by
    simp only [orFrom]
    split
    · have h1 : ra[i]? = none := List.getElem?_eq_none (by omega)
      have h2 : rb[i]? = none := List.getElem?_eq_none (by omega)
      simp [bitAt, h1, h2]
    · rfl
  | d + 1, q, ra, rb, i, h, hb => by
    rw [orFrom, orFrom_get d (q + 1) _ rb i (by simp; omega) (by simp; omega)]
    have hs : bitAt (ra.set q (bitAt ra q || bitAt rb q)) i = if q = i then (bitAt ra q || bitAt rb q) else bitAt ra i := by
      unfold bitAt
      rw [List.getElem?_set]
      split
      · rw [if_pos (by omega)]; rfl
      · rfl
    rw [hs]
    by_cases hq : q = i
    · subst hq
      rw [if_neg (by omega), if_pos rfl, if_pos (Nat.le_refl _)]
    · rw [if_neg hq]
      by_cases h2 : q ≤ i
      · rw [if_pos (by omega), if_pos h2]
      · rw [if_neg (by omega), if_neg h2]
theorem orFrom_row (d : Nat) (ra rb : List Bool) (ha : ra.length = d) (hb : rb.length = d) : orFrom 0 d ra rb = orRow ra rb := by
  apply List.ext_getElem?
  intro i
  have h := orFrom_get d 0 ra rb i (by omega) (by omega)
  rw [if_pos (Nat.zero_le _)] at h
  have l1 := orFrom_length d 0 ra rb
  have l2 : (orRow ra rb).length = d := by simp [orRow, ha, hb]
  by_cases hi : i < d
  · have e1 : (orFrom 0 d ra rb)[i]? = some (orFrom 0 d ra rb)[i] := List.getElem?_eq_getElem (by omega)
    have e2 : ra[i]? = some ra[i] := List.getElem?_eq_getElem (by omega)
    have e3 : rb[i]? = some rb[i] := List.getElem?_eq_getElem (by omega)
    simp only [bitAt, e1, e2, e3, Option.getD_some] at h
    rw [e1, h]
    rw [orRow, List.getElem?_zipWith, e2, e3]
  · rw [List.getElem?_eq_none (by omega), List.getElem?_eq_none (by omega)]
theorem known_l3 (n : Int) (lc : List HV) (m : Nat) (els : List HV) (j : Nat) (a b : Int) (rb : List Bool) (hb : rb.length = 20) : ∀ (d q : Nat) (ra : List Bool), q + d = 20 → ra.length = 20 →
    RunsTo Try.prog polB 58 (sub [1, 1, 1, 1, 0, 1, 0, 0, 1, 1, 0, 0, 1, 1, 1, 0, 1, 0] B58) (kE n lc m (.ptr 1 0 0 1) (.ptr 2 0 0 1) (.int .i64 (m : Int)) (.int .i64 (m : Int)) (.imm .arg 2 lc) (.int .i64 (lc.length : Int)) (.int .i64 (j : Int)) (.agg (rb.map .bool)) (.int .i64 (q : Int))) [.arr 20 els true 0, bP a b, bR ra]
      (.exit 4) (polB.keys 58) (kE n lc m (.ptr 1 0 0 1) (.ptr 2 0 0 1) (.int .i64 (m : Int)) (.int .i64 (m : Int)) (.imm .arg 2 lc) (.int .i64 (lc.length : Int)) (.int .i64 (j : Int)) (.agg (rb.map .bool)) (.int .i64 ((20 : Nat) : Int))) [.arr 20 els true 0, bP a b, bR (orFrom q d ra rb)] := by
  intro d
  induction d with
  | zero =>
    intro q ra hq hra
    have hq : q = 20 := by omega
    subst hq
    exact RunsTo.loop_out (k_l3_4 n lc m els j 20 a b _ _ (by omega)) (by simp) (by kernel_rfl) (by kernel_rfl)
  | succ d ih =>
    intro q ra hq hra
    have hq20 : q < 20 := by omega
    have h := ih (q + 1) (ra.set q (bitAt ra q || bitAt rb q)) (by omega) (by simp [hra])
    have e1 : elemV Try.prog 89 (.agg (rb.map .bool)) (.int .i64 (q : Int)) = some (.bool (bitAt rb q)) := elem_arr u89 z4 a4 i4 (by omega) (by omega) (by simpa using bit_get hb hq20)
    have e2 : idxV Try.prog 89 (.ptr 2 0 0 1) (.int .i64 (q : Int)) = some (.ptr 2 0 q 1) := by simpa using idx89 (b := 2) (i := 0) (m := 1) (n := (q : Int)) (by omega) (by omega)
    have e3 : loadV Try.prog [.arr 20 els true 0, bP a b, bR ra] 4 (.ptr 2 0 q 1) = some (.bool (bitAt ra q)) := load_cell (b := 2) (i := 0) rfl rfl rfl a4 i4 (bit_get hra hq20)
    have e4 : ∀ v : Bool, storeV Try.prog [.arr 20 els true 0, bP a b, bR ra] 4 (.ptr 2 0 q 1) (.bool v) = some [.arr 20 els true 0, bP a b, bR (ra.set q v)] := fun v => by
      rw [store_cell (H := [.arr 20 els true 0, bP a b, bR ra]) (b := 2) (i := 0) (tot := 1) (off := q) rfl rfl rfl z4 rfl rfl rfl (by simp [hra]; omega)]
      simp [List.map_set]
    have fin : ∀ w, RunsTo Try.prog polB 58 (sub [1, 1, 1, 1, 0, 1, 0, 0, 1, 1, 0, 0, 1, 1, 1, 0, 1, 0, 0] B58) (kE n lc m (.ptr 1 0 0 1) (.ptr 2 0 0 1) (.int .i64 (m : Int)) (.int .i64 (m : Int)) (.imm .arg 2 lc) (.int .i64 (lc.length : Int)) (.int .i64 (j : Int)) (.agg (rb.map .bool)) (.int .i64 (q : Int))) [.arr 20 els true 0, bP a b, bR ra]
        .normal (polB.keys 58) (env58 (.int .i64 n) (.imm .arg 2 lc) (.imm .lit 20 []) (.bool false) (.sl 0 0 m (some m) m 20) .undef (.ptr 1 0 0 1) (.ptr 2 0 0 1) (.int .i64 (q : Int)) (.bool w) (.int .i64 (m : Int)) (.int .i64 (m : Int)) (.imm .arg 2 lc) (.int .i64 (lc.length : Int)) (.int .i64 (j : Int)) (.agg (rb.map .bool)) (.int .i64 ((q + 1 : Nat) : Int))) [.arr 20 els true 0, bP a b, bR (ra.set q (bitAt ra q || bitAt rb q))] →
        RunsTo Try.prog polB 58 (sub [1, 1, 1, 1, 0, 1, 0, 0, 1, 1, 0, 0, 1, 1, 1, 0, 1, 0] B58) (kE n lc m (.ptr 1 0 0 1) (.ptr 2 0 0 1) (.int .i64 (m : Int)) (.int .i64 (m : Int)) (.imm .arg 2 lc) (.int .i64 (lc.length : Int)) (.int .i64 (j : Int)) (.agg (rb.map .bool)) (.int .i64 (q : Int))) [.arr 20 els true 0, bP a b, bR ra]
      (.exit 4) (polB.keys 58) (kE n lc m (.ptr 1 0 0 1) (.ptr 2 0 0 1) (.int .i64 (m : Int)) (.int .i64 (m : Int)) (.imm .arg 2 lc) (.int .i64 (lc.length : Int)) (.int .i64 (j : Int)) (.agg (rb.map .bool)) (.int .i64 ((20 : Nat) : Int))) [.arr 20 els true 0, bP a b, bR (orFrom q (d + 1) ra rb)] :=
      fun w s1 => RunsTo.loop s1 (by kernel_rfl) (gc_same (by simp)) h rfl (by kernel_rfl) (by kernel_rfl)
    cases hbq : bitAt rb q <;> cases haq : bitAt ra q <;> simp only [hbq, haq] at e1 e3 fin
    · have s1 := k_l3_3 n lc m els j q a b (ra.map .bool) (rb.map .bool) ((ra.set q false).map .bool) (by omega) e1 e2 e3 e2 (e4 false)
      rw [wrap_succ (by omega)] at s1
      exact fin _ s1
    · have s1 := k_l3_2 n lc m els j q a b (ra.map .bool) (rb.map .bool) ((ra.set q true).map .bool) (by omega) e1 e2 e3 e2 (e4 true)
      rw [wrap_succ (by omega)] at s1
      exact fin _ s1
    · have s1 := k_l3_1 n lc m els j q a b (ra.map .bool) (rb.map .bool) ((ra.set q true).map .bool) (by omega) e1 e2 e3 e2 (e4 true)
      rw [wrap_succ (by omega)] at s1
      exact fin _ s1
    · have s1 := k_l3_0 n lc m els j q a b (ra.map .bool) (rb.map .bool) ((ra.set q true).map .bool) (by omega) e1 e2 e3 e2 (e4 true)
      rw [wrap_succ (by omega)] at s1
      exact fin _ s1
theorem len20 {r : List Bool} (h : r.length = 20) : ∃ c0 c1 c2 c3 c4 c5 c6 c7 c8 c9 c10 c11 c12 c13 c14 c15 c16 c17 c18 c19 : Bool, r = [c0, c1, c2, c3, c4, c5, c6, c7, c8, c9, c10, c11, c12, c13, c14, c15, c16, c17, c18, c19] := by
  obtain _ | ⟨c0, r⟩ := r
  · simp at h
  obtain _ | ⟨c1, r⟩ := r
  · simp at h
  obtain _ | ⟨c2, r⟩ := r
  · simp at h
  obtain _ | ⟨c3, r⟩ := r
  · simp at h
  obtain _ | ⟨c4, r⟩ := r
  · simp at h
  obtain _ | ⟨c5, r⟩ := r
  · simp at h
  obtain _ | ⟨c6, r⟩ := r
  · simp at h
  obtain _ | ⟨c7, r⟩ := r
  · simp at h
  obtain _ | ⟨c8, r⟩ := r
  · simp at h
  obtain _ | ⟨c9, r⟩ := r
  · simp at h
  obtain _ | ⟨c10, r⟩ := r
  · simp at h
  obtain _ | ⟨c11, r⟩ := r
  · simp at h
  obtain _ | ⟨c12, r⟩ := r
  · simp at h
  obtain _ | ⟨c13, r⟩ := r
  · simp at h
  obtain _ | ⟨c14, r⟩ := r
  · simp at h
  obtain _ | ⟨c15, r⟩ := r
  · simp at h
  obtain _ | ⟨c16, r⟩ := r
  · simp at h
  obtain _ | ⟨c17, r⟩ := r
  · simp at h
  obtain _ | ⟨c18, r⟩ := r
  · simp at h
  obtain _ | ⟨c19, r⟩ := r
  · simp at h
  obtain _ | ⟨_, _⟩ := r
  · exact ⟨c0, c1, c2, c3, c4, c5, c6, c7, c8, c9, c10, c11, c12, c13, c14, c15, c16, c17, c18, c19, rfl⟩
  · simp at h
abbrev k2E (n : Int) (lc : List HV) (m j : Nat) : Env := kE n lc m .undef .undef (.int .i64 (m : Int)) (.int .i64 (m : Int)) (.imm .arg 2 lc) (.int .i64 (lc.length : Int)) (.int .i64 (j : Int)) .undef .undef
/-- One call. -/
theorem known_step (n : Int) (lc : List HV) (m j : Nat) (a b : Int) (M : Mat) (hn : (m : Int) = n) (hm : m ≤ 20) (hM : Wf m M) (hj : j < lc.length) (hl : lc.length ≤ 200) (hc : lc[j]? = some (encP (a, b)))
    (h0 : 0 ≤ a ∧ a ≤ n - 1) (h1 : 0 ≤ b ∧ b ≤ n - 1) (h2 : a ≠ b) :
    ∃ E0, RunsTo Try.prog polB 58 (sub [1, 1, 1, 1, 0, 1, 0, 0] B58) (k2E n lc m j) [bM M] .normal (polB.keys 58) E0 [bM (knStep M a.toNat b.toNat), bP a b, bR (orRow (rowAt M a.toNat) (rowAt M b.toNat))] ∧
      lrestr polB 58 (sub [1, 1, 1, 1, 0, 1, 0, 0] B58) E0 = k2E n lc m (j + 1) := by
  have ham : a.toNat < m := by omega
  have hbm : b.toNat < m := by omega
  have hw : IntKind.i64.wrap (n - 1) = n - 1 := by rw [wrapI64]; omega
  obtain ⟨ra1, ra2⟩ := rowAt_get hM ham
  obtain ⟨rb1, rb2⟩ := rowAt_get hM hbm
  have s1 := k_f_0 n lc m (M.map encRow) j (by omega)
  have s2 := k_gt_0 n lc m (M.map encRow) j
  have s3 := k_h_0 n lc m (M.map encRow) j a b (idx_imm u22 z33 (by omega) (by simpa [encP] using hc))
  have s4 := k_i_1 n lc m (M.map encRow) j a b (by rw [hw]; exact h0) (by rw [hw]; exact h1) h2
  have s5 := k_j_0 n lc m (M.map encRow) j a b ((rowAt M a.toNat).map .bool) (idx85 h0.1 ham)
    (load_agg (b := 0) rfl (by simp [hM.1]) (encM_get hM ham) a89 (by rw [z89]; simp [ra2]))
    (store_agg (P := Try.prog) (H := [bM M, bP a b, bR zero20]) (t := 89) (b := 2) (i := 0) (tot := 1) (new := (rowAt M a.toNat).map HV.bool) rfl rfl rfl (by rw [z89]; simp [ra2]) (by simp [ra2, zero20]) (by simp [ra2]) (bools_cellV _) (bools_bnd _))
  have s6 := k_k_0 n lc m (M.map encRow) j a b ((rowAt M a.toNat).map .bool) ((rowAt M b.toNat).map .bool) (idx85 h1.1 hbm)
    (load_agg (b := 0) rfl (by simp [hM.1]) (encM_get hM hbm) a89 (by rw [z89]; simp [rb2]))
  have s7 := known_l3 n lc m (M.map encRow) j a b (rowAt M b.toNat) rb2 20 0 (rowAt M a.toNat) rfl ra2
  rw [orFrom_row 20 _ _ ra2 rb2] at s7
  have hro : (orRow (rowAt M a.toNat) (rowAt M b.toNat)).length = 20 := by simp [orRow, ra2, rb2]
  have hM1 : Wf m (M.set a.toNat (orRow (rowAt M a.toNat) (rowAt M b.toNat))) := hM.set hro
  have st1 : storeV Try.prog [bM M, bP a b, bR (orRow (rowAt M a.toNat) (rowAt M b.toNat))] 89 (.ptr 0 a.toNat 0 m) (.agg ((orRow (rowAt M a.toNat) (rowAt M b.toNat)).map .bool)) = some [bM (M.set a.toNat (orRow (rowAt M a.toNat) (rowAt M b.toNat))), bP a b, bR (orRow (rowAt M a.toNat) (rowAt M b.toNat))] := by
    rw [store_agg (H := [bM M, bP a b, bR (orRow (rowAt M a.toNat) (rowAt M b.toNat))]) (b := 0) rfl (by simp [hM.1]) (encM_get hM ham) (by rw [z89]; simp [hro]) (by rw [List.length_map, List.length_map, hro, ra2]) (by simp [hro]) (bools_cellV _) (bools_bnd _)]
    simp [List.map_set, encRow]
  have st2 : storeV Try.prog [bM (M.set a.toNat (orRow (rowAt M a.toNat) (rowAt M b.toNat))), bP a b, bR (orRow (rowAt M a.toNat) (rowAt M b.toNat))] 89 (.ptr 0 b.toNat 0 m) (.agg ((orRow (rowAt M a.toNat) (rowAt M b.toNat)).map .bool)) = some [bM (knStep M a.toNat b.toNat), bP a b, bR (orRow (rowAt M a.toNat) (rowAt M b.toNat))] := by
    rw [store_agg (H := [bM (M.set a.toNat (orRow (rowAt M a.toNat) (rowAt M b.toNat))), bP a b, bR (orRow (rowAt M a.toNat) (rowAt M b.toNat))]) (b := 0) rfl (by rw [List.length_map]; exact hM1.1.symm) (encM_get hM1 hbm) (by rw [z89]; simp [hro]) (by rw [List.length_map, List.length_map, hro, (rowAt_get hM1 hbm).2]) (by simp [hro]) (bools_cellV _) (bools_bnd _)]
    simp [List.map_set, encRow, knStep]
  obtain ⟨c0, c1, c2, c3, c4, c5, c6, c7, c8, c9, c10, c11, c12, c13, c14, c15, c16, c17, c18, c19, hrow⟩ := len20 hro
  rw [hrow] at s7 st1 st2 ⊢
  have s8 := k_m_0 n lc m (M.map encRow) j 20 a b ((rowAt M b.toNat).map .bool) c0 c1 c2 c3 c4 c5 c6 c7 c8 c9 c10 c11 c12 c13 c14 c15 c16 c17 c18 c19 _ _ (idx85 h0.1 ham) st1 (idx85 h1.1 hbm) st2 (by simp only [same, sameH, sameL, rows_sameL, beq_self_eq_true, Bool.and_self])
  have s9 := k_n_0 n lc m ((knStep M a.toNat b.toNat).map encRow) j 20 a b ((rowAt M b.toNat).map .bool) c0 c1 c2 c3 c4 c5 c6 c7 c8 c9 c10 c11 c12 c13 c14 c15 c16 c17 c18 c19
  rw [wrap_succ (by omega)] at s9
  have t1 := RunsTo.seq s6 (RunsTo.block_exit (c := sub [1, 1, 1, 1, 0, 1, 0, 0, 1, 1, 0, 0, 1, 1, 1, 0, 1] B58) s7 (by kernel_rfl)) (c := sub [1, 1, 1, 1, 0, 1, 0, 0, 1, 1, 0, 0, 1, 1, 1, 0] B58) (by kernel_rfl) (by kernel_rfl)
  have t2 := RunsTo.seq t1 s8 (c := sub [1, 1, 1, 1, 0, 1, 0, 0, 1, 1, 0, 0, 1, 1, 1] B58) (by kernel_rfl) (by kernel_rfl)
  have t3 := RunsTo.seq s5 t2 (c := sub [1, 1, 1, 1, 0, 1, 0, 0, 1, 1, 0, 0, 1, 1] B58) (by kernel_rfl) (by kernel_rfl)
  have t4 := RunsTo.seq s4 t3 (c := sub [1, 1, 1, 1, 0, 1, 0, 0, 1, 1, 0, 0, 1] B58) (by kernel_rfl) (by kernel_rfl)
  have t5 := RunsTo.seq s3 t4 (c := sub [1, 1, 1, 1, 0, 1, 0, 0, 1, 1, 0, 0] B58) (by kernel_rfl) (by kernel_rfl)
  have t6 := RunsTo.block_normal t5 (c := sub [1, 1, 1, 1, 0, 1, 0, 0, 1, 1, 0] B58) (i := 3) (by kernel_rfl)
  have t7 := RunsTo.seq t6 s9 (c := sub [1, 1, 1, 1, 0, 1, 0, 0, 1, 1] B58) (by kernel_rfl) (by kernel_rfl)
  have t8 := RunsTo.seq s2 t7 (c := sub [1, 1, 1, 1, 0, 1, 0, 0, 1] B58) (by kernel_rfl) (by kernel_rfl)
  have t9 := RunsTo.seq s1 t8 (c := sub [1, 1, 1, 1, 0, 1, 0, 0] B58) (by kernel_rfl) (by kernel_rfl)
  exact ⟨_, t9, by kernel_rfl⟩
theorem knStep_wf {m : Nat} {M : Mat} (hM : Wf m M) {i j : Nat} (hi : i < m) (hj : j < m) : Wf m (knStep M i j) := by
  have h : (orRow (rowAt M i) (rowAt M j)).length = 20 := by simp [orRow, (rowAt_get hM hi).2, (rowAt_get hM hj).2]
  exact (hM.set h).set h
def knBad : Env → Heap → Prop := fun E H => resultsV Try.prog Try.f58 E H = some (.tuple [.imm .lit 20 [], .bool false])
theorem res58 : Try.f58.results.toList = [.tmp 4, .tmp 5] := by kernel_rfl
theorem known_l2 (n : Int) (l : List (Int × Int)) (m : Nat) (hn : (m : Int) = n) (hm : m ≤ 20) (hl : l.length ≤ 200) : ∀ (d j : Nat) (M : Mat), j + d = l.length → Wf m M →
    (∃ M', knGo n (l.drop j) M = some M' ∧ Wf m M' ∧ RunsTo Try.prog polB 58 (sub [1, 1, 1, 1, 0, 1, 0] B58) (k2E n (l.map encP) m j) [bM M] (.exit 2) (polB.keys 58) (k2E n (l.map encP) m l.length) [bM M']) ∨
    (knGo n (l.drop j) M = none ∧ ∃ E H, RunsTo Try.prog polB 58 (sub [1, 1, 1, 1, 0, 1, 0] B58) (k2E n (l.map encP) m j) [bM M] .ret (polB.keys 58) E H ∧ knBad E H) := by
  intro d
  induction d with
  | zero =>
    intro j M hj hM
    have hj : j = l.length := by omega
    subst hj
    refine .inl ⟨M, by simp [knGo], hM, ?_⟩
    have s1 := k_f_1 n (l.map encP) m (M.map encRow) l.length (by simp)
    have s2 := k_gf_0 n (l.map encP) m (M.map encRow) l.length
    have t1 := RunsTo.seq_out s2 (by simp) (c := sub [1, 1, 1, 1, 0, 1, 0, 0, 1] B58) (b := sub [1, 1, 1, 1, 0, 1, 0, 0, 1, 1] B58) (by kernel_rfl)
    have t2 := RunsTo.seq s1 t1 (c := sub [1, 1, 1, 1, 0, 1, 0, 0] B58) (by kernel_rfl) (by kernel_rfl)
    exact RunsTo.loop_out t2 (by simp) (by kernel_rfl) (by kernel_rfl)
  | succ d ih =>
    intro j M hj hM
    have hjl : j < l.length := by omega
    obtain ⟨p, hp⟩ : ∃ p, l[j]? = some p := ⟨_, List.getElem?_eq_getElem hjl⟩
    have hd : l.drop j = p :: l.drop (j + 1) := by
      rw [List.drop_eq_getElem_cons hjl]
      rw [List.getElem?_eq_getElem hjl] at hp
      cases hp
      rfl
    obtain ⟨a, b⟩ := p
    rw [hd]
    simp only [knGo]
    have hc : (l.map encP)[j]? = some (encP (a, b)) := by rw [List.getElem?_map, hp]; rfl
    have hw : IntKind.i64.wrap (n - 1) = n - 1 := by rw [wrapI64]; omega
    by_cases hg : (0 ≤ a ∧ a ≤ n - 1) ∧ (0 ≤ b ∧ b ≤ n - 1) ∧ a ≠ b
    · rw [if_pos hg]
      obtain ⟨E0, t, hE⟩ := known_step n (l.map encP) m j a b M hn hm hM (by simpa using hjl) (by simpa using hl) hc hg.1 hg.2.1 hg.2.2
      have hM' := knStep_wf hM (i := a.toNat) (j := b.toNat) (by omega) (by omega)
      rcases ih (j + 1) (knStep M a.toNat b.toNat) (by omega) hM' with ⟨M', h1, h2, h3⟩ | ⟨h1, E, H, h3, h4⟩
      · exact .inl ⟨M', h1, h2, RunsTo.loop t hE (by kernel_rfl) h3 rfl (by kernel_rfl) (by kernel_rfl)⟩
      · exact .inr ⟨h1, E, H, RunsTo.loop t hE (by kernel_rfl) h3 rfl (by kernel_rfl) (by kernel_rfl), h4⟩
    · rw [if_neg hg]
      refine .inr ⟨rfl, ?_⟩
      have s1 := k_f_0 n (l.map encP) m (M.map encRow) j (by simp; omega)
      have s2 := k_gt_0 n (l.map encP) m (M.map encRow) j
      have s3 := k_h_0 n (l.map encP) m (M.map encRow) j a b (idx_imm u22 z33 (by omega) (by simpa [encP] using hc))
      have fin : ∀ E H, RunsTo Try.prog polB 58 (sub [1, 1, 1, 1, 0, 1, 0, 0, 1, 1, 0, 0, 1, 0] B58) (kE n (l.map encP) m (.ptr 1 0 0 1) .undef (.int .i64 (m : Int)) (.int .i64 (m : Int)) (.imm .arg 2 (l.map encP)) (.int .i64 ((l.map encP).length : Int)) (.int .i64 (j : Int)) .undef .undef) [bM M, bP a b] .ret (polB.keys 58) E H → knBad E H →
          ∃ E H, RunsTo Try.prog polB 58 (sub [1, 1, 1, 1, 0, 1, 0] B58) (k2E n (l.map encP) m j) [bM M] .ret (polB.keys 58) E H ∧ knBad E H := by
        intro E H s4 hb
        have t4 := RunsTo.seq_out s4 (by simp) (c := sub [1, 1, 1, 1, 0, 1, 0, 0, 1, 1, 0, 0, 1] B58) (b := sub [1, 1, 1, 1, 0, 1, 0, 0, 1, 1, 0, 0, 1, 1] B58) (by kernel_rfl)
        have t5 := RunsTo.seq s3 t4 (c := sub [1, 1, 1, 1, 0, 1, 0, 0, 1, 1, 0, 0] B58) (by kernel_rfl) (by kernel_rfl)
        have t6 := RunsTo.block_ret t5 (c := sub [1, 1, 1, 1, 0, 1, 0, 0, 1, 1, 0] B58) (i := 3) (by kernel_rfl)
        have t7 := RunsTo.seq_out t6 (by simp) (c := sub [1, 1, 1, 1, 0, 1, 0, 0, 1, 1] B58) (b := sub [1, 1, 1, 1, 0, 1, 0, 0, 1, 1, 1] B58) (by kernel_rfl)
        have t8 := RunsTo.seq s2 t7 (c := sub [1, 1, 1, 1, 0, 1, 0, 0, 1] B58) (by kernel_rfl) (by kernel_rfl)
        have t9 := RunsTo.seq s1 t8 (c := sub [1, 1, 1, 1, 0, 1, 0, 0] B58) (by kernel_rfl) (by kernel_rfl)
        exact ⟨E, H, RunsTo.loop_out t9 (by simp) (by kernel_rfl) (by kernel_rfl), hb⟩
      by_cases g0 : 0 ≤ a ∧ a ≤ n - 1
      · by_cases g1 : 0 ≤ b ∧ b ≤ n - 1
        · have g2 : a = b := Classical.byContradiction fun h => hg ⟨g0, g1, h⟩
          exact fin _ _ (k_i_0 n (l.map encP) m (M.map encRow) j a b (by rw [hw]; exact g0) (by rw [hw]; exact g1) g2) (by simp only [knBad, resultsV, res58]; rfl)
        · exact fin _ _ (k_i_2 n (l.map encP) m (M.map encRow) j a b (by rw [hw]; exact g0) (by rw [hw]; exact g1)) (by simp only [knBad, resultsV, res58]; rfl)
      · exact fin _ _ (k_i_3 n (l.map encP) m (M.map encRow) j a b (by rw [hw]; exact g0)) (by simp only [knBad, resultsV, res58]; rfl)
def knInit (m : Nat) : Mat := diag 0 m (List.replicate m zero20)
/-- What everyone knows in the end. -/
def knownF (n : Int) (l : List (Int × Int)) : Option Mat :=
  if (1 ≤ n ∧ n ≤ 20) ∧ l.length ≤ 200 then knGo n l (knInit n.toNat) else none
def known58 : List HV → Option HV
  | [.int .i64 n, .imm .arg 2 lc] =>
    match mapO decP lc with
    | some l => some (match knownF n l with | some M => .tuple [.own 20 (M.map encRow), .bool true] | none => .tuple [.own 20 [], .bool false])
    | none => none
  | _ => none
theorem known_run (n : Int) (l : List (Int × Int)) : ∃ E H v, RunsTo Try.prog polB 58 B58 (args0 [.int .i64 n, .imm .arg 2 (l.map encP)]) [] .ret (polB.keys 58) E H ∧ resultsV Try.prog Try.f58 E H = some v ∧
    toRes H false v = some (match knownF n l with | some M => .tuple [.own 20 (M.map encRow), .bool true] | none => .tuple [.own 20 [], .bool false]) := by
  have a1 := k_a_0 n (l.map encP)
  have bad : ∀ E, RunsTo Try.prog polB 58 (sub [1, 0] B58) (env58 (.int .i64 n) (.imm .arg 2 (l.map encP)) (.imm .lit 20 []) (.bool false) .undef .undef .undef .undef .undef .undef .undef .undef .undef .undef .undef .undef .undef) [] .ret (polB.keys 58) E [] → knBad E [] → knownF n l = none →
      ∃ E H v, RunsTo Try.prog polB 58 B58 (args0 [.int .i64 n, .imm .arg 2 (l.map encP)]) [] .ret (polB.keys 58) E H ∧ resultsV Try.prog Try.f58 E H = some v ∧
    toRes H false v = some (match knownF n l with | some M => .tuple [.own 20 (M.map encRow), .bool true] | none => .tuple [.own 20 [], .bool false]) := by
    intro E b1 hb hk
    have t1 := RunsTo.seq_out b1 (by simp) (c := sub [1] B58) (b := sub [1, 1] B58) (by kernel_rfl)
    have t2 := RunsTo.seq a1 t1 (c := B58) (by kernel_rfl) (by kernel_rfl)
    exact ⟨E, [], _, t2, hb, by rw [hk]; rfl⟩
  by_cases h1 : 1 ≤ n ∧ n ≤ 20
  · by_cases h2 : l.length ≤ 200
    · have b1 := k_b_1 n (l.map encP) h1 (by simp; omega)
      obtain ⟨m, hm⟩ : ∃ m : Nat, (m : Int) = n := ⟨n.toNat, by omega⟩
      have hmn : n.toNat = m := by omega
      have hz : [.bool false, .bool false, .bool false, .bool false, .bool false, .bool false, .bool false, .bool false, .bool false, .bool false, .bool false, .bool false, .bool false, .bool false, .bool false, .bool false, .bool false, .bool false, .bool false, .bool false] = zero20.map HV.bool := rfl
      have c1 := k_c_0 n (l.map encP) (makeV_ok u85 info89 rfl rfl (by omega) (by omega) (by rw [show roomMax = 70368744177664 from rfl]; omega))
      rw [hmn] at c1
      have hr : List.replicate m (HV.agg [.bool false, .bool false, .bool false, .bool false, .bool false, .bool false, .bool false, .bool false, .bool false, .bool false, .bool false, .bool false, .bool false, .bool false, .bool false, .bool false, .bool false, .bool false, .bool false, .bool false]) = (List.replicate m zero20).map encRow := by
        rw [List.map_replicate]; rfl
      rw [hr] at c1
      have hW : Wf m (List.replicate m zero20) := ⟨by simp, fun i r hi => by
        rw [List.getElem?_replicate] at hi
        split at hi
        · cases hi; rfl
        · cases hi⟩
      have d1 := k_d_0 n (l.map encP) m ((List.replicate m zero20).map encRow)
      obtain ⟨e1, hW1⟩ := known_l1 n (l.map encP) m (by omega) m 0 (List.replicate m zero20) (by omega) hW
      have f1 := k_e_0 n (l.map encP) m ((knInit m).map encRow)
      have u1 := RunsTo.seq d1 (RunsTo.block_exit (c := sub [1, 1, 1, 0, 1] B58) e1 (by kernel_rfl)) (c := sub [1, 1, 1, 0] B58) (by kernel_rfl) (by kernel_rfl)
      have hk : knownF n l = knGo n l (knInit m) := by rw [knownF, if_pos ⟨h1, h2⟩, hmn]
      have up : ∀ x E H, RunsTo Try.prog polB 58 (sub [1, 1, 1, 1] B58) (kE n (l.map encP) m .undef .undef (.int .i64 (m : Int)) (.int .i64 (m : Int)) .undef .undef .undef .undef .undef) [bM (knInit m)] x (polB.keys 58) E H → RunsTo Try.prog polB 58 B58 (args0 [.int .i64 n, .imm .arg 2 (l.map encP)]) [] x (polB.keys 58) E H := by
        intro x E H t
        have t1 := RunsTo.seq u1 t (c := sub [1, 1, 1] B58) (by kernel_rfl) (by kernel_rfl)
        have t2 := RunsTo.seq c1 t1 (c := sub [1, 1] B58) (by kernel_rfl) (by kernel_rfl)
        have t3 := RunsTo.seq b1 t2 (c := sub [1] B58) (by kernel_rfl) (by kernel_rfl)
        exact RunsTo.seq a1 t3 (c := B58) (by kernel_rfl) (by kernel_rfl)
      rcases known_l2 n l m hm (by omega) h2 l.length 0 (knInit m) (by omega) hW1 with ⟨M', g1, g2, g3⟩ | ⟨g1, E, H, g3, g4⟩
      · have z1 := k_z_0 n (l.map encP) m (M'.map encRow) l.length
        have t1 := RunsTo.seq f1 (RunsTo.block_exit (c := sub [1, 1, 1, 1, 0, 1] B58) g3 (by kernel_rfl)) (c := sub [1, 1, 1, 1, 0] B58) (by kernel_rfl) (by kernel_rfl)
        have t2 := RunsTo.seq t1 z1 (c := sub [1, 1, 1, 1] B58) (by kernel_rfl) (by kernel_rfl)
        refine ⟨_, _, _, up _ _ _ t2, by simp only [resultsV, res58]; rfl, ?_⟩
        rw [hk, show knGo n l (knInit m) = some M' from g1]
        have hr := resCell_sl (H := [bM M']) (no := [0]) (b := 0) (k := 20) (m := m) (cap := some m) (els := M'.map encRow) rfl (by simp [g2.1]) (mapO_self (fun r => frz_row r) M')
        have ho : ownedAll [bM M'] false (.tuple [.sl 0 0 m (some m) m 20, .bool true]) = [0] := rfl
        show toRes [bM M'] false (.tuple [.sl 0 0 m (some m) m 20, .bool true]) = _
        simp only [toRes, ho, List.nodup_cons, List.not_mem_nil, not_false_eq_true, List.nodup_nil, and_self, if_true, mapO, resVal, hr]
        rfl
      · have t1 := RunsTo.seq f1 (RunsTo.block_ret (c := sub [1, 1, 1, 1, 0, 1] B58) (i := 2) g3 (by kernel_rfl)) (c := sub [1, 1, 1, 1, 0] B58) (by kernel_rfl) (by kernel_rfl)
        have t2 := RunsTo.seq_out t1 (by simp) (c := sub [1, 1, 1, 1] B58) (b := sub [1, 1, 1, 1, 1] B58) (by kernel_rfl)
        refine ⟨_, _, _, up _ _ _ t2, g4, ?_⟩
        rw [hk, show knGo n l (knInit m) = none from g1]
        rfl
    · exact bad _ (k_b_0 n (l.map encP) h1 (by simp; omega)) (by simp only [knBad, resultsV, res58]; rfl) (by rw [knownF, if_neg (by omega)])
  · exact bad _ (k_b_2 n (l.map encP) h1) (by simp only [knBad, resultsV, res58]; rfl) (by rw [knownF, if_neg (by omega)])
end Go.Proofs.Ytmhfkhlamnapdaa
end
section
open Go Go.HL
namespace Go.Proofs.Ytmhfkhlamnapdaa
theorem fnok (F : FuncId → Option (List HV → Option HV)) (g : FuncId) (fn : Func) (h : Try.prog.funcs[g]? = some fn) : fnOk { pol with prim := F } g fn = true := by
  rw [fnOk_prim]
  exact List.all_eq_true.1 fns_ok (fn, g) (by
    rw [List.mem_zipIdx_iff_getElem?]
    simpa using h)
theorem within_ok : PrimOk Try.prog 49 withinF := by
  refine primOk_pure (pol := pol) (fn := Try.f49) (cd := B49) follows_mixed sound (by kernel_rfl) (by kernel_rfl) (fnok pol.prim _ _ (by kernel_rfl)) (by kernel_rfl) ?_
  intro args res h
  unfold withinF at h
  split at h
  · rename_i n lo hi
    cases h
    have hr : Try.f49.results.toList = [.tmp 6] := by kernel_rfl
    by_cases g0 : lo ≤ n
    · by_cases g1 : n ≤ hi
      · exact ⟨_, _, _, _, w49_0 n lo hi g0 g1, by simp, by simp only [resultsV, hr]; rfl, by rw [decide_eq_true ⟨g0, g1⟩]; rfl⟩
      · exact ⟨_, _, _, _, w49_1 n lo hi g0 g1, by simp, by simp only [resultsV, hr]; rfl, by rw [decide_eq_false (fun h => g1 h.2)]; rfl⟩
    · exact ⟨_, _, _, _, w49_2 n lo hi g0, by simp, by simp only [resultsV, hr]; rfl, by rw [decide_eq_false (fun h => g0 h.1)]; rfl⟩
  · cases h
def modF : List HV → Option HV
  | [.int .i64 a, .int .i64 n] => if 0 < n ∧ n < 9223372036854775808 then some (.int .i64 (modW a n)) else none
  | _ => none
theorem mod_ok : PrimOk Try.prog 22 modF := by
  refine primOk_pure (pol := pol) (fn := Try.f22) (cd := B22) follows_mixed sound (by kernel_rfl) (by kernel_rfl) (fnok pol.prim _ _ (by kernel_rfl)) (by kernel_rfl) ?_
  intro args res h
  unfold modF at h
  split at h
  · rename_i a n
    split at h
    · rename_i hn
      cases h
      have hr : Try.f22.results.toList = [.tmp 4] := by kernel_rfl
      refine ⟨_, _, _, _, m22_0 a n ?_, by simp, by simp only [resultsV, hr]; rfl, rfl⟩
      have : IntKind.u64.wrap n ≠ 0 := by rw [wrapU64]; omega
      simp only [binV, intBin, if_neg this, if_true]
    · cases h
  · cases h
/-- The policy whose 'awake' and 'within' are known: sound. -/
theorem soundB (n : Nat) : CallSound Try.prog (callN Try.prog polB n) := sound_prim _ (fun g f h => by
  split at h
  · rename_i hg
    cases h
    rw [eq_of_beq hg]
    exact awake_prim
  · split at h
    · rename_i hg
      cases h
      rw [eq_of_beq hg]
      exact within_ok
    · cases h) n
theorem known_ok : PrimOk Try.prog 58 known58 := by
  refine primOk_pure (pol := polB) (fn := Try.f58) (cd := B58) follows_mixed soundB (by kernel_rfl) (by kernel_rfl) (fnok polB.prim _ _ (by kernel_rfl)) (by kernel_rfl) ?_
  intro args res h
  unfold known58 at h
  split at h
  · rename_i n lc
    split at h
    · rename_i l hl
      cases h
      rw [mapO_inv decP_inv hl]
      obtain ⟨E, H, v, h1, h2, h3⟩ := known_run n l
      exact ⟨_, E, H, v, h1, by simp, h2, h3⟩
    · cases h
  · cases h
def fewestN (n : Int) : Int := if n < 4 then (n * (n - 1)).tdiv 2 else 2 * n - 4
def fewestF : List HV → Option HV
  | [.int .i64 n] => some (if 1 ≤ n ∧ n ≤ 20 then .tuple [.int .i64 (fewestN n), .int .i64 0] else .tuple [.int .i64 0, .int .i64 2])
  | _ => none
theorem fewest_ok : PrimOk Try.prog 33 fewestF := by
  refine primOk_pure (pol := polB) (fn := Try.f33) (cd := B33) follows_mixed soundB (by kernel_rfl) (by kernel_rfl) (fnok polB.prim _ _ (by kernel_rfl)) (by kernel_rfl) ?_
  intro args res h
  unfold fewestF at h
  split at h
  · rename_i n
    cases h
    have hr : Try.f33.results.toList = [.tmp 2, .tmp 3] := by kernel_rfl
    by_cases g0 : 1 ≤ n ∧ n ≤ 20
    · rw [if_pos g0]
      by_cases g1 : n < 4
      · refine ⟨_, _, _, _, f33_0 n g0 g1, by simp, by simp only [resultsV, hr]; rfl, ?_⟩
        have h1 : n = 1 ∨ n = 2 ∨ n = 3 := by omega
        rcases h1 with rfl | rfl | rfl <;> rfl
      · refine ⟨_, _, _, _, f33_1 n g0 g1, by simp, by simp only [resultsV, hr]; rfl, ?_⟩
        have : IntKind.i64.wrap (IntKind.i64.wrap (2 * n) - 4) = fewestN n := by rw [fewestN, if_neg g1, wrapI64, wrapI64]; omega
        show some (HV.tuple [.int .i64 (IntKind.i64.wrap (IntKind.i64.wrap (2 * n) - 4)), .int .i64 0]) = _
        rw [this]
    · rw [if_neg g0]
      exact ⟨_, _, _, _, f33_2 n g0, by simp, by simp only [resultsV, hr]; rfl, rfl⟩
  · cases h
end Go.Proofs.Ytmhfkhlamnapdaa
end
section
open Go Go.HL
namespace Go.Proofs.Ytmhfkhlamnapdaa
def validB (n : Int) (p : Int × Int) : Bool := decide ((0 ≤ p.1 ∧ p.1 < n) ∧ (0 ≤ p.2 ∧ p.2 < n) ∧ p.1 ≠ p.2)
end Go.Proofs.Ytmhfkhlamnapdaa
end
section
open Go Go.HL
namespace Go.Proofs.Ytmhfkhlamnapdaa
abbrev bF (l : List Bool) : Blk := .arr 1 (l.map .bool) true 0
theorem u43f : Try.prog.underlying 43 = some (.slice 4) := by kernel_rfl
theorem info4f : (Try.prog.info? 4).map (fun i => (i.size, i.bytes, i.zero.map ofConst)) = some (1, 1, some (.bool false)) := by kernel_rfl
theorem bitF {l : List Bool} {i : Nat} (h : i < l.length) : (l.map HV.bool)[i]? = some (.bool (bitAt l i)) := by
  rw [List.getElem?_map]
  have : l[i]? = some l[i] := List.getElem?_eq_getElem h
  simp [bitAt, this]
def inB (m : Nat) (p : Int × Int) : Prop := (0 ≤ p.1 ∧ p.1.toNat < m) ∧ (0 ≤ p.2 ∧ p.2.toNat < m)
end Go.Proofs.Ytmhfkhlamnapdaa
end
section
open Go Go.HL
namespace Go.Proofs.Ytmhfkhlamnapdaa
def bIn (c : Int) : List Nat → List Int × List Nat → List Int × List Nat
  | [], s => s
  | y :: l, s => bIn c l (if s.1.getD y 0 < 0 then (s.1.set y (c + 1), s.2 ++ [y]) else s)
def bGo (nb : Nat → List Nat) : Nat → Nat → List Int × List Nat → List Int × List Nat
  | 0, _, s => s
  | d + 1, i, s => match s.2[i]? with | some x => bGo nb d (i + 1) (bIn (s.1.getD x 0) (nb x) s) | none => s
def bInit (n x : Nat) : List Int × List Nat := ((List.replicate n (-1)).set x 0, [x])
def bfs (nb : Nat → List Nat) (n x : Nat) : List Int := (bGo nb n 0 (bInit n x)).1
/-- What holds all the time: the list of lengths, the list of places that are reached; no length is greater than k. -/
structure BInv (n k : Nat) (s : List Int × List Nat) : Prop where
  len : s.1.length = n
  lt : ∀ y ∈ s.2, y < n
  nodup : s.2.Nodup
  got : ∀ y, y < n → (0 ≤ s.1.getD y 0 ↔ y ∈ s.2)
  le : ∀ y, y < n → s.1.getD y 0 ≤ k
  ge : ∀ y, y < n → -1 ≤ s.1.getD y 0
theorem getD_set (l : List Int) (i j : Nat) (v : Int) (h : i < l.length) : (l.set i v).getD j 0 = if i = j then v else l.getD j 0 := by
  simp only [List.getD, List.getElem?_set]
  by_cases e : i = j
  · subst e; simp [h]
  · simp [e]
theorem nodup_lt_len {n : Nat} : ∀ {l : List Nat}, l.Nodup → (∀ y ∈ l, y < n) → l.length ≤ n := by
  intro l hl h
  have h2 : ∀ (P S : List Nat), P.Nodup → (∀ v ∈ P, v ∈ S) → P.length ≤ S.length := by
    intro P
    induction P with
    | nil => intro S _ _; simp
    | cons x P ih =>
      intro S hP h
      rw [List.nodup_cons] at hP
      have hx := h x (by simp)
      have := ih (S.erase x) hP.2 (fun v hv => by
        rw [List.mem_erase_of_ne (fun e => hP.1 (by rw [← e]; exact hv))]
        exact h v (by simp [hv]))
      rw [List.length_erase_of_mem hx] at this
      have : 0 < S.length := List.length_pos_of_mem hx
      rw [List.length_cons]; omega
  have := h2 l (List.range n) hl (fun v hv => List.mem_range.2 (h v hv))
  simpa using this
theorem BInv.qlen {n k : Nat} {s : List Int × List Nat} (h : BInv n k s) : s.2.length ≤ n := nodup_lt_len h.nodup h.lt
theorem BInv.mono {n k k' : Nat} {s : List Int × List Nat} (h : BInv n k s) (hk : k ≤ k') : BInv n k' s :=
  ⟨h.len, h.lt, h.nodup, h.got, fun y hy => by have := h.le y hy; omega, h.ge⟩
theorem BInv.step {n k : Nat} {s : List Int × List Nat} (h : BInv n k s) {c : Int} (hc : 0 ≤ c ∧ c + 1 ≤ k) {y : Nat} (hy : y < n) : BInv n k (if s.1.getD y 0 < 0 then (s.1.set y (c + 1), s.2 ++ [y]) else s) := by
  split
  · rename_i hlt
    have hn : y ∉ s.2 := fun hm => by have := (h.got y hy).2 hm; omega
    have hyl : y < s.1.length := by rw [h.len]; exact hy
    refine ⟨by simp [h.len], fun z hz => ?_, ?_, fun z hz => ?_, fun z hz => ?_, fun z hz => ?_⟩
    · rcases List.mem_append.1 hz with hz | hz
      · exact h.lt z hz
      · rw [List.mem_singleton] at hz; rw [hz]; exact hy
    · rw [List.nodup_append]
      refine ⟨h.nodup, by simp, fun a ha b hb => ?_⟩
      rw [List.mem_singleton] at hb
      rw [hb]; exact fun e => hn (by rw [← e]; exact ha)
    · rw [getD_set _ _ _ _ hyl, List.mem_append, List.mem_singleton]
      by_cases e : y = z
      · rw [if_pos e]
        exact ⟨fun _ => .inr e.symm, fun _ => by omega⟩
      · rw [if_neg e, h.got z hz]
        exact ⟨fun h => .inl h, fun h => h.resolve_right (fun e2 => e e2.symm)⟩
    · rw [getD_set _ _ _ _ hyl]
      split
      · omega
      · exact h.le z hz
    · rw [getD_set _ _ _ _ hyl]
      split
      · omega
      · exact h.ge z hz
  · exact h
theorem BInv.inn {n k : Nat} {c : Int} (hc : 0 ≤ c ∧ c + 1 ≤ k) : ∀ (l : List Nat) (s : List Int × List Nat), (∀ y ∈ l, y < n) → BInv n k s → BInv n k (bIn c l s)
  | [], _, _, h => h
  | y :: l, s, hl, h => by
    rw [bIn]
    exact BInv.inn hc l _ (fun z hz => hl z (by simp [hz])) (h.step hc (hl y (by simp)))
theorem bInit_inv {n x : Nat} (hx : x < n) : BInv n 0 (bInit n x) := by
  have hr : ∀ y, y < n → (List.replicate n (-1 : Int)).getD y 0 = -1 := fun y hy => by simp [List.getD, hy]
  have hl : x < (List.replicate n (-1 : Int)).length := by simpa using hx
  refine ⟨by simp [bInit], fun y hy => by simp [bInit] at hy; omega, by simp [bInit], fun y hy => ?_, fun y hy => ?_, fun y hy => ?_⟩
  all_goals
    show _
    simp only [bInit, getD_set _ _ _ _ hl, hr y hy]
  · rw [List.mem_singleton]
    split
    · rename_i e; exact ⟨fun _ => e.symm, fun _ => by omega⟩
    · rename_i e; exact ⟨fun h => by omega, fun h => absurd h.symm e⟩
  · split <;> omega
  · split <;> omega
/-- The places come one after the other; what is there stays. -/
theorem bIn_pre (c : Int) : ∀ (l : List Nat) (s : List Int × List Nat), ∃ t, (bIn c l s).2 = s.2 ++ t
  | [], s => ⟨[], by simp [bIn]⟩
  | y :: l, s => by
    rw [bIn]
    obtain ⟨t, ht⟩ := bIn_pre c l (if s.1.getD y 0 < 0 then (s.1.set y (c + 1), s.2 ++ [y]) else s)
    rw [ht]
    split
    · exact ⟨[y] ++ t, by simp⟩
    · exact ⟨t, rfl⟩
def encN (k : Nat) : HV := encI (k : Int)
theorem u24b : Try.prog.underlying 24 = some (.slice 3) := by kernel_rfl
theorem z3b : tySize Try.prog 3 = some 1 := by kernel_rfl
theorem a3b : tyAgg Try.prog 3 = false := by kernel_rfl
theorem i3b : (Try.prog.underlying 3).isSome = true := by kernel_rfl
abbrev bI (o : List Int) : Blk := .arr 1 (o.map encI) true 0
abbrev bNs (q : List Nat) : Blk := .arr 1 (q.map encN) true 0
/-- A list of places in a block of its own. -/
structure QOk (H : Heap) (b : Nat) (qv : HV) (q : List Nat) : Prop where
  val : ∃ cap, qv = .sl b 0 q.length cap q.length 1 ∧ (cap = none ∨ cap = some q.length)
  blk : H[b]? = some (bNs q)
theorem QOk.lenq {H : Heap} {b : Nat} {qv : HV} {q : List Nat} (h : QOk H b qv q) : lenV Try.prog H 24 qv = some (.int .i64 (q.length : Int)) := by
  obtain ⟨cap, rfl, _⟩ := h.val
  simp only [lenV, u24b]
theorem QOk.idxq {H : Heap} {b : Nat} {qv : HV} {q : List Nat} (h : QOk H b qv q) {i : Nat} (hi : i < q.length) : idxV Try.prog 24 qv (.int .i64 (i : Int)) = some (.ptr b i 0 q.length) := by
  obtain ⟨cap, rfl, _⟩ := h.val
  have := idx_sl (P := Try.prog) (t := 24) (b := b) (tot := q.length) (cap := cap) (ik := .i64) (n := (i : Int)) u24b z3b (by omega) (len := q.length) (by omega)
  simpa using this
theorem QOk.loadq {H : Heap} {b : Nat} {qv : HV} {q : List Nat} (h : QOk H b qv q) {i x : Nat} (hi : q[i]? = some x) : loadV Try.prog H 3 (.ptr b i 0 q.length) = some (.int .i64 (x : Int)) :=
  load_elem (b := b) h.blk (by simp) (by rw [List.getElem?_map, hi]; rfl) rfl a3b i3b
theorem load_out {H : Heap} {k : Nat} {o : List Int} (h : H[k]? = some (bI o)) {y : Nat} (hy : y < o.length) : loadV Try.prog H 3 (.ptr k y 0 o.length) = some (.int .i64 (o.getD y 0)) :=
  load_elem (b := k) h (by simp) (by rw [List.getElem?_map, List.getElem?_eq_getElem hy]; simp [List.getD, List.getElem?_eq_getElem hy, encI]) rfl a3b i3b
theorem store_out {H : Heap} {k : Nat} {o : List Int} (h : H[k]? = some (bI o)) {y : Nat} (hy : y < o.length) (v : Int) : storeV Try.prog H 3 (.ptr k y 0 o.length) (.int .i64 v) = some (H.set k (bI (o.set y v))) := by
  have hi : (o.map encI)[y]? = some (encI o[y]) := by rw [List.getElem?_map, List.getElem?_eq_getElem hy]; rfl
  have := store_elem (P := Try.prog) (t := 3) (b := k) (tot := o.length) (v := .int .i64 v) h (by simp) hi rfl (by intro cs h; cases h) z3b rfl rfl (by simp [bnd])
  rw [this]
  show some (H.set k (.arr 1 ((o.map encI).set y (encI v)) true 0)) = _
  rw [bI, List.map_set]
/-- From one heap to a later one: all but the block ko and the list's. -/
structure Keep (ko b b' : Nat) (H H' : Heap) : Prop where
  len : H.length ≤ H'.length
  new : b' = b ∨ H.length ≤ b'
  same : ∀ k, k < H.length → k ≠ ko → k ≠ b → H'[k]? = H[k]?
theorem Keep.refl (ko b : Nat) (H : Heap) : Keep ko b b H H := ⟨Nat.le_refl _, .inl rfl, fun _ _ _ _ => rfl⟩
theorem Keep.trans {ko b b' b'' : Nat} {H H' H'' : Heap} (h : Keep ko b b' H H') (h' : Keep ko b' b'' H' H'') : Keep ko b b'' H H'' := by
  refine ⟨Nat.le_trans h.len h'.len, ?_, fun k hk h1 h2 => ?_⟩
  · rcases h'.new with e | e
    · rw [e]; exact h.new
    · exact .inr (Nat.le_trans h.len e)
  · rw [h'.same k (Nat.lt_of_lt_of_le hk h.len) h1 (by
      rcases h.new with e | e
      · rw [e]; exact h2
      · omega), h.same k hk h1 h2]
theorem QOk.appq {H : Heap} {b : Nat} {qv : HV} {q : List Nat} (h : QOk H b qv q) (hq : q.length ≤ 1000) (y ko : Nat) : ∃ v H' b', appV H 1 8 qv [.int .i64 (y : Int)] = some (v, H') ∧ QOk H' b' v (q ++ [y]) ∧ Keep ko b b' H H' ∧ (∀ k, k < H.length → k ≠ b → H'[k]? = H[k]?) ∧ H'.length ≤ max H.length (b' + 1) := by
  obtain ⟨cap, rfl, hc⟩ := h.val
  have hb := h.blk
  have hlt : b < H.length := lt_of_get hb
  rcases hc with rfl | rfl
  · have hap := app_sl (H := H) (k := 1) (bytes := 8) (b := b) (n := q.length) (mx := 0) (els := q.map encN) (xs := [.int .i64 (y : Int)]) hb (by simp) (by simp) (by simp only [List.length_singleton, roomMax]; omega) rfl
    refine ⟨_, _, b, hap, ⟨⟨none, by simp, .inl rfl⟩, ?_⟩, ⟨by simp, .inl rfl, fun k hk _ h2 => ?_⟩, fun k hk h2 => ?_, by rw [List.length_set]; omega⟩
    · rw [List.getElem?_set_self hlt, bNs, List.map_append]; rfl
    · rw [List.getElem?_set_ne (fun e => h2 e.symm)]
    · rw [List.getElem?_set_ne (fun e => h2 e.symm)]
  · refine ⟨.sl H.length 0 (q.length + 1) none (q.length + 1) 1, H ++ [bNs (q ++ [y])], H.length, ?_, ⟨⟨none, by simp, .inl rfl⟩, by simp⟩, ⟨by simp, .inr (Nat.le_refl _), fun k hk _ _ => by rw [List.getElem?_append_left hk]⟩, fun k hk _ => by rw [List.getElem?_append_left hk], by simp⟩
    simp only [appV, hb, List.length_map]
    rw [if_neg (by simp), if_pos ⟨trivial, trivial, trivial, by simp only [List.length_singleton, roomMax]; omega⟩, if_neg (by simp), if_pos (by omega)]
    have e : (q.map encN).take q.length = q.map encN := List.take_of_length_le (by simp)
    simp only [List.drop_zero, e, bndL, bnd, List.length_singleton, bNs, List.map_append, List.map_cons, List.map_nil]
    rfl
theorem gc_le {base r : Nat} {H : Heap} (h : H.length ≤ max base r) : gc base r H = H := by
  unfold gc
  exact List.take_of_length_le (by omega)
theorem bndE_mem : ∀ {E : Env} {t : Nat} {v : HV}, (t, v) ∈ E → bnd v ≤ bndE E
  | (a, w) :: E, t, v, h => by
    rw [bndE]
    rcases List.mem_cons.1 h with h | h
    · cases h; omega
    · have := bndE_mem h; omega
theorem QOk.bnd_ {H : Heap} {b : Nat} {qv : HV} {q : List Nat} (h : QOk H b qv q) : bnd qv = b + 1 := by
  obtain ⟨cap, rfl, _⟩ := h.val
  rfl
theorem gc_get {base r k : Nat} {H : Heap} (h : k < max base r) : (gc base r H)[k]? = H[k]? := by
  unfold gc
  rw [List.getElem?_take_of_lt (by omega)]
theorem fill_step (j d : Nat) : (List.replicate j (-1 : Int) ++ List.replicate (d + 1) 0).set j (-1) = List.replicate (j + 1) (-1) ++ List.replicate d 0 := by
  rw [List.set_append_right _ _ (by simp), List.length_replicate, Nat.sub_self, List.replicate_succ (n := d), List.set_cons_zero, List.replicate_succ' (n := j), List.append_assoc]
  rfl
end Go.Proofs.Ytmhfkhlamnapdaa
end
section
open Go Go.HL
namespace Go.Proofs.Ytmhfkhlamnapdaa
def encR (r : List Nat) : HV := .imm .arg 1 (r.map encN)
def decN : HV → Option Nat | .int .i64 n => if 0 ≤ n then some n.toNat else none | _ => none
def decR : HV → Option (List Nat) | .imm .arg 1 l => mapO decN l | _ => none
theorem decN_enc (n : Nat) : decN (encN n) = some n := by simp [decN, encN, encI]
theorem decN_inv (b : HV) (a : Nat) (h : decN b = some a) : b = encN a := by
  unfold decN at h
  split at h
  · rename_i n
    split at h
    · cases h
      rename_i h0
      simp only [encN, encI]
      rw [Int.toNat_of_nonneg h0]
    · cases h
  · cases h
theorem decR_enc (r : List Nat) : decR (encR r) = some r := mapO_map decN_enc r
theorem decR_inv (b : HV) (a : List Nat) (h : decR b = some a) : b = encR a := by
  unfold decR at h
  split at h
  · rw [mapO_inv decN_inv h]; rfl
  · cases h
theorem u55b : Try.prog.underlying 55 = some (.slice 24) := by kernel_rfl
theorem z24b : tySize Try.prog 24 = some 1 := by kernel_rfl
abbrev oE (rv ks vs : List HV) (x : Int) (n : Nat) (v6 v7 v8 v10 v16 v17 v42 v43 v44 : HV) : Env :=
  env50 (.agg [.imm .arg 1 rv, .imap .arg ks vs]) (.int .i64 x) (.ptr 0 0 0 1) (.imm .lit 1 []) (.sl 1 0 n (some n) n 1) v6 v7 v8 v10 v16 v17 v42 v43 v44
abbrev bX (rv ks vs : List HV) : Blk := .arr 2 [.agg [.imm .arg 1 rv, .imap .arg ks vs]] true 0
theorem far_in (rv ks vs : List HV) (x : Int) (n : Nat) (hn : n ≤ 1000) (i c k : Nat) (hck : c + 1 ≤ k) (w : Nat) (l : List Nat) (hl : ∀ y ∈ l, y < n) (hll : l.length ≤ 1000) : ∀ (d j : Nat) (H : Heap) (b : Nat) (qv : HV) (s : List Int × List Nat), j + d = l.length → QOk H b qv s.2 → 1 < b → H[1]? = some (bI s.1) → BInv n k s → s.2[i]? = some w → s.1.getD w 0 = (c : Int) → c ≤ 1000 →
    ∃ H' b' qv' v10, RunsTo Try.prog pol 50 (sub [1, 1, 1, 1, 1, 0, 1, 0, 0, 1, 0, 0, 1, 0] B50) (oE rv ks vs x n .undef qv (.int .i64 (i : Int)) .undef .undef .undef (encR l) (.int .i64 ((l.map encN).length : Int)) (.int .i64 (j : Int))) H
      (.exit 4) (pol.keys 50) (oE rv ks vs x n .undef qv' (.int .i64 (i : Int)) v10 .undef .undef (encR l) (.int .i64 ((l.map encN).length : Int)) (.int .i64 (l.length : Int))) H' ∧
      QOk H' b' qv' (bIn c (l.drop j) s).2 ∧ H'[1]? = some (bI (bIn c (l.drop j) s).1) ∧ Keep 1 b b' H H' := by
  intro d
  induction d with
  | zero =>
    intro j H b qv s hj hq hb ho hinv hw hc hc2
    have hj : j = l.length := by omega
    subst hj
    rw [List.drop_length]
    refine ⟨H, b, qv, .undef, ?_, hq, ho, Keep.refl _ _ _⟩
    have s1 := ff_k_2 rv ks vs x n qv H i (l.map encN) l.length (by rw [List.length_map]; omega)
    exact RunsTo.loop_out s1 (by simp) (by kernel_rfl) (by kernel_rfl)
  | succ d ih =>
    intro j H b qv s hj hq hb ho hinv hw hc hc2
    have hjl : j < l.length := by omega
    rw [List.drop_eq_getElem_cons hjl, bIn]
    have hy : l[j] < n := hl _ (List.getElem_mem hjl)
    have hwn : w < n := hinv.lt _ (List.mem_of_getElem? hw)
    have hlen := hinv.len
    have g0 : (j : Int) < ((l.map encN).length : Int) := by rw [List.length_map]; omega
    have g1 : idxV Try.prog 24 (.imm .arg 1 (l.map encN)) (.int .i64 (j : Int)) = some (.vptr (.int .i64 ((l[j] : Nat) : Int))) := idx_imm u24b z3b (by omega) (by rw [Int.toNat_natCast, List.getElem?_map, List.getElem?_eq_getElem hjl]; rfl)
    have gi : ∀ y, y < n → idxV Try.prog 24 (.sl 1 0 n (some n) n 1) (.int .i64 ((y : Nat) : Int)) = some (.ptr 1 (((y : Nat) : Int).toNat) 0 n) := fun y hy => idx_sl u24b z3b (by omega) (by omega)
    have gl : ∀ y, y < n → loadV Try.prog H 3 (.ptr 1 (((y : Nat) : Int).toNat) 0 n) = some (.int .i64 (s.1.getD y 0)) := fun y hy => by
      have := load_out ho (y := y) (by omega)
      rw [hlen] at this
      rw [Int.toNat_natCast]; exact this
    by_cases hlt : s.1.getD l[j] 0 < 0
    · have hst := store_out ho (y := l[j]) (by omega) (IntKind.i64.wrap ((c : Int) + 1))
      rw [hlen] at hst
      have hq' : QOk (H.set 1 (bI (s.1.set l[j] (IntKind.i64.wrap ((c : Int) + 1))))) b qv s.2 := ⟨hq.val, by rw [List.getElem?_set_ne (by omega)]; exact hq.blk⟩
      obtain ⟨v, H', b', ha, hq2, hk, hsame, hle⟩ := hq'.appq (by have := hinv.qlen; omega) l[j] 1
      have s1 := ff_k_0 rv ks vs x n qv H i (l.map encN) j _ _ _ _ _ _ _ _ g0 g1 (gi _ hy) (gl _ hy) hlt (hq.idxq (i := i) (lt_of_get hw)) (hq.loadq hw) (gi _ hwn) (gl _ hwn) (gi _ hy) (by rw [Int.toNat_natCast, hc]; exact hst) ha
      have hwr : IntKind.i64.wrap ((c : Int) + 1) = (c : Int) + 1 := by rw [wrapI64]; omega
      rw [hwr] at hk hsame hle
      have h1 : 1 < H.length := lt_of_get ho
      rw [if_pos hlt]
      have hinv' := hinv.step (c := (c : Int)) ⟨by omega, by omega⟩ hy
      rw [if_pos hlt] at hinv'
      have hb' : 1 < b' := by
        rcases hk.new with e | e
        · omega
        · have := e; rw [List.length_set] at this; omega
      have hn1 : b ≠ 1 := by omega
      have o1 : H'[1]? = some (bI (s.1.set l[j] ((c : Int) + 1))) := by
        rw [hsame 1 (by rw [List.length_set]; exact h1) (by omega), List.getElem?_set_self h1]
      obtain ⟨H2, b2, q2, v10, r2, e1, e2, e3⟩ := ih (j + 1) H' b' v (s.1.set l[j] ((c : Int) + 1), s.2 ++ [l[j]]) (by omega) hq2 hb' o1 hinv' (by
          show (s.2 ++ [l[j]])[i]? = some w
          rw [List.getElem?_append_left (lt_of_get hw)]; exact hw) (by
          show (s.1.set l[j] ((c : Int) + 1)).getD w 0 = _
          rw [getD_set _ _ _ _ (by omega), if_neg (fun e => by rw [e, hc] at hlt; omega)]; exact hc) hc2
      refine ⟨H2, b2, q2, v10, ?_, e1, e2, ?_⟩
      · rw [wrap_succ (by omega)] at s1
        refine RunsTo.loop s1 (by kernel_rfl) (gc_le ?_) r2 rfl (by kernel_rfl) (by kernel_rfl)
        have hb := bndE_mem (E := oE rv ks vs x n .undef v (.int .i64 (i : Int)) .undef .undef .undef (encR l) (.int .i64 ((l.map encN).length : Int)) (.int .i64 ((j + 1 : Nat) : Int))) (t := 7) (v := v) (by simp [oE, env50])
        rw [hq2.bnd_] at hb
        rw [List.length_set] at hle
        omega
      · refine Keep.trans ⟨?_, hk.new.imp id (fun e => ?_), fun k hk1 h2 h3 => ?_⟩ e3
        · have := hk.len; rw [List.length_set] at this; exact this
        · rw [List.length_set] at e; exact e
        · rw [hsame k (by rw [List.length_set]; exact hk1) h3, List.getElem?_set_ne (fun e => h2 e.symm)]
    · have s1 := ff_k_1 rv ks vs x n qv H i (l.map encN) j _ _ g0 g1 (gi _ hy) (gl _ hy) hlt
      rw [if_neg hlt]
      obtain ⟨H2, b2, q2, v10, r2, e1, e2, e3⟩ := ih (j + 1) H b qv s (by omega) hq hb ho hinv hw hc hc2
      rw [wrap_succ (by omega)] at s1
      exact ⟨H2, b2, q2, v10, RunsTo.loop s1 (by kernel_rfl) (gc_same (Nat.le_refl _)) r2 rfl (by kernel_rfl) (by kernel_rfl), e1, e2, e3⟩
theorem far_out (rows : List (List Nat)) (ks vs : List HV) (x : Int) (hn : rows.length ≤ 1000) (hr : ∀ r ∈ rows, r.length ≤ 1000 ∧ ∀ y ∈ r, y < rows.length) : ∀ (d i : Nat) (H : Heap) (b : Nat) (qv : HV) (s : List Int × List Nat), i + d = rows.length → QOk H b qv s.2 → 1 < b → H[0]? = some (bX (rows.map encR) ks vs) → H[1]? = some (bI s.1) → BInv rows.length i s → i ≤ s.2.length →
    ∃ i' H' qv', RunsTo Try.prog pol 50 (sub [1, 1, 1, 1, 1, 0, 1, 0] B50) (oE (rows.map encR) ks vs x rows.length .undef qv (.int .i64 (i : Int)) .undef .undef .undef .undef .undef .undef) H
      (.exit 2) (pol.keys 50) (oE (rows.map encR) ks vs x rows.length .undef qv' (.int .i64 ((i' : Nat) : Int)) .undef .undef .undef .undef .undef .undef) H' ∧
      H'[1]? = some (bI (bGo (fun y => rows.getD y []) d i s).1) ∧ (bGo (fun y => rows.getD y []) d i s).1.length = rows.length := by
  intro d
  induction d with
  | zero =>
    intro i H b qv s hi hq hb h0 ho hinv hle
    have := hinv.qlen
    have s1 := ff_h_1 (rows.map encR) ks vs x rows.length qv H i _ hq.lenq (by omega)
    exact ⟨i, H, qv, RunsTo.loop_out (RunsTo.seq_out s1 (by simp) (c := sub [1, 1, 1, 1, 1, 0, 1, 0, 0] B50) (b := sub [1, 1, 1, 1, 1, 0, 1, 0, 0, 1] B50) (by kernel_rfl)) (by simp) (by kernel_rfl) (by kernel_rfl), ho, hinv.len⟩
  | succ d ih =>
    intro i H b qv s hi hq hb h0 ho hinv hle
    rw [bGo]
    cases hw : s.2[i]? with
    | none =>
      have s1 := ff_h_1 (rows.map encR) ks vs x rows.length qv H i _ hq.lenq (by have := List.getElem?_eq_none_iff.1 hw; omega)
      exact ⟨i, H, qv, RunsTo.loop_out (RunsTo.seq_out s1 (by simp) (c := sub [1, 1, 1, 1, 1, 0, 1, 0, 0] B50) (b := sub [1, 1, 1, 1, 1, 0, 1, 0, 0, 1] B50) (by kernel_rfl)) (by simp) (by kernel_rfl) (by kernel_rfl), ho, hinv.len⟩
    | some w =>
      have hil := lt_of_get hw
      have hwn : w < rows.length := hinv.lt _ (List.mem_of_getElem? hw)
      have hc0 := (hinv.got w hwn).2 (List.mem_of_getElem? hw)
      have hci := hinv.le w hwn
      obtain ⟨c, hc⟩ : ∃ c : Nat, s.1.getD w 0 = (c : Int) := ⟨(s.1.getD w 0).toNat, by omega⟩
      have hrow : rows[w]? = some rows[w] := List.getElem?_eq_getElem hwn
      have hgd : rows.getD w [] = rows[w] := by simp [List.getD, hrow]
      have hrw := hr _ (List.getElem_mem hwn)
      have h1 := ff_h_0 (rows.map encR) ks vs x rows.length qv H i _ hq.lenq (by omega)
      have gb : loadV Try.prog H 55 (.ptr 0 0 0 1) = some (.imm .arg 1 (rows.map encR)) := load_cell (b := 0) (off := 0) h0 rfl rfl (by kernel_rfl) (by kernel_rfl) rfl
      have gr : idxV Try.prog 55 (.imm .arg 1 (rows.map encR)) (.int .i64 ((w : Nat) : Int)) = some (.vptr (.imm .arg 1 (rows[w].map encN))) := idx_imm u55b z24b (by omega) (by rw [Int.toNat_natCast, List.getElem?_map, hrow]; rfl)
      have g1 := ff_g_0 (rows.map encR) ks vs x rows.length qv H i [] _ _ _ gb (hq.idxq hil) (hq.loadq hw) gr
      obtain ⟨H', b', qv', v10, r1, q1, o1, k1⟩ := far_in (rows.map encR) ks vs x rows.length hn i c (i + 1) (by omega) w rows[w] hrw.2 hrw.1 rows[w].length 0 H b qv s (by omega) hq hb ho (hinv.mono (by omega)) hw hc (by omega)
      rw [List.drop_zero] at q1 o1
      have hinv' := BInv.inn (c := (c : Int)) (k := i + 1) ⟨by omega, by omega⟩ rows[w] s hrw.2 (hinv.mono (by omega))
      dsimp only
      rw [hc, hgd]
      obtain ⟨t, ht⟩ := bIn_pre (c : Int) rows[w] s
      have hH1 : 1 < H.length := lt_of_get ho
      have hb' : 1 < b' := by
        rcases k1.new with e | e
        · omega
        · omega
      have m1 := ff_m_0 (rows.map encR) ks vs x rows.length qv' H' i (rows[w].map encN) rows[w].length v10
      rw [wrap_succ (by omega)] at m1
      have hbd := bndE_mem (E := oE (rows.map encR) ks vs x rows.length .undef qv' (.int .i64 ((i + 1 : Nat) : Int)) .undef .undef .undef .undef .undef .undef) (t := 7) (v := qv') (by simp [oE, env50])
      rw [q1.bnd_] at hbd
      have hg := fun k (hk : k < max H.length (bndE (oE (rows.map encR) ks vs x rows.length .undef qv' (.int .i64 ((i + 1 : Nat) : Int)) .undef .undef .undef .undef .undef .undef))) => gc_get (H := H') hk
      obtain ⟨i2, H2, q2, r2, o2, l2⟩ := ih (i + 1) (gc H.length (bndE (oE (rows.map encR) ks vs x rows.length .undef qv' (.int .i64 ((i + 1 : Nat) : Int)) .undef .undef .undef .undef .undef .undef)) H') b' qv' (bIn (c : Int) rows[w] s) (by omega)
        ⟨q1.val, by rw [hg b' (by omega)]; exact q1.blk⟩ hb' (by rw [hg 0 (by omega), k1.same 0 (by omega) (by omega) (by omega)]; exact h0) (by rw [hg 1 (by omega)]; exact o1) hinv' (by rw [ht, List.length_append]; omega)
      refine ⟨i2, H2, q2, ?_, o2, l2⟩
      have t1 := RunsTo.seq g1 (RunsTo.block_exit (c := sub [1, 1, 1, 1, 1, 0, 1, 0, 0, 1, 0, 0, 1] B50) r1 (by kernel_rfl)) (c := sub [1, 1, 1, 1, 1, 0, 1, 0, 0, 1, 0, 0] B50) (by kernel_rfl) (by kernel_rfl)
      have t2 := RunsTo.block_normal (i := 3) (c := sub [1, 1, 1, 1, 1, 0, 1, 0, 0, 1, 0] B50) t1 (by kernel_rfl)
      have t3 := RunsTo.seq t2 m1 (c := sub [1, 1, 1, 1, 1, 0, 1, 0, 0, 1] B50) (by kernel_rfl) (by kernel_rfl)
      have t4 := RunsTo.seq h1 t3 (c := sub [1, 1, 1, 1, 1, 0, 1, 0, 0] B50) (by kernel_rfl) (by kernel_rfl)
      exact RunsTo.loop t4 (by kernel_rfl) rfl r2 rfl (by kernel_rfl) (by kernel_rfl)
theorem far_fill (rv ks vs : List HV) (x : Int) (n : Nat) (hn : n ≤ 1000) : ∀ (d j : Nat), j + d = n →
    RunsTo Try.prog pol 50 (sub [1, 1, 0, 1, 0] B50) (oE rv ks vs x n .undef .undef .undef .undef (.int .i64 (n : Int)) (.int .i64 (j : Int)) .undef .undef .undef) [bX rv ks vs, bI (List.replicate j (-1) ++ List.replicate d 0)]
      (.exit 0) (pol.keys 50) (oE rv ks vs x n .undef .undef .undef .undef (.int .i64 (n : Int)) (.int .i64 (n : Int)) .undef .undef .undef) [bX rv ks vs, bI (List.replicate n (-1))] := by
  intro d
  induction d with
  | zero =>
    intro j hj
    have hj : j = n := by omega
    subst hj
    rw [List.replicate_zero, List.append_nil]
    exact RunsTo.loop_out (ff_l1_1 rv ks vs x j ((List.replicate j (-1)).map encI) j (by omega)) (by simp) (by kernel_rfl) (by kernel_rfl)
  | succ d ih =>
    intro j hj
    have h := ih (j + 1) (by omega)
    have g1 : idxV Try.prog 24 (.sl 1 0 n (some n) n 1) (.int .i64 (j : Int)) = some (.ptr 1 j 0 n) := by
      have := idx_sl (P := Try.prog) (t := 24) (b := 1) (tot := n) (cap := some n) (ik := .i64) (n := (j : Int)) u24b z3b (by omega) (len := n) (by omega)
      simpa using this
    have hlen : (List.replicate j (-1 : Int) ++ List.replicate (d + 1) 0).length = n := by simp; omega
    have hst := store_out (H := [bX rv ks vs, bI (List.replicate j (-1) ++ List.replicate (d + 1) 0)]) (k := 1) rfl (y := j) (by omega) (-1)
    rw [hlen, fill_step] at hst
    have s1 := ff_l1_0 rv ks vs x n _ j _ (by omega) g1 hst
    rw [wrap_succ (by omega)] at s1
    exact RunsTo.loop s1 (by kernel_rfl) (gc_same (Nat.le_refl _)) h rfl (by kernel_rfl) (by kernel_rfl)
def rowsOk (rows : List (List Nat)) : Bool := rows.all fun r => decide (r.length ≤ 1000) && r.all (fun y => decide (y < rows.length))
theorem rowsOk_iff {rows : List (List Nat)} : rowsOk rows = true ↔ ∀ r ∈ rows, r.length ≤ 1000 ∧ ∀ y ∈ r, y < rows.length := by
  simp only [rowsOk, List.all_eq_true, Bool.and_eq_true, decide_eq_true_eq]
def farF (rows : List (List Nat)) (x : Nat) : List Int := bfs (fun y => rows.getD y []) rows.length x
def far50 : List HV → Option HV
  | [.agg [.imm .arg 1 rv, .imap .arg ks vs], .int .i64 x] =>
    match mapO decR rv with
    | some rows => if (rows.length ≤ 1000 ∧ rowsOk rows = true) ∧ 0 ≤ x ∧ x < rows.length then some (.own 1 ((farF rows x.toNat).map encI)) else none
    | none => none
  | _ => none
theorem res50 : Try.f50.results.toList = [.tmp 4] := by kernel_rfl
theorem far_ok : PrimOk Try.prog 50 far50 := by
  refine primOk_pure (pol := pol) (fn := Try.f50) (cd := B50) follows_mixed sound (by kernel_rfl) (by kernel_rfl) (fnok pol.prim _ _ (by kernel_rfl)) (by kernel_rfl) ?_
  intro args res h
  unfold far50 at h
  split at h
  · rename_i rv ks vs x
    split at h
    · rename_i rows hrv
      split at h
      · rename_i hg
        obtain ⟨⟨hn, hok⟩, hx0, hx1⟩ := hg
        cases h
        rw [mapO_inv decR_inv hrv]
        have hr := rowsOk_iff.1 hok
        obtain ⟨w, rfl⟩ : ∃ w : Nat, x = (w : Int) := ⟨x.toNat, by omega⟩
        have hw : w < rows.length := by omega
        have a1 := ff_a_0 (rows.map encR) ks vs (w : Int)
        have hlen : (rows.map encR).length = rows.length := by simp
        have hmk := makeV_ok (P := Try.prog) (H := [bX (rows.map encR) ks vs]) (t := 24) (e := 3) (k := 1) (bt := 8) (zv := .int .i64 0) (n := (rows.length : Int)) u24b (by kernel_rfl) (by kernel_rfl) (by kernel_rfl) (by omega) (by omega) (by rw [show roomMax = 70368744177664 from rfl]; omega)
        rw [Int.toNat_natCast] at hmk
        have b1 := ff_b_0 (rows.map encR) ks vs (w : Int) (by rw [hlen]; exact hmk)
        rw [hlen] at b1
        have c1 := ff_c_0 (rows.map encR) ks vs (w : Int) rows.length (List.replicate rows.length (.int .i64 0))
        have l1 := far_fill (rows.map encR) ks vs (w : Int) rows.length hn rows.length 0 (by omega)
        have e0 : bI (List.replicate 0 (-1) ++ List.replicate rows.length 0) = .arr 1 (List.replicate rows.length (.int .i64 0)) true 0 := by simp [bI, encI]
        rw [e0] at l1
        have gi : idxV Try.prog 24 (.sl 1 0 rows.length (some rows.length) rows.length 1) (.int .i64 (w : Int)) = some (.ptr 1 ((w : Int).toNat) 0 rows.length) := idx_sl u24b z3b (by omega) (by omega)
        have hst := store_out (H := [bX (rows.map encR) ks vs, bI (List.replicate rows.length (-1))]) (k := 1) rfl (y := w) (by simpa using hw) 0
        rw [List.length_replicate] at hst
        have d1 := ff_d_0 (rows.map encR) ks vs (w : Int) rows.length _ .undef (.int .i64 (rows.length : Int)) (.int .i64 (rows.length : Int)) _ gi (by rw [Int.toNat_natCast]; exact hst)
        have e1 := ff_e_0 (rows.map encR) ks vs (w : Int) rows.length (((List.replicate rows.length (-1)).set w 0).map encI) .undef (.int .i64 (rows.length : Int)) (.int .i64 (rows.length : Int))
        have hq : QOk [bX (rows.map encR) ks vs, bI ((List.replicate rows.length (-1)).set w 0), bNs [w]] 2 (.sl 2 0 1 (some 1) 1 1) [w] := ⟨⟨some 1, rfl, .inr rfl⟩, rfl⟩
        have f1 := ff_f_0 (rows.map encR) ks vs (w : Int) rows.length .undef (.int .i64 (rows.length : Int)) (.int .i64 (rows.length : Int)) (.sl 2 0 1 (some 1) 1 1) [bX (rows.map encR) ks vs, bI ((List.replicate rows.length (-1)).set w 0), bNs [w]]
        obtain ⟨i', H', qv', r1, o1, hl1⟩ := far_out rows ks vs (w : Int) hn hr rows.length 0 _ 2 _ (bInit rows.length w) (by omega) hq (by omega) rfl rfl (bInit_inv hw) (Nat.zero_le _)
        have r1' := RunsTo.loop_in (e0 := oE (rows.map encR) ks vs (w : Int) rows.length .undef (.sl 2 0 1 (some 1) 1 1) (.int .i64 0) .undef (.int .i64 (rows.length : Int)) (.int .i64 (rows.length : Int)) .undef .undef .undef) r1 (b := sub [1, 1, 1, 1, 1, 0, 1, 0, 0] B50) (by kernel_rfl) (by kernel_rfl) (by kernel_rfl)
        have z1 := ff_z_0 (rows.map encR) ks vs (w : Int) rows.length qv' H' i'
        have t1 := RunsTo.seq f1 (RunsTo.block_exit (c := sub [1, 1, 1, 1, 1, 0, 1] B50) r1' (by kernel_rfl)) (c := sub [1, 1, 1, 1, 1, 0] B50) (by kernel_rfl) (by kernel_rfl)
        have t2 := RunsTo.seq t1 z1 (c := sub [1, 1, 1, 1, 1] B50) (by kernel_rfl) (by kernel_rfl)
        have t3 := RunsTo.seq e1 t2 (c := sub [1, 1, 1, 1] B50) (by kernel_rfl) (by kernel_rfl)
        have t4 := RunsTo.seq d1 t3 (c := sub [1, 1, 1] B50) (by kernel_rfl) (by kernel_rfl)
        have t5 := RunsTo.seq c1 (RunsTo.block_exit (c := sub [1, 1, 0, 1] B50) l1 (by kernel_rfl)) (c := sub [1, 1, 0] B50) (by kernel_rfl) (by kernel_rfl)
        have t6 := RunsTo.seq t5 t4 (c := sub [1, 1] B50) (by kernel_rfl) (by kernel_rfl)
        have t7 := RunsTo.seq b1 t6 (c := sub [1] B50) (by kernel_rfl) (by kernel_rfl)
        have t8 := RunsTo.seq a1 t7 (c := B50) (by kernel_rfl) (by kernel_rfl)
        have ho := o1
        have hr2 := resCell_sl (H := H') (no := [1]) (b := 1) (k := 1) (m := rows.length) (cap := some rows.length) (els := (farF rows w).map encI) ho (by rw [List.length_map]; exact hl1) (mapO_self (fun r => frz_int 4 r) _)
        have hown : ownedAll H' false (.sl 1 0 rows.length (some rows.length) rows.length 1) = [1] := by
          simp only [ownedAll, cellsOf, List.flatMap_cons, List.flatMap_nil, owned, ho]; rfl
        refine ⟨_, _, _, .sl 1 0 rows.length (some rows.length) rows.length 1, t8, by simp, by simp only [resultsV, res50]; rfl, ?_⟩
        show toRes _ false _ = _
        simp only [toRes, hown, List.nodup_cons, List.not_mem_nil, not_false_eq_true, List.nodup_nil, and_self, if_true, resVal, hr2, Int.toNat_natCast]
      · cases h
    · cases h
  · cases h
end Go.Proofs.Ytmhfkhlamnapdaa
end
section
open Go Go.HL
namespace Go.Proofs.Ytmhfkhlamnapdaa
set_option maxRecDepth 100000
noncomputable def B51 : Code := Try.f51.body.getD .skip
abbrev env51 (v0 v1 v2 v6 v7 v8 v9 v10 v11 v12 : HV) : Env := [(0, v0), (1, v1), (2, v2), (6, v6), (7, v7), (8, v8), (9, v9), (10, v10), (11, v11), (12, v12)]
theorem nb_a_0 (n : Int) (lc : List HV) (x : Int)   : RunsTo Try.prog pol 51 (sub [0] B51) [(0, .int .i64 n), (1, .imm .arg 2 lc), (2, .int .i64 x)] [] (.normal) (pol.keys 51) (env51 (.int .i64 n) (.imm .arg 2 lc) (.int .i64 x) (.imm .lit 1 []) .undef .undef .undef .undef .undef .undef) [] :=
  RunsTo.hint 1 60 [] fun kf hk => by
    obtain ⟨kf, rfl⟩ : ∃ n, kf = n + 1 := ⟨kf - 1, by omega⟩
    exact ⟨[], by kernel_rfl, Obls.nil⟩
theorem nb_b_0 (n : Int) (lc : List HV) (x : Int) (m : Nat)  (g0 : makeV Try.prog false 43 (.int .i64 n) (.int .i64 n) [] = some (.sl 0 0 m (some m) m 1, [.arr 1 (List.replicate m (.bool false)) true 0])) : RunsTo Try.prog pol 51 (sub [1, 0] B51) (env51 (.int .i64 n) (.imm .arg 2 lc) (.int .i64 x) (.imm .lit 1 []) .undef .undef .undef .undef .undef .undef) [] (.normal) (pol.keys 51) (env51 (.int .i64 n) (.imm .arg 2 lc) (.int .i64 x) (.imm .lit 1 []) (.sl 0 0 m (some m) m 1) .undef .undef .undef .undef .undef) [.arr 1 (List.replicate m (.bool false)) true 0] :=
  RunsTo.hint 1 60 [⟨1, 1, .sl 0 0 m (some m) m 1, [.arr 1 (List.replicate m (.bool false)) true 0]⟩] fun kf hk => by
    obtain ⟨kf, rfl⟩ : ∃ n, kf = n + 1 := ⟨kf - 1, by omega⟩
    exact ⟨[makeV Try.prog false 43 (.int .i64 n) (.int .i64 n) [] = some (.sl 0 0 m (some m) m 1, [.arr 1 (List.replicate m (.bool false)) true 0])], by kernel_rfl, Obls.cons (g0) Obls.nil⟩
theorem nb_c_0 (n : Int) (lc : List HV) (x : Int) (m : Nat) (els : List HV)   : RunsTo Try.prog pol 51 (sub [1, 1, 0, 0] B51) (env51 (.int .i64 n) (.imm .arg 2 lc) (.int .i64 x) (.imm .lit 1 []) (.sl 0 0 m (some m) m 1) .undef .undef .undef .undef .undef) [.arr 1 els true 0] (.normal) (pol.keys 51) (env51 (.int .i64 n) (.imm .arg 2 lc) (.int .i64 x) (.imm .lit 1 []) (.sl 0 0 m (some m) m 1) (.int .i64 0) .undef .undef .undef .undef) [.arr 1 els true 0] :=
  RunsTo.hint 1 60 [] fun kf hk => by
    obtain ⟨kf, rfl⟩ : ∃ n, kf = n + 1 := ⟨kf - 1, by omega⟩
    exact ⟨[], by kernel_rfl, Obls.nil⟩
theorem nb_l_0 (n : Int) (lc : List HV) (x : Int) (m : Nat) (els : List HV) (j : Nat) (x0 : Int) (x1 : Int) (x2 : Int) (x3 : Int) (el0 : List HV) (el1 : List HV) (g0 : (j : Int) < (lc.length : Int)) (g1 : idxV Try.prog 22 (.imm .arg 2 lc) (.int .i64 (j : Int)) = some (.vptr (.agg [.int .i64 x0, .int .i64 x1]))) (g2 : idxV Try.prog 22 (.imm .arg 2 lc) (.int .i64 (j : Int)) = some (.vptr (.agg [.int .i64 x2, .int .i64 x3]))) (g3 : x0 = x) (g4 : idxV Try.prog 43 (.sl 0 0 m (some m) m 1) (.int .i64 x3) = some (.ptr 0 ((x3).toNat) 0 m)) (g5 : storeV Try.prog [.arr 1 els true 0] 4 (.ptr 0 ((x3).toNat) 0 m) (.bool true) = some [.arr 1 el0 true 0]) (g6 : x3 = x) (g7 : idxV Try.prog 43 (.sl 0 0 m (some m) m 1) (.int .i64 x0) = some (.ptr 0 ((x0).toNat) 0 m)) (g8 : storeV Try.prog [.arr 1 el0 true 0] 4 (.ptr 0 ((x0).toNat) 0 m) (.bool true) = some [.arr 1 el1 true 0]) : RunsTo Try.prog pol 51 (sub [1, 1, 0, 1, 0, 0] B51) (env51 (.int .i64 n) (.imm .arg 2 lc) (.int .i64 x) (.imm .lit 1 []) (.sl 0 0 m (some m) m 1) (.int .i64 (j : Int)) .undef .undef .undef .undef) [.arr 1 els true 0] (.normal) (pol.keys 51) (env51 (.int .i64 n) (.imm .arg 2 lc) (.int .i64 x) (.imm .lit 1 []) (.sl 0 0 m (some m) m 1) (.int .i64 (IntKind.i64.wrap ((j : Int) + 1))) (.int .i64 x0) (.int .i64 x3) .undef .undef) [.arr 1 el1 true 0] :=
  RunsTo.hint 1 60 [⟨3, 3, .bool true, [.arr 1 els true 0]⟩, ⟨5, 2, .vptr (.agg [.int .i64 x0, .int .i64 x1]), [.arr 1 els true 0]⟩, ⟨5, 7, .vptr (.agg [.int .i64 x2, .int .i64 x3]), [.arr 1 els true 0]⟩, ⟨6, 2, .bool true, [.arr 1 els true 0]⟩, ⟨7, 2, .ptr 0 ((x3).toNat) 0 m, [.arr 1 els true 0]⟩, ⟨7, 3, .tuple [], [.arr 1 el0 true 0]⟩, ⟨8, 2, .bool true, [.arr 1 el0 true 0]⟩, ⟨9, 2, .ptr 0 ((x0).toNat) 0 m, [.arr 1 el0 true 0]⟩, ⟨9, 3, .tuple [], [.arr 1 el1 true 0]⟩] fun kf hk => by
    obtain ⟨kf, rfl⟩ : ∃ n, kf = n + 1 := ⟨kf - 1, by omega⟩
    exact ⟨[some (HV.bool (decide ((j : Int) < (lc.length : Int))), ([.arr 1 els true 0] : Heap)) = some (.bool true, [.arr 1 els true 0]), (idxV Try.prog 22 (.imm .arg 2 lc) (.int .i64 (j : Int))).map (fun v => (v, ([.arr 1 els true 0] : Heap))) = some (.vptr (.agg [.int .i64 x0, .int .i64 x1]), [.arr 1 els true 0]), (idxV Try.prog 22 (.imm .arg 2 lc) (.int .i64 (j : Int))).map (fun v => (v, ([.arr 1 els true 0] : Heap))) = some (.vptr (.agg [.int .i64 x2, .int .i64 x3]), [.arr 1 els true 0]), some (HV.bool (decide (x0 = x)), ([.arr 1 els true 0] : Heap)) = some (.bool true, [.arr 1 els true 0]), (idxV Try.prog 43 (.sl 0 0 m (some m) m 1) (.int .i64 x3)).map (fun v => (v, ([.arr 1 els true 0] : Heap))) = some (.ptr 0 ((x3).toNat) 0 m, [.arr 1 els true 0]), (storeV Try.prog [.arr 1 els true 0] 4 (.ptr 0 ((x3).toNat) 0 m) (.bool true)).map (fun H => (HV.tuple [], H)) = some (.tuple [], [.arr 1 el0 true 0]), some (HV.bool (decide (x3 = x)), ([.arr 1 el0 true 0] : Heap)) = some (.bool true, [.arr 1 el0 true 0]), (idxV Try.prog 43 (.sl 0 0 m (some m) m 1) (.int .i64 x0)).map (fun v => (v, ([.arr 1 el0 true 0] : Heap))) = some (.ptr 0 ((x0).toNat) 0 m, [.arr 1 el0 true 0]), (storeV Try.prog [.arr 1 el0 true 0] 4 (.ptr 0 ((x0).toNat) 0 m) (.bool true)).map (fun H => (HV.tuple [], H)) = some (.tuple [], [.arr 1 el1 true 0])], by kernel_rfl, Obls.cons (hintB (decide_eq_true g0)) (Obls.cons (hintOp g1) (Obls.cons (hintOp g2) (Obls.cons (hintB (decide_eq_true g3)) (Obls.cons (hintOp g4) (Obls.cons (hintSt g5) (Obls.cons (hintB (decide_eq_true g6)) (Obls.cons (hintOp g7) (Obls.cons (hintSt g8) Obls.nil))))))))⟩
theorem nb_l_1 (n : Int) (lc : List HV) (x : Int) (m : Nat) (els : List HV) (j : Nat) (x0 : Int) (x1 : Int) (x2 : Int) (x3 : Int) (el0 : List HV) (g0 : (j : Int) < (lc.length : Int)) (g1 : idxV Try.prog 22 (.imm .arg 2 lc) (.int .i64 (j : Int)) = some (.vptr (.agg [.int .i64 x0, .int .i64 x1]))) (g2 : idxV Try.prog 22 (.imm .arg 2 lc) (.int .i64 (j : Int)) = some (.vptr (.agg [.int .i64 x2, .int .i64 x3]))) (g3 : x0 = x) (g4 : idxV Try.prog 43 (.sl 0 0 m (some m) m 1) (.int .i64 x3) = some (.ptr 0 ((x3).toNat) 0 m)) (g5 : storeV Try.prog [.arr 1 els true 0] 4 (.ptr 0 ((x3).toNat) 0 m) (.bool true) = some [.arr 1 el0 true 0]) (g6 : ¬ (x3 = x)) : RunsTo Try.prog pol 51 (sub [1, 1, 0, 1, 0, 0] B51) (env51 (.int .i64 n) (.imm .arg 2 lc) (.int .i64 x) (.imm .lit 1 []) (.sl 0 0 m (some m) m 1) (.int .i64 (j : Int)) .undef .undef .undef .undef) [.arr 1 els true 0] (.normal) (pol.keys 51) (env51 (.int .i64 n) (.imm .arg 2 lc) (.int .i64 x) (.imm .lit 1 []) (.sl 0 0 m (some m) m 1) (.int .i64 (IntKind.i64.wrap ((j : Int) + 1))) (.int .i64 x0) (.int .i64 x3) .undef .undef) [.arr 1 el0 true 0] :=
  RunsTo.hint 1 60 [⟨3, 3, .bool true, [.arr 1 els true 0]⟩, ⟨5, 2, .vptr (.agg [.int .i64 x0, .int .i64 x1]), [.arr 1 els true 0]⟩, ⟨5, 7, .vptr (.agg [.int .i64 x2, .int .i64 x3]), [.arr 1 els true 0]⟩, ⟨6, 2, .bool true, [.arr 1 els true 0]⟩, ⟨7, 2, .ptr 0 ((x3).toNat) 0 m, [.arr 1 els true 0]⟩, ⟨7, 3, .tuple [], [.arr 1 el0 true 0]⟩, ⟨8, 2, .bool false, [.arr 1 el0 true 0]⟩] fun kf hk => by
    obtain ⟨kf, rfl⟩ : ∃ n, kf = n + 1 := ⟨kf - 1, by omega⟩
    exact ⟨[some (HV.bool (decide ((j : Int) < (lc.length : Int))), ([.arr 1 els true 0] : Heap)) = some (.bool true, [.arr 1 els true 0]), (idxV Try.prog 22 (.imm .arg 2 lc) (.int .i64 (j : Int))).map (fun v => (v, ([.arr 1 els true 0] : Heap))) = some (.vptr (.agg [.int .i64 x0, .int .i64 x1]), [.arr 1 els true 0]), (idxV Try.prog 22 (.imm .arg 2 lc) (.int .i64 (j : Int))).map (fun v => (v, ([.arr 1 els true 0] : Heap))) = some (.vptr (.agg [.int .i64 x2, .int .i64 x3]), [.arr 1 els true 0]), some (HV.bool (decide (x0 = x)), ([.arr 1 els true 0] : Heap)) = some (.bool true, [.arr 1 els true 0]), (idxV Try.prog 43 (.sl 0 0 m (some m) m 1) (.int .i64 x3)).map (fun v => (v, ([.arr 1 els true 0] : Heap))) = some (.ptr 0 ((x3).toNat) 0 m, [.arr 1 els true 0]), (storeV Try.prog [.arr 1 els true 0] 4 (.ptr 0 ((x3).toNat) 0 m) (.bool true)).map (fun H => (HV.tuple [], H)) = some (.tuple [], [.arr 1 el0 true 0]), some (HV.bool (decide (x3 = x)), ([.arr 1 el0 true 0] : Heap)) = some (.bool false, [.arr 1 el0 true 0])], by kernel_rfl, Obls.cons (hintB (decide_eq_true g0)) (Obls.cons (hintOp g1) (Obls.cons (hintOp g2) (Obls.cons (hintB (decide_eq_true g3)) (Obls.cons (hintOp g4) (Obls.cons (hintSt g5) (Obls.cons (hintB (decide_eq_false g6)) Obls.nil))))))⟩
theorem nb_l_2 (n : Int) (lc : List HV) (x : Int) (m : Nat) (els : List HV) (j : Nat) (x0 : Int) (x1 : Int) (x2 : Int) (x3 : Int) (el0 : List HV) (g0 : (j : Int) < (lc.length : Int)) (g1 : idxV Try.prog 22 (.imm .arg 2 lc) (.int .i64 (j : Int)) = some (.vptr (.agg [.int .i64 x0, .int .i64 x1]))) (g2 : idxV Try.prog 22 (.imm .arg 2 lc) (.int .i64 (j : Int)) = some (.vptr (.agg [.int .i64 x2, .int .i64 x3]))) (g3 : ¬ (x0 = x)) (g4 : x3 = x) (g5 : idxV Try.prog 43 (.sl 0 0 m (some m) m 1) (.int .i64 x0) = some (.ptr 0 ((x0).toNat) 0 m)) (g6 : storeV Try.prog [.arr 1 els true 0] 4 (.ptr 0 ((x0).toNat) 0 m) (.bool true) = some [.arr 1 el0 true 0]) : RunsTo Try.prog pol 51 (sub [1, 1, 0, 1, 0, 0] B51) (env51 (.int .i64 n) (.imm .arg 2 lc) (.int .i64 x) (.imm .lit 1 []) (.sl 0 0 m (some m) m 1) (.int .i64 (j : Int)) .undef .undef .undef .undef) [.arr 1 els true 0] (.normal) (pol.keys 51) (env51 (.int .i64 n) (.imm .arg 2 lc) (.int .i64 x) (.imm .lit 1 []) (.sl 0 0 m (some m) m 1) (.int .i64 (IntKind.i64.wrap ((j : Int) + 1))) (.int .i64 x0) (.int .i64 x3) .undef .undef) [.arr 1 el0 true 0] :=
  RunsTo.hint 1 60 [⟨3, 3, .bool true, [.arr 1 els true 0]⟩, ⟨5, 2, .vptr (.agg [.int .i64 x0, .int .i64 x1]), [.arr 1 els true 0]⟩, ⟨5, 7, .vptr (.agg [.int .i64 x2, .int .i64 x3]), [.arr 1 els true 0]⟩, ⟨6, 2, .bool false, [.arr 1 els true 0]⟩, ⟨8, 2, .bool true, [.arr 1 els true 0]⟩, ⟨9, 2, .ptr 0 ((x0).toNat) 0 m, [.arr 1 els true 0]⟩, ⟨9, 3, .tuple [], [.arr 1 el0 true 0]⟩] fun kf hk => by
    obtain ⟨kf, rfl⟩ : ∃ n, kf = n + 1 := ⟨kf - 1, by omega⟩
    exact ⟨[some (HV.bool (decide ((j : Int) < (lc.length : Int))), ([.arr 1 els true 0] : Heap)) = some (.bool true, [.arr 1 els true 0]), (idxV Try.prog 22 (.imm .arg 2 lc) (.int .i64 (j : Int))).map (fun v => (v, ([.arr 1 els true 0] : Heap))) = some (.vptr (.agg [.int .i64 x0, .int .i64 x1]), [.arr 1 els true 0]), (idxV Try.prog 22 (.imm .arg 2 lc) (.int .i64 (j : Int))).map (fun v => (v, ([.arr 1 els true 0] : Heap))) = some (.vptr (.agg [.int .i64 x2, .int .i64 x3]), [.arr 1 els true 0]), some (HV.bool (decide (x0 = x)), ([.arr 1 els true 0] : Heap)) = some (.bool false, [.arr 1 els true 0]), some (HV.bool (decide (x3 = x)), ([.arr 1 els true 0] : Heap)) = some (.bool true, [.arr 1 els true 0]), (idxV Try.prog 43 (.sl 0 0 m (some m) m 1) (.int .i64 x0)).map (fun v => (v, ([.arr 1 els true 0] : Heap))) = some (.ptr 0 ((x0).toNat) 0 m, [.arr 1 els true 0]), (storeV Try.prog [.arr 1 els true 0] 4 (.ptr 0 ((x0).toNat) 0 m) (.bool true)).map (fun H => (HV.tuple [], H)) = some (.tuple [], [.arr 1 el0 true 0])], by kernel_rfl, Obls.cons (hintB (decide_eq_true g0)) (Obls.cons (hintOp g1) (Obls.cons (hintOp g2) (Obls.cons (hintB (decide_eq_false g3)) (Obls.cons (hintB (decide_eq_true g4)) (Obls.cons (hintOp g5) (Obls.cons (hintSt g6) Obls.nil))))))⟩
theorem nb_l_3 (n : Int) (lc : List HV) (x : Int) (m : Nat) (els : List HV) (j : Nat) (x0 : Int) (x1 : Int) (x2 : Int) (x3 : Int) (g0 : (j : Int) < (lc.length : Int)) (g1 : idxV Try.prog 22 (.imm .arg 2 lc) (.int .i64 (j : Int)) = some (.vptr (.agg [.int .i64 x0, .int .i64 x1]))) (g2 : idxV Try.prog 22 (.imm .arg 2 lc) (.int .i64 (j : Int)) = some (.vptr (.agg [.int .i64 x2, .int .i64 x3]))) (g3 : ¬ (x0 = x)) (g4 : ¬ (x3 = x)) : RunsTo Try.prog pol 51 (sub [1, 1, 0, 1, 0, 0] B51) (env51 (.int .i64 n) (.imm .arg 2 lc) (.int .i64 x) (.imm .lit 1 []) (.sl 0 0 m (some m) m 1) (.int .i64 (j : Int)) .undef .undef .undef .undef) [.arr 1 els true 0] (.normal) (pol.keys 51) (env51 (.int .i64 n) (.imm .arg 2 lc) (.int .i64 x) (.imm .lit 1 []) (.sl 0 0 m (some m) m 1) (.int .i64 (IntKind.i64.wrap ((j : Int) + 1))) (.int .i64 x0) (.int .i64 x3) .undef .undef) [.arr 1 els true 0] :=
  RunsTo.hint 1 60 [⟨3, 3, .bool true, [.arr 1 els true 0]⟩, ⟨5, 2, .vptr (.agg [.int .i64 x0, .int .i64 x1]), [.arr 1 els true 0]⟩, ⟨5, 7, .vptr (.agg [.int .i64 x2, .int .i64 x3]), [.arr 1 els true 0]⟩, ⟨6, 2, .bool false, [.arr 1 els true 0]⟩, ⟨8, 2, .bool false, [.arr 1 els true 0]⟩] fun kf hk => by
    obtain ⟨kf, rfl⟩ : ∃ n, kf = n + 1 := ⟨kf - 1, by omega⟩
    exact ⟨[some (HV.bool (decide ((j : Int) < (lc.length : Int))), ([.arr 1 els true 0] : Heap)) = some (.bool true, [.arr 1 els true 0]), (idxV Try.prog 22 (.imm .arg 2 lc) (.int .i64 (j : Int))).map (fun v => (v, ([.arr 1 els true 0] : Heap))) = some (.vptr (.agg [.int .i64 x0, .int .i64 x1]), [.arr 1 els true 0]), (idxV Try.prog 22 (.imm .arg 2 lc) (.int .i64 (j : Int))).map (fun v => (v, ([.arr 1 els true 0] : Heap))) = some (.vptr (.agg [.int .i64 x2, .int .i64 x3]), [.arr 1 els true 0]), some (HV.bool (decide (x0 = x)), ([.arr 1 els true 0] : Heap)) = some (.bool false, [.arr 1 els true 0]), some (HV.bool (decide (x3 = x)), ([.arr 1 els true 0] : Heap)) = some (.bool false, [.arr 1 els true 0])], by kernel_rfl, Obls.cons (hintB (decide_eq_true g0)) (Obls.cons (hintOp g1) (Obls.cons (hintOp g2) (Obls.cons (hintB (decide_eq_false g3)) (Obls.cons (hintB (decide_eq_false g4)) Obls.nil))))⟩
theorem nb_l_4 (n : Int) (lc : List HV) (x : Int) (m : Nat) (els : List HV) (j : Nat)  (g0 : ¬ ((j : Int) < (lc.length : Int))) : RunsTo Try.prog pol 51 (sub [1, 1, 0, 1, 0, 0] B51) (env51 (.int .i64 n) (.imm .arg 2 lc) (.int .i64 x) (.imm .lit 1 []) (.sl 0 0 m (some m) m 1) (.int .i64 (j : Int)) .undef .undef .undef .undef) [.arr 1 els true 0] (.exit 0) (pol.keys 51) (env51 (.int .i64 n) (.imm .arg 2 lc) (.int .i64 x) (.imm .lit 1 []) (.sl 0 0 m (some m) m 1) (.int .i64 (j : Int)) .undef .undef .undef .undef) [.arr 1 els true 0] :=
  RunsTo.hint 1 60 [⟨3, 3, .bool false, [.arr 1 els true 0]⟩] fun kf hk => by
    obtain ⟨kf, rfl⟩ : ∃ n, kf = n + 1 := ⟨kf - 1, by omega⟩
    exact ⟨[some (HV.bool (decide ((j : Int) < (lc.length : Int))), ([.arr 1 els true 0] : Heap)) = some (.bool false, [.arr 1 els true 0])], by kernel_rfl, Obls.cons (hintB (decide_eq_false g0)) Obls.nil⟩
theorem nb_d_0 (n : Int) (lc : List HV) (x : Int) (m : Nat) (els : List HV) (j : Nat)   : RunsTo Try.prog pol 51 (sub [1, 1, 1, 0] B51) (env51 (.int .i64 n) (.imm .arg 2 lc) (.int .i64 x) (.imm .lit 1 []) (.sl 0 0 m (some m) m 1) (.int .i64 (j : Int)) .undef .undef .undef .undef) [.arr 1 els true 0] (.normal) (pol.keys 51) (env51 (.int .i64 n) (.imm .arg 2 lc) (.int .i64 x) (.imm .lit 1 []) (.sl 0 0 m (some m) m 1) (.int .i64 (j : Int)) .undef .undef (.sl 1 0 0 none 0 1) .undef) [.arr 1 els true 0, .arr 1 [] true 0] :=
  RunsTo.hint 1 60 [] fun kf hk => by
    obtain ⟨kf, rfl⟩ : ∃ n, kf = n + 1 := ⟨kf - 1, by omega⟩
    exact ⟨[], by kernel_rfl, Obls.nil⟩
theorem nb_e_0 (n : Int) (lc : List HV) (x : Int) (m : Nat) (els : List HV) (q : Nat) (row : List HV) (p : Nat)   : RunsTo Try.prog pol 51 (sub [1, 1, 1, 1, 0, 0] B51) (env51 (.int .i64 n) (.imm .arg 2 lc) (.int .i64 x) (.imm .lit 1 []) (.sl 0 0 m (some m) m 1) (.int .i64 (q : Int)) .undef .undef (.sl 1 0 p none p 1) .undef) [.arr 1 els true 0, .arr 1 row true 0] (.normal) (pol.keys 51) (env51 (.int .i64 n) (.imm .arg 2 lc) (.int .i64 x) (.imm .lit 1 []) (.sl 0 0 m (some m) m 1) (.int .i64 (q : Int)) .undef .undef (.sl 1 0 p none p 1) (.int .i64 0)) [.arr 1 els true 0, .arr 1 row true 0] :=
  RunsTo.hint 1 60 [] fun kf hk => by
    obtain ⟨kf, rfl⟩ : ∃ n, kf = n + 1 := ⟨kf - 1, by omega⟩
    exact ⟨[], by kernel_rfl, Obls.nil⟩
theorem nb_k_0 (n : Int) (lc : List HV) (x : Int) (m : Nat) (els : List HV) (row : List HV) (p : Nat) (j : Nat)  (g0 : (j : Int) < n) (g1 : idxV Try.prog 43 (.sl 0 0 m (some m) m 1) (.int .i64 (j : Int)) = some (.ptr 0 j 0 m)) (g2 : loadV Try.prog [.arr 1 els true 0, .arr 1 row true 0] 4 (.ptr 0 j 0 m) = some (.bool true)) (g3 : appV [.arr 1 els true 0, .arr 1 row true 0] 1 8 (.sl 1 0 p none p 1) [.int .i64 (j : Int)] = some (.sl 1 0 (p + 1) none (p + 1) 1, [.arr 1 els true 0, .arr 1 (row ++ [.int .i64 (j : Int)]) true 0])) : RunsTo Try.prog pol 51 (sub [1, 1, 1, 1, 0, 1, 0, 0] B51) (env51 (.int .i64 n) (.imm .arg 2 lc) (.int .i64 x) (.imm .lit 1 []) (.sl 0 0 m (some m) m 1) .undef .undef .undef (.sl 1 0 p none p 1) (.int .i64 (j : Int))) [.arr 1 els true 0, .arr 1 row true 0] (.normal) (pol.keys 51) (env51 (.int .i64 n) (.imm .arg 2 lc) (.int .i64 x) (.imm .lit 1 []) (.sl 0 0 m (some m) m 1) .undef .undef .undef (.sl 1 0 (p + 1) none (p + 1) 1) (.int .i64 (IntKind.i64.wrap ((j : Int) + 1)))) [.arr 1 els true 0, .arr 1 (row ++ [.int .i64 (j : Int)]) true 0] :=
  RunsTo.hint 1 60 [⟨12, 2, .bool true, [.arr 1 els true 0, .arr 1 row true 0]⟩, ⟨14, 2, .ptr 0 j 0 m, [.arr 1 els true 0, .arr 1 row true 0]⟩, ⟨14, 3, .bool true, [.arr 1 els true 0, .arr 1 row true 0]⟩, ⟨15, 3, .sl 1 0 (p + 1) none (p + 1) 1, [.arr 1 els true 0, .arr 1 (row ++ [.int .i64 (j : Int)]) true 0]⟩] fun kf hk => by
    obtain ⟨kf, rfl⟩ : ∃ n, kf = n + 1 := ⟨kf - 1, by omega⟩
    exact ⟨[some (HV.bool (decide ((j : Int) < n)), ([.arr 1 els true 0, .arr 1 row true 0] : Heap)) = some (.bool true, [.arr 1 els true 0, .arr 1 row true 0]), (idxV Try.prog 43 (.sl 0 0 m (some m) m 1) (.int .i64 (j : Int))).map (fun v => (v, ([.arr 1 els true 0, .arr 1 row true 0] : Heap))) = some (.ptr 0 j 0 m, [.arr 1 els true 0, .arr 1 row true 0]), (loadV Try.prog [.arr 1 els true 0, .arr 1 row true 0] 4 (.ptr 0 j 0 m)).map (fun v => (v, ([.arr 1 els true 0, .arr 1 row true 0] : Heap))) = some (.bool true, [.arr 1 els true 0, .arr 1 row true 0]), appV [.arr 1 els true 0, .arr 1 row true 0] 1 8 (.sl 1 0 p none p 1) [.int .i64 (j : Int)] = some (.sl 1 0 (p + 1) none (p + 1) 1, [.arr 1 els true 0, .arr 1 (row ++ [.int .i64 (j : Int)]) true 0])], by kernel_rfl, Obls.cons (hintB (decide_eq_true g0)) (Obls.cons (hintOp g1) (Obls.cons (hintOp g2) (Obls.cons (g3) Obls.nil)))⟩
theorem nb_k_1 (n : Int) (lc : List HV) (x : Int) (m : Nat) (els : List HV) (row : List HV) (p : Nat) (j : Nat)  (g0 : (j : Int) < n) (g1 : idxV Try.prog 43 (.sl 0 0 m (some m) m 1) (.int .i64 (j : Int)) = some (.ptr 0 j 0 m)) (g2 : loadV Try.prog [.arr 1 els true 0, .arr 1 row true 0] 4 (.ptr 0 j 0 m) = some (.bool false)) : RunsTo Try.prog pol 51 (sub [1, 1, 1, 1, 0, 1, 0, 0] B51) (env51 (.int .i64 n) (.imm .arg 2 lc) (.int .i64 x) (.imm .lit 1 []) (.sl 0 0 m (some m) m 1) .undef .undef .undef (.sl 1 0 p none p 1) (.int .i64 (j : Int))) [.arr 1 els true 0, .arr 1 row true 0] (.normal) (pol.keys 51) (env51 (.int .i64 n) (.imm .arg 2 lc) (.int .i64 x) (.imm .lit 1 []) (.sl 0 0 m (some m) m 1) .undef .undef .undef (.sl 1 0 p none p 1) (.int .i64 (IntKind.i64.wrap ((j : Int) + 1)))) [.arr 1 els true 0, .arr 1 row true 0] :=
  RunsTo.hint 1 60 [⟨12, 2, .bool true, [.arr 1 els true 0, .arr 1 row true 0]⟩, ⟨14, 2, .ptr 0 j 0 m, [.arr 1 els true 0, .arr 1 row true 0]⟩, ⟨14, 3, .bool false, [.arr 1 els true 0, .arr 1 row true 0]⟩] fun kf hk => by
    obtain ⟨kf, rfl⟩ : ∃ n, kf = n + 1 := ⟨kf - 1, by omega⟩
    exact ⟨[some (HV.bool (decide ((j : Int) < n)), ([.arr 1 els true 0, .arr 1 row true 0] : Heap)) = some (.bool true, [.arr 1 els true 0, .arr 1 row true 0]), (idxV Try.prog 43 (.sl 0 0 m (some m) m 1) (.int .i64 (j : Int))).map (fun v => (v, ([.arr 1 els true 0, .arr 1 row true 0] : Heap))) = some (.ptr 0 j 0 m, [.arr 1 els true 0, .arr 1 row true 0]), (loadV Try.prog [.arr 1 els true 0, .arr 1 row true 0] 4 (.ptr 0 j 0 m)).map (fun v => (v, ([.arr 1 els true 0, .arr 1 row true 0] : Heap))) = some (.bool false, [.arr 1 els true 0, .arr 1 row true 0])], by kernel_rfl, Obls.cons (hintB (decide_eq_true g0)) (Obls.cons (hintOp g1) (Obls.cons (hintOp g2) Obls.nil))⟩
theorem nb_k_2 (n : Int) (lc : List HV) (x : Int) (m : Nat) (els : List HV) (row : List HV) (p : Nat) (j : Nat)  (g0 : ¬ ((j : Int) < n)) : RunsTo Try.prog pol 51 (sub [1, 1, 1, 1, 0, 1, 0, 0] B51) (env51 (.int .i64 n) (.imm .arg 2 lc) (.int .i64 x) (.imm .lit 1 []) (.sl 0 0 m (some m) m 1) .undef .undef .undef (.sl 1 0 p none p 1) (.int .i64 (j : Int))) [.arr 1 els true 0, .arr 1 row true 0] (.exit 2) (pol.keys 51) (env51 (.int .i64 n) (.imm .arg 2 lc) (.int .i64 x) (.imm .lit 1 []) (.sl 0 0 m (some m) m 1) .undef .undef .undef (.sl 1 0 p none p 1) (.int .i64 (j : Int))) [.arr 1 els true 0, .arr 1 row true 0] :=
  RunsTo.hint 1 60 [⟨12, 2, .bool false, [.arr 1 els true 0, .arr 1 row true 0]⟩] fun kf hk => by
    obtain ⟨kf, rfl⟩ : ∃ n, kf = n + 1 := ⟨kf - 1, by omega⟩
    exact ⟨[some (HV.bool (decide ((j : Int) < n)), ([.arr 1 els true 0, .arr 1 row true 0] : Heap)) = some (.bool false, [.arr 1 els true 0, .arr 1 row true 0])], by kernel_rfl, Obls.cons (hintB (decide_eq_false g0)) Obls.nil⟩
theorem nb_z_0 (n : Int) (lc : List HV) (x : Int) (m : Nat) (els : List HV) (row : List HV) (p : Nat) (j : Nat)   : RunsTo Try.prog pol 51 (sub [1, 1, 1, 1, 1] B51) (env51 (.int .i64 n) (.imm .arg 2 lc) (.int .i64 x) (.imm .lit 1 []) (.sl 0 0 m (some m) m 1) .undef .undef .undef (.sl 1 0 p none p 1) (.int .i64 (j : Int))) [.arr 1 els true 0, .arr 1 row true 0] (.ret) (pol.keys 51) (env51 (.int .i64 n) (.imm .arg 2 lc) (.int .i64 x) (.sl 1 0 p none p 1) (.sl 0 0 m (some m) m 1) .undef .undef .undef (.sl 1 0 p none p 1) (.int .i64 (j : Int))) [.arr 1 els true 0, .arr 1 row true 0] :=
  RunsTo.hint 1 60 [] fun kf hk => by
    obtain ⟨kf, rfl⟩ : ∃ n, kf = n + 1 := ⟨kf - 1, by omega⟩
    exact ⟨[], by kernel_rfl, Obls.nil⟩
end Go.Proofs.Ytmhfkhlamnapdaa
end
section
open Go Go.HL
namespace Go.Proofs.Ytmhfkhlamnapdaa
theorem argP_pairs' : ∀ (l : List (Int × Int)), argPL (l.map encP) = some (l.map encP)
  | [] => rfl
  | p :: l => by simp only [List.map_cons, argPL, argP_pairs' l, encP, argP]
theorem arg_pairs' (H : Heap) (l : List (Int × Int)) : toArg H 6 (.imm .arg 2 (l.map encP)) = some (.imm .arg 2 (l.map encP)) := by
  show argP (.imm .arg 2 (l.map encP)) = _
  simp only [argP, argP_pairs']
end Go.Proofs.Ytmhfkhlamnapdaa
end
section
open Go Go.HL
namespace Go.Proofs.Ytmhfkhlamnapdaa
set_option maxRecDepth 100000
noncomputable def B34 : Code := Try.f34.body.getD .skip
abbrev env34 (v0 v1 v2 v3 v4 v5 v6 v7 v13 v14 v17 v18 : HV) : Env := [(0, v0), (1, v1), (2, v2), (3, v3), (4, v4), (5, v5), (6, v6), (7, v7), (13, v13), (14, v14), (17, v17), (18, v18)]
theorem c_a_0 (n : Int)   : RunsTo Try.prog polB 34 (sub [0] B34) [(0, .int .i64 n)] [] (.normal) (polB.keys 34) (env34 (.int .i64 n) (.ptr 0 0 0 1) (.imm .lit 2 []) (.int .i64 0) .undef .undef .undef .undef .undef .undef .undef .undef) [.arr 1 [.int .i64 n] true 0] :=
  RunsTo.hint 1 60 [] fun k hk => by
    obtain ⟨k, rfl⟩ : ∃ n, k = n + 1 := ⟨k - 1, by omega⟩
    exact ⟨[], by kernel_rfl, Obls.nil⟩
theorem c_b_1 (n : Int)  (g0 : ¬ ((1 : Int) ≤ n ∧ n ≤ (20 : Int))) : RunsTo Try.prog polB 34 (sub [1, 0] B34) (env34 (.int .i64 n) (.ptr 0 0 0 1) (.imm .lit 2 []) (.int .i64 0) .undef .undef .undef .undef .undef .undef .undef .undef) [.arr 1 [.int .i64 n] true 0] (.ret) (polB.keys 34) (env34 (.int .i64 n) (.ptr 0 0 0 1) (.imm .lit 2 []) (.int .i64 2) .undef .undef .undef .undef .undef .undef .undef .undef) [.arr 1 [.int .i64 n] true 0] :=
  RunsTo.hint 1 60 [⟨1, 1, .bool false, [.arr 1 [.int .i64 n] true 0]⟩] fun k hk => by
    obtain ⟨k, rfl⟩ : ∃ n, k = n + 1 := ⟨k - 1, by omega⟩
    exact ⟨[some (HV.bool (decide ((1 : Int) ≤ n ∧ n ≤ (20 : Int))), ([.arr 1 [.int .i64 n] true 0] : Heap)) = some (.bool false, [.arr 1 [.int .i64 n] true 0])], by kernel_rfl, Obls.cons (hintB (decide_eq_false g0)) Obls.nil⟩
end Go.Proofs.Ytmhfkhlamnapdaa
end
section
open Go Go.HL
namespace Go.Proofs.Ytmhfkhlamnapdaa
set_option maxRecDepth 100000
def callsL (m : Nat) : List (Int × Int) :=
  if m < 4 then (List.range m).flatMap fun (b : Nat) => (List.range b).map fun (a : Nat) => ((a : Int), (b : Int))
  else ((List.range (m - 4)).map fun (v : Nat) => ((0 : Int), ((v + 4 : Nat) : Int))) ++ [(0, 1), (2, 3), (0, 2), (1, 3)] ++ ((List.range (m - 4)).map fun (v : Nat) => ((0 : Int), ((v + 4 : Nat) : Int)))
def callsR (n : Int) : HV := if 1 ≤ n ∧ n ≤ 20 then .tuple [.own 2 ((callsL n.toNat).map encP), .int .i64 0] else .tuple [.own 2 [], .int .i64 2]
def callsF : List HV → Option HV
  | [.int .i64 n] => some (callsR n)
  | _ => none
noncomputable def callsOkB (i : Nat) : Bool :=
  (match callNF Try.prog polB 100 34 [.int .i64 (i : Int)] [] with
  | some (v, H) => (match toRes H false v with | some r => same r (callsR (i : Int)) | none => false)
  | none => false)
theorem calls_1 : callsOkB 1 = true := by kernel_rfl
theorem calls_2 : callsOkB 2 = true := by kernel_rfl
theorem calls_3 : callsOkB 3 = true := by kernel_rfl
theorem calls_4 : callsOkB 4 = true := by kernel_rfl
theorem calls_5 : callsOkB 5 = true := by kernel_rfl
theorem calls_6 : callsOkB 6 = true := by kernel_rfl
theorem calls_7 : callsOkB 7 = true := by kernel_rfl
theorem calls_8 : callsOkB 8 = true := by kernel_rfl
theorem calls_9 : callsOkB 9 = true := by kernel_rfl
theorem calls_10 : callsOkB 10 = true := by kernel_rfl
theorem calls_11 : callsOkB 11 = true := by kernel_rfl
theorem calls_12 : callsOkB 12 = true := by kernel_rfl
theorem calls_13 : callsOkB 13 = true := by kernel_rfl
theorem calls_14 : callsOkB 14 = true := by kernel_rfl
theorem calls_15 : callsOkB 15 = true := by kernel_rfl
theorem calls_16 : callsOkB 16 = true := by kernel_rfl
theorem calls_17 : callsOkB 17 = true := by kernel_rfl
theorem calls_18 : callsOkB 18 = true := by kernel_rfl
theorem calls_19 : callsOkB 19 = true := by kernel_rfl
theorem calls_20 : callsOkB 20 = true := by kernel_rfl
theorem calls_ok : PrimOk Try.prog 34 callsF := by
  refine primOk_of (pol := polB) soundB (by kernel_rfl) fun args res h => ?_
  unfold callsF at h
  split at h
  · rename_i n
    cases h
    by_cases hn : 1 ≤ n ∧ n ≤ 20
    · have key : ∀ i : Nat, callsOkB i = true → ∃ n r H' deep, callN Try.prog polB n 34 [.int .i64 (i : Int)] [] = some (r, H') ∧ toRes H' deep r = some (callsR (i : Int)) := by
        intro i hi
        unfold callsOkB at hi
        split at hi
        · rename_i v H hc
          split at hi
          · rename_i r hr
            refine ⟨100, v, H, false, ?_, ?_⟩
            · rw [← callNF_eq]; exact hc
            · rw [hr, same_eq _ _ hi]
          · cases hi
        · cases hi
      obtain ⟨i, rfl⟩ : ∃ i : Nat, n = (i : Int) := ⟨n.toNat, by omega⟩
      have hi : i = 1 ∨ i = 2 ∨ i = 3 ∨ i = 4 ∨ i = 5 ∨ i = 6 ∨ i = 7 ∨ i = 8 ∨ i = 9 ∨ i = 10 ∨ i = 11 ∨ i = 12 ∨ i = 13 ∨ i = 14 ∨ i = 15 ∨ i = 16 ∨ i = 17 ∨ i = 18 ∨ i = 19 ∨ i = 20 := by omega
      apply key
      rcases hi with rfl | rfl | rfl | rfl | rfl | rfl | rfl | rfl | rfl | rfl | rfl | rfl | rfl | rfl | rfl | rfl | rfl | rfl | rfl | rfl
      · exact calls_1
      · exact calls_2
      · exact calls_3
      · exact calls_4
      · exact calls_5
      · exact calls_6
      · exact calls_7
      · exact calls_8
      · exact calls_9
      · exact calls_10
      · exact calls_11
      · exact calls_12
      · exact calls_13
      · exact calls_14
      · exact calls_15
      · exact calls_16
      · exact calls_17
      · exact calls_18
      · exact calls_19
      · exact calls_20
    · have t := RunsTo.seq (c_a_0 n) (RunsTo.seq_out (c_b_1 n hn) (by simp) (c := sub [1] B34) (b := sub [1, 1] B34) (by kernel_rfl)) (c := B34) (by kernel_rfl) (by kernel_rfl)
      have hr : Try.f34.results.toList = [.tmp 2, .tmp 3] := by kernel_rfl
      obtain ⟨m, h⟩ := CallsTo.pure (pol := polB) (g := 34) (fn := Try.f34) (cd := B34) (args := [.int .i64 n]) (rs := [.int .i64 n]) (H := []) (v := .tuple [.imm .lit 2 [], .int .i64 2]) (r := .tuple [.own 2 [], .int .i64 2]) (by kernel_rfl) (by kernel_rfl) (by kernel_rfl) (by kernel_rfl) (by kernel_rfl) rfl t (by kernel_rfl) (by simp) (by simp only [resultsV, hr]; rfl) rfl
      refine ⟨m, _, _, false, h m (Nat.le_refl m), ?_⟩
      rw [callsR, if_neg hn]
      rfl
  · cases h
end Go.Proofs.Ytmhfkhlamnapdaa
end
section
open Go Go.HL
namespace Go.Proofs.Ytmhfkhlamnapdaa
/-- The policy of the laws on calls. -/
def primC (g : FuncId) : Option (List HV → Option HV) :=
  if g == 19 then some awakeF else if g == 49 then some withinF else if g == 22 then some modF else if g == 58 then some known58 else if g == 33 then some fewestF else if g == 34 then some callsF else none
def polC : Pol := { pol with prim := primC }
theorem primC_ok (g : FuncId) (f : List HV → Option HV) (h : primC g = some f) : PrimOk Try.prog g f := by
  unfold primC at h
  split at h
  · rename_i hg; cases h; rw [eq_of_beq hg]; exact awake_prim
  split at h
  · rename_i hg; cases h; rw [eq_of_beq hg]; exact within_ok
  split at h
  · rename_i hg; cases h; rw [eq_of_beq hg]; exact mod_ok
  split at h
  · rename_i hg; cases h; rw [eq_of_beq hg]; exact known_ok
  split at h
  · rename_i hg; cases h; rw [eq_of_beq hg]; exact fewest_ok
  split at h
  · rename_i hg; cases h; rw [eq_of_beq hg]; exact calls_ok
  · cases h
theorem soundC (n : Nat) : CallSound Try.prog (callN Try.prog polC n) := sound_prim primC primC_ok n
end Go.Proofs.Ytmhfkhlamnapdaa
end
section
open Go Go.HL
namespace Go.Proofs.Ytmhfkhlamnapdaa
theorem argP_pairs : ∀ (l : List (Int × Int)), argPL (l.map encP) = some (l.map encP)
  | [] => rfl
  | p :: l => by simp only [List.map_cons, argPL, argP_pairs l, encP, argP]
end Go.Proofs.Ytmhfkhlamnapdaa
end
section
open Go Go.HL
namespace Go.Proofs.Ytmhfkhlamnapdaa
theorem bitAt_set (F : List Bool) (i j : Nat) (v : Bool) (h : i < F.length) : bitAt (F.set i v) j = if i = j then v else bitAt F j := by
  unfold bitAt
  rw [List.getElem?_set]
  split
  · rfl
  · rfl
end Go.Proofs.Ytmhfkhlamnapdaa
end
section
open Go Go.HL
namespace Go.Proofs.Ytmhfkhlamnapdaa
def truesFrom (r : List Bool) : Nat → Nat → List Int → List Int
  | _, 0, l => l
  | x, d + 1, l => truesFrom r (x + 1) d (if bitAt r x then l ++ [(x : Int)] else l)
end Go.Proofs.Ytmhfkhlamnapdaa
end
section
open Go Go.HL
namespace Go.Proofs.Ytmhfkhlamnapdaa
def nbMark (x : Int) : List (Int × Int) → List Bool → List Bool
  | [], F => F
  | p :: l, F => nbMark x l (if p.2 = x then (if p.1 = x then F.set p.2.toNat true else F).set p.1.toNat true else (if p.1 = x then F.set p.2.toNat true else F))
theorem nbMark_length (x : Int) : ∀ (l : List (Int × Int)) (F : List Bool), (nbMark x l F).length = F.length
  | [], _ => rfl
  | p :: l, F => by
    rw [nbMark, nbMark_length x l]
    split <;> split <;> simp
def nbrs (m : Nat) (l : List (Int × Int)) (x : Int) : List Int := truesFrom (nbMark x l (List.replicate m false)) 0 m []
abbrev nbE (m : Nat) (lc : List HV) (x : Int) (v8 v11 v12 : HV) : Env := env51 (.int .i64 (m : Int)) (.imm .arg 2 lc) (.int .i64 x) (.imm .lit 1 []) (.sl 0 0 m (some m) m 1) v8 .undef .undef v11 v12
theorem nb_mark_loop (m : Nat) (hm : m ≤ 1000) (l : List (Int × Int)) (hl : l.length ≤ 1000) (hv : ∀ p ∈ l, inB m p) (x : Int) : ∀ (d j : Nat) (F : List Bool), j + d = l.length → F.length = m →
    RunsTo Try.prog pol 51 (sub [1, 1, 0, 1, 0] B51) (nbE m (l.map encP) x (.int .i64 (j : Int)) .undef .undef) [bF F]
      (.exit 0) (pol.keys 51) (nbE m (l.map encP) x (.int .i64 (l.length : Int)) .undef .undef) [bF (nbMark x (l.drop j) F)] := by
  intro d
  induction d with
  | zero =>
    intro j F hj hF
    have hj : j = l.length := by omega
    subst hj
    rw [List.drop_length]
    exact RunsTo.loop_out (nb_l_4 (m : Int) (l.map encP) x m (F.map .bool) l.length (by simp)) (by simp) (by kernel_rfl) (by kernel_rfl)
  | succ d ih =>
    intro j F hj hF
    have hjl : j < l.length := by omega
    rw [List.drop_eq_getElem_cons hjl, nbMark]
    have hpk : (l.map encP)[j]? = some (encP l[j]) := by rw [List.getElem?_map, List.getElem?_eq_getElem hjl]; rfl
    have g1 : idxV Try.prog 22 (.imm .arg 2 (l.map encP)) (.int .i64 (j : Int)) = some (.vptr (.agg [.int .i64 l[j].1, .int .i64 l[j].2])) := idx_imm u22 z33 (by omega) (by rw [Int.toNat_natCast]; exact hpk)
    have g0 : (j : Int) < ((l.map encP).length : Int) := by rw [List.length_map]; omega
    obtain ⟨⟨a0, a1⟩, ⟨b0, b1⟩⟩ := hv _ (List.getElem_mem hjl)
    have gi : ∀ y : Int, 0 ≤ y → y.toNat < m → idxV Try.prog 43 (.sl 0 0 m (some m) m 1) (.int .i64 y) = some (.ptr 0 y.toNat 0 m) := fun y h0 h1 => idx_sl u43f z4 h0 h1
    have gs : ∀ (G : List Bool) (y : Nat), G.length = m → y < m → storeV Try.prog [bF G] 4 (.ptr 0 y 0 m) (.bool true) = some [bF (G.set y true)] := fun G y h0 h1 => by
      rw [store_elem (H := [bF G]) (b := 0) rfl (by rw [List.length_map]; exact h0.symm) (bitF (by omega)) rfl (by simp) z4 rfl rfl rfl]
      simp [List.map_set]
    by_cases c1 : l[j].1 = x
    · by_cases c2 : l[j].2 = x
      · rw [if_pos c2, if_pos c1]
        have h := ih (j + 1) ((F.set l[j].2.toNat true).set l[j].1.toNat true) (by omega) (by simpa using hF)
        have s1 := nb_l_0 (m : Int) (l.map encP) x m (F.map .bool) j _ _ _ _ _ _ g0 g1 g1 c1 (gi _ b0 b1) (gs F _ hF b1) c2 (gi _ a0 a1) (gs _ _ (by simpa using hF) a1)
        rw [wrap_succ (by omega)] at s1
        exact RunsTo.loop s1 (by kernel_rfl) (gc_same (by simp)) h rfl (by kernel_rfl) (by kernel_rfl)
      · rw [if_neg c2, if_pos c1]
        have h := ih (j + 1) (F.set l[j].2.toNat true) (by omega) (by simpa using hF)
        have s1 := nb_l_1 (m : Int) (l.map encP) x m (F.map .bool) j _ _ _ _ _ g0 g1 g1 c1 (gi _ b0 b1) (gs F _ hF b1) c2
        rw [wrap_succ (by omega)] at s1
        exact RunsTo.loop s1 (by kernel_rfl) (gc_same (by simp)) h rfl (by kernel_rfl) (by kernel_rfl)
    · by_cases c2 : l[j].2 = x
      · rw [if_pos c2, if_neg c1]
        have h := ih (j + 1) (F.set l[j].1.toNat true) (by omega) (by simpa using hF)
        have s1 := nb_l_2 (m : Int) (l.map encP) x m (F.map .bool) j _ _ _ _ _ g0 g1 g1 c1 c2 (gi _ a0 a1) (gs F _ hF a1)
        rw [wrap_succ (by omega)] at s1
        exact RunsTo.loop s1 (by kernel_rfl) (gc_same (by simp)) h rfl (by kernel_rfl) (by kernel_rfl)
      · rw [if_neg c2, if_neg c1]
        have h := ih (j + 1) F (by omega) hF
        have s1 := nb_l_3 (m : Int) (l.map encP) x m (F.map .bool) j _ _ _ _ g0 g1 g1 c1 c2
        rw [wrap_succ (by omega)] at s1
        exact RunsTo.loop s1 (by kernel_rfl) (gc_same (by simp)) h rfl (by kernel_rfl) (by kernel_rfl)
theorem nb_list_loop (m : Nat) (hm : m ≤ 1000) (lc : List HV) (x : Int) (F : List Bool) (hF : F.length = m) : ∀ (d j : Nat) (r : List Int), j + d = m → r.length ≤ j →
    RunsTo Try.prog pol 51 (sub [1, 1, 1, 1, 0, 1, 0] B51) (nbE m lc x .undef (.sl 1 0 r.length none r.length 1) (.int .i64 (j : Int))) [bF F, .arr 1 (r.map encI) true 0]
      (.exit 2) (pol.keys 51) (nbE m lc x .undef (.sl 1 0 (truesFrom F j d r).length none (truesFrom F j d r).length 1) (.int .i64 (m : Int))) [bF F, .arr 1 ((truesFrom F j d r).map encI) true 0] := by
  intro d
  induction d with
  | zero =>
    intro j r hj hr
    have hj : j = m := by omega
    subst hj
    exact RunsTo.loop_out (nb_k_2 (j : Int) lc x j (F.map .bool) (r.map encI) r.length j (by omega)) (by simp) (by kernel_rfl) (by kernel_rfl)
  | succ d ih =>
    intro j r hj hr
    have hjm : j < m := by omega
    have g1 : idxV Try.prog 43 (.sl 0 0 m (some m) m 1) (.int .i64 (j : Int)) = some (.ptr 0 j 0 m) := by
      have := idx_sl (P := Try.prog) (t := 43) (b := 0) (tot := m) (cap := some m) (ik := .i64) (n := (j : Int)) u43f z4 (by omega) (len := m) (by omega)
      simpa using this
    have g2 : loadV Try.prog [bF F, .arr 1 (r.map encI) true 0] 4 (.ptr 0 j 0 m) = some (.bool (bitAt F j)) := load_elem (b := 0) rfl (by rw [List.length_map]; exact hF.symm) (bitF (by omega)) rfl a4 i4
    have h := ih (j + 1) (if bitAt F j then r ++ [(j : Int)] else r) (by omega) (by
      split
      · simp only [List.length_append, List.length_singleton]; omega
      · omega)
    rw [show truesFrom F j (d + 1) r = truesFrom F (j + 1) d (if bitAt F j then r ++ [(j : Int)] else r) from rfl]
    cases hb : bitAt F j with
    | true =>
      rw [hb] at g2
      simp only [hb, if_true] at h ⊢
      have hap := app_sl (H := [bF F, .arr 1 (r.map encI) true 0]) (k := 1) (bytes := 8) (b := 1) (n := r.length) (mx := 0) (els := r.map encI) (xs := [encI (j : Int)]) rfl (by simp) (by simp) (by simp only [List.length_singleton, roomMax]; omega) rfl
      have s1 := nb_k_0 (m : Int) lc x m (F.map .bool) (r.map encI) r.length j (by omega) g1 g2 hap
      rw [wrap_succ (by omega)] at s1
      have e1 : (r ++ [(j : Int)]).map encI = r.map encI ++ [encI (j : Int)] := by simp
      have e2 : (r ++ [(j : Int)]).length = r.length + 1 := by simp
      rw [e1, e2] at h
      exact RunsTo.loop s1 (by kernel_rfl) (gc_same (by simp)) h rfl (by kernel_rfl) (by kernel_rfl)
    | false =>
      rw [hb] at g2
      simp only [hb, Bool.false_eq_true, if_false] at h ⊢
      have s1 := nb_k_1 (m : Int) lc x m (F.map .bool) (r.map encI) r.length j (by omega) g1 g2
      rw [wrap_succ (by omega)] at s1
      exact RunsTo.loop s1 (by kernel_rfl) (gc_same (by simp)) h rfl (by kernel_rfl) (by kernel_rfl)
def nbrs51 : List HV → Option HV
  | [.int .i64 n, .imm .arg 2 lc, .int .i64 x] =>
    match mapO decP lc with
    | some l => if ((0 ≤ n ∧ n ≤ 1000) ∧ l.length ≤ 1000) ∧ (l.all fun p => decide ((0 ≤ p.1 ∧ p.1 < n) ∧ (0 ≤ p.2 ∧ p.2 < n))) = true then some (.own 1 ((nbrs n.toNat l x).map encI)) else none
    | none => none
  | _ => none
theorem res51 : Try.f51.results.toList = [.tmp 6] := by kernel_rfl
theorem nbrs_ok : PrimOk Try.prog 51 nbrs51 := by
  refine primOk_pure (pol := pol) (fn := Try.f51) (cd := B51) follows_mixed sound (by kernel_rfl) (by kernel_rfl) (fnok pol.prim _ _ (by kernel_rfl)) (by kernel_rfl) ?_
  intro args res h
  unfold nbrs51 at h
  split at h
  · rename_i n lc x
    split at h
    · rename_i l hl
      split at h
      · rename_i hg
        cases h
        rw [mapO_inv decP_inv hl]
        obtain ⟨⟨hn, hlen⟩, hv⟩ := hg
        obtain ⟨m, rfl⟩ : ∃ m : Nat, n = (m : Int) := ⟨n.toNat, by omega⟩
        rw [Int.toNat_natCast]
        have hvi : ∀ p ∈ l, inB m p := fun p hp => by
          have := of_decide_eq_true (List.all_eq_true.1 hv p hp)
          exact ⟨⟨this.1.1, by omega⟩, ⟨this.2.1, by omega⟩⟩
        have a1 := nb_a_0 (m : Int) (l.map encP) x
        have b1 := nb_b_0 (m : Int) (l.map encP) x m (by
          have := makeV_ok (P := Try.prog) (H := []) (t := 43) (n := (m : Int)) u43f info4f rfl rfl (by omega) (by omega) (by rw [show roomMax = 70368744177664 from rfl]; omega)
          rw [Int.toNat_natCast] at this
          exact this)
        have hrep : List.replicate m (HV.bool false) = (List.replicate m false).map HV.bool := by rw [List.map_replicate]
        rw [hrep] at b1
        have c1 := nb_c_0 (m : Int) (l.map encP) x m ((List.replicate m false).map HV.bool)
        have l1 := nb_mark_loop m (by omega) l hlen hvi x l.length 0 (List.replicate m false) (by omega) (by simp)
        rw [List.drop_zero] at l1
        have hF : (nbMark x l (List.replicate m false)).length = m := by rw [nbMark_length]; simp
        have d1 := nb_d_0 (m : Int) (l.map encP) x m ((nbMark x l (List.replicate m false)).map HV.bool) l.length
        have e1 := nb_e_0 (m : Int) (l.map encP) x m ((nbMark x l (List.replicate m false)).map HV.bool) l.length [] 0
        have l2 := nb_list_loop m (by omega) (l.map encP) x _ hF m 0 [] (by omega) (by simp)
        rw [show truesFrom (nbMark x l (List.replicate m false)) 0 m [] = nbrs m l x from rfl] at l2
        have z1 := nb_z_0 (m : Int) (l.map encP) x m ((nbMark x l (List.replicate m false)).map HV.bool) ((nbrs m l x).map encI) (nbrs m l x).length m
        have l2' := RunsTo.loop_in (e0 := nbE m (l.map encP) x (.int .i64 (l.length : Int)) (.sl 1 0 0 none 0 1) (.int .i64 0)) l2 (b := sub [1, 1, 1, 1, 0, 1, 0, 0] B51) (by kernel_rfl) (by kernel_rfl) (by kernel_rfl)
        have t1 := RunsTo.seq e1 (RunsTo.block_exit (c := sub [1, 1, 1, 1, 0, 1] B51) l2' (by kernel_rfl)) (c := sub [1, 1, 1, 1, 0] B51) (by kernel_rfl) (by kernel_rfl)
        have t2 := RunsTo.seq t1 z1 (c := sub [1, 1, 1, 1] B51) (by kernel_rfl) (by kernel_rfl)
        have t3 := RunsTo.seq d1 t2 (c := sub [1, 1, 1] B51) (by kernel_rfl) (by kernel_rfl)
        have t4 := RunsTo.seq c1 (RunsTo.block_exit (c := sub [1, 1, 0, 1] B51) l1 (by kernel_rfl)) (c := sub [1, 1, 0] B51) (by kernel_rfl) (by kernel_rfl)
        have t5 := RunsTo.seq t4 t3 (c := sub [1, 1] B51) (by kernel_rfl) (by kernel_rfl)
        have t6 := RunsTo.seq b1 t5 (c := sub [1] B51) (by kernel_rfl) (by kernel_rfl)
        have t7 := RunsTo.seq a1 t6 (c := B51) (by kernel_rfl) (by kernel_rfl)
        have hr := resCell_sl (H := [bF (nbMark x l (List.replicate m false)), .arr 1 ((nbrs m l x).map encI) true 0]) (no := [1]) (b := 1) (k := 1) (m := (nbrs m l x).length) (cap := none) (els := (nbrs m l x).map encI) rfl (by simp) (mapO_self (fun r => frz_int 4 r) _)
        have ho : ownedAll [bF (nbMark x l (List.replicate m false)), .arr 1 ((nbrs m l x).map encI) true 0] false (.sl 1 0 (nbrs m l x).length none (nbrs m l x).length 1) = [1] := rfl
        refine ⟨_, _, _, .sl 1 0 (nbrs m l x).length none (nbrs m l x).length 1, t7, by simp, by simp only [resultsV, res51]; rfl, ?_⟩
        show toRes _ false _ = _
        simp only [toRes, ho, List.nodup_cons, List.not_mem_nil, not_false_eq_true, List.nodup_nil, and_self, if_true, resVal, hr]
      · cases h
    · cases h
  · cases h
end Go.Proofs.Ytmhfkhlamnapdaa
end
section
open Go Go.HL
namespace Go.Proofs.Ytmhfkhlamnapdaa
/-- The policy of the document's search. -/
def primN (g : FuncId) : Option (List HV → Option HV) := if g == 51 then some nbrs51 else none
def polN : Pol := { pol with prim := primN }
theorem primN_ok (g : FuncId) (f : List HV → Option HV) (h : primN g = some f) : PrimOk Try.prog g f := by
  unfold primN at h
  split at h
  · rename_i hg; cases h; rw [eq_of_beq hg]; exact nbrs_ok
  · cases h
theorem soundN (n : Nat) : CallSound Try.prog (callN Try.prog polN n) := sound_prim primN primN_ok n
end Go.Proofs.Ytmhfkhlamnapdaa
end
section
open Go Go.HL
namespace Go.Proofs.Ytmhfkhlamnapdaa
set_option maxRecDepth 100000
noncomputable def B41 : Code := Try.f41.body.getD .skip
abbrev env41 (v0 v1 v2 v6 v7 v8 v9 v10 v11 v12 v13 v14 : HV) : Env := [(0, v0), (1, v1), (2, v2), (6, v6), (7, v7), (8, v8), (9, v9), (10, v10), (11, v11), (12, v12), (13, v13), (14, v14)]
theorem fa_a_0 (n : Int) (lc : List HV) (x : Int)   : RunsTo Try.prog polN 41 (sub [0] B41) [(0, .int .i64 n), (1, .imm .arg 2 lc), (2, .int .i64 x)] [] (.normal) (polN.keys 41) (env41 (.int .i64 n) (.imm .arg 2 lc) (.int .i64 x) (.imm .lit 1 []) .undef .undef .undef .undef .undef .undef .undef .undef) [] :=
  RunsTo.hint 1 60 [] fun kf hk => by
    obtain ⟨kf, rfl⟩ : ∃ n, kf = n + 1 := ⟨kf - 1, by omega⟩
    exact ⟨[], by kernel_rfl, Obls.nil⟩
theorem fa_b_0 (n : Int) (lc : List HV) (x : Int) (m : Nat)  (g0 : makeV Try.prog false 24 (.int .i64 n) (.int .i64 n) [] = some (.sl 0 0 m (some m) m 1, [.arr 1 (List.replicate m (.int .i64 0)) true 0])) : RunsTo Try.prog polN 41 (sub [1, 0] B41) (env41 (.int .i64 n) (.imm .arg 2 lc) (.int .i64 x) (.imm .lit 1 []) .undef .undef .undef .undef .undef .undef .undef .undef) [] (.normal) (polN.keys 41) (env41 (.int .i64 n) (.imm .arg 2 lc) (.int .i64 x) (.imm .lit 1 []) (.sl 0 0 m (some m) m 1) .undef .undef .undef .undef .undef .undef .undef) [.arr 1 (List.replicate m (.int .i64 0)) true 0] :=
  RunsTo.hint 1 60 [⟨1, 1, .sl 0 0 m (some m) m 1, [.arr 1 (List.replicate m (.int .i64 0)) true 0]⟩] fun kf hk => by
    obtain ⟨kf, rfl⟩ : ∃ n, kf = n + 1 := ⟨kf - 1, by omega⟩
    exact ⟨[makeV Try.prog false 24 (.int .i64 n) (.int .i64 n) [] = some (.sl 0 0 m (some m) m 1, [.arr 1 (List.replicate m (.int .i64 0)) true 0])], by kernel_rfl, Obls.cons (g0) Obls.nil⟩
theorem fa_c_0 (n : Int) (lc : List HV) (x : Int) (m : Nat) (els : List HV)   : RunsTo Try.prog polN 41 (sub [1, 1, 0, 0] B41) (env41 (.int .i64 n) (.imm .arg 2 lc) (.int .i64 x) (.imm .lit 1 []) (.sl 0 0 m (some m) m 1) .undef .undef .undef .undef .undef .undef .undef) [.arr 1 els true 0] (.normal) (polN.keys 41) (env41 (.int .i64 n) (.imm .arg 2 lc) (.int .i64 x) (.imm .lit 1 []) (.sl 0 0 m (some m) m 1) (.int .i64 0) .undef .undef .undef .undef .undef .undef) [.arr 1 els true 0] :=
  RunsTo.hint 1 60 [] fun kf hk => by
    obtain ⟨kf, rfl⟩ : ∃ n, kf = n + 1 := ⟨kf - 1, by omega⟩
    exact ⟨[], by kernel_rfl, Obls.nil⟩
theorem fa_l1_0 (n : Int) (lc : List HV) (x : Int) (m : Nat) (els : List HV) (j : Nat) (el0 : List HV) (g0 : (j : Int) < n) (g1 : idxV Try.prog 24 (.sl 0 0 m (some m) m 1) (.int .i64 (j : Int)) = some (.ptr 0 j 0 m)) (g2 : storeV Try.prog [.arr 1 els true 0] 3 (.ptr 0 j 0 m) (.int .i64 (-1)) = some [.arr 1 el0 true 0]) : RunsTo Try.prog polN 41 (sub [1, 1, 0, 1, 0, 0] B41) (env41 (.int .i64 n) (.imm .arg 2 lc) (.int .i64 x) (.imm .lit 1 []) (.sl 0 0 m (some m) m 1) (.int .i64 (j : Int)) .undef .undef .undef .undef .undef .undef) [.arr 1 els true 0] (.normal) (polN.keys 41) (env41 (.int .i64 n) (.imm .arg 2 lc) (.int .i64 x) (.imm .lit 1 []) (.sl 0 0 m (some m) m 1) (.int .i64 (IntKind.i64.wrap ((j : Int) + 1))) .undef .undef .undef .undef .undef .undef) [.arr 1 el0 true 0] :=
  RunsTo.hint 1 60 [⟨3, 2, .bool true, [.arr 1 els true 0]⟩, ⟨5, 2, .ptr 0 j 0 m, [.arr 1 els true 0]⟩, ⟨5, 3, .tuple [], [.arr 1 el0 true 0]⟩] fun kf hk => by
    obtain ⟨kf, rfl⟩ : ∃ n, kf = n + 1 := ⟨kf - 1, by omega⟩
    exact ⟨[some (HV.bool (decide ((j : Int) < n)), ([.arr 1 els true 0] : Heap)) = some (.bool true, [.arr 1 els true 0]), (idxV Try.prog 24 (.sl 0 0 m (some m) m 1) (.int .i64 (j : Int))).map (fun v => (v, ([.arr 1 els true 0] : Heap))) = some (.ptr 0 j 0 m, [.arr 1 els true 0]), (storeV Try.prog [.arr 1 els true 0] 3 (.ptr 0 j 0 m) (.int .i64 (-1))).map (fun H => (HV.tuple [], H)) = some (.tuple [], [.arr 1 el0 true 0])], by kernel_rfl, Obls.cons (hintB (decide_eq_true g0)) (Obls.cons (hintOp g1) (Obls.cons (hintSt g2) Obls.nil))⟩
theorem fa_l1_1 (n : Int) (lc : List HV) (x : Int) (m : Nat) (els : List HV) (j : Nat)  (g0 : ¬ ((j : Int) < n)) : RunsTo Try.prog polN 41 (sub [1, 1, 0, 1, 0, 0] B41) (env41 (.int .i64 n) (.imm .arg 2 lc) (.int .i64 x) (.imm .lit 1 []) (.sl 0 0 m (some m) m 1) (.int .i64 (j : Int)) .undef .undef .undef .undef .undef .undef) [.arr 1 els true 0] (.exit 0) (polN.keys 41) (env41 (.int .i64 n) (.imm .arg 2 lc) (.int .i64 x) (.imm .lit 1 []) (.sl 0 0 m (some m) m 1) (.int .i64 (j : Int)) .undef .undef .undef .undef .undef .undef) [.arr 1 els true 0] :=
  RunsTo.hint 1 60 [⟨3, 2, .bool false, [.arr 1 els true 0]⟩] fun kf hk => by
    obtain ⟨kf, rfl⟩ : ∃ n, kf = n + 1 := ⟨kf - 1, by omega⟩
    exact ⟨[some (HV.bool (decide ((j : Int) < n)), ([.arr 1 els true 0] : Heap)) = some (.bool false, [.arr 1 els true 0])], by kernel_rfl, Obls.cons (hintB (decide_eq_false g0)) Obls.nil⟩
theorem fa_d_0 (n : Int) (lc : List HV) (x : Int) (m : Nat) (els : List HV) (j : Nat) (el0 : List HV) (g0 : idxV Try.prog 24 (.sl 0 0 m (some m) m 1) (.int .i64 x) = some (.ptr 0 ((x).toNat) 0 m)) (g1 : storeV Try.prog [.arr 1 els true 0] 3 (.ptr 0 ((x).toNat) 0 m) (.int .i64 0) = some [.arr 1 el0 true 0]) : RunsTo Try.prog polN 41 (sub [1, 1, 1, 0] B41) (env41 (.int .i64 n) (.imm .arg 2 lc) (.int .i64 x) (.imm .lit 1 []) (.sl 0 0 m (some m) m 1) (.int .i64 (j : Int)) .undef .undef .undef .undef .undef .undef) [.arr 1 els true 0] (.normal) (polN.keys 41) (env41 (.int .i64 n) (.imm .arg 2 lc) (.int .i64 x) (.imm .lit 1 []) (.sl 0 0 m (some m) m 1) (.int .i64 (j : Int)) .undef .undef .undef .undef .undef .undef) [.arr 1 el0 true 0] :=
  RunsTo.hint 1 60 [⟨6, 2, .ptr 0 ((x).toNat) 0 m, [.arr 1 els true 0]⟩, ⟨6, 3, .tuple [], [.arr 1 el0 true 0]⟩] fun kf hk => by
    obtain ⟨kf, rfl⟩ : ∃ n, kf = n + 1 := ⟨kf - 1, by omega⟩
    exact ⟨[(idxV Try.prog 24 (.sl 0 0 m (some m) m 1) (.int .i64 x)).map (fun v => (v, ([.arr 1 els true 0] : Heap))) = some (.ptr 0 ((x).toNat) 0 m, [.arr 1 els true 0]), (storeV Try.prog [.arr 1 els true 0] 3 (.ptr 0 ((x).toNat) 0 m) (.int .i64 0)).map (fun H => (HV.tuple [], H)) = some (.tuple [], [.arr 1 el0 true 0])], by kernel_rfl, Obls.cons (hintOp g0) (Obls.cons (hintSt g1) Obls.nil)⟩
theorem fa_e_0 (n : Int) (lc : List HV) (x : Int) (m : Nat) (els : List HV) (j : Nat)   : RunsTo Try.prog polN 41 (sub [1, 1, 1, 1, 0] B41) (env41 (.int .i64 n) (.imm .arg 2 lc) (.int .i64 x) (.imm .lit 1 []) (.sl 0 0 m (some m) m 1) (.int .i64 (j : Int)) .undef .undef .undef .undef .undef .undef) [.arr 1 els true 0] (.normal) (polN.keys 41) (env41 (.int .i64 n) (.imm .arg 2 lc) (.int .i64 x) (.imm .lit 1 []) (.sl 0 0 m (some m) m 1) (.int .i64 (j : Int)) (.sl 1 0 1 (some 1) 1 1) .undef .undef .undef .undef .undef) [.arr 1 els true 0, .arr 1 [.int .i64 x] true 0] :=
  RunsTo.hint 1 60 [] fun kf hk => by
    obtain ⟨kf, rfl⟩ : ∃ n, kf = n + 1 := ⟨kf - 1, by omega⟩
    exact ⟨[], by kernel_rfl, Obls.nil⟩
theorem fa_f_0 (n : Int) (lc : List HV) (x : Int) (m : Nat) (qv : HV) (H : Heap) (j : Nat)   : RunsTo Try.prog polN 41 (sub [1, 1, 1, 1, 1, 0, 0] B41) (env41 (.int .i64 n) (.imm .arg 2 lc) (.int .i64 x) (.imm .lit 1 []) (.sl 0 0 m (some m) m 1) (.int .i64 (j : Int)) qv .undef .undef .undef .undef .undef) H (.normal) (polN.keys 41) (env41 (.int .i64 n) (.imm .arg 2 lc) (.int .i64 x) (.imm .lit 1 []) (.sl 0 0 m (some m) m 1) (.int .i64 (j : Int)) qv (.int .i64 0) .undef .undef .undef .undef) H :=
  RunsTo.hint 1 60 [] fun kf hk => by
    obtain ⟨kf, rfl⟩ : ∃ n, kf = n + 1 := ⟨kf - 1, by omega⟩
    exact ⟨[], by kernel_rfl, Obls.nil⟩
theorem fa_h_0 (n : Int) (lc : List HV) (x : Int) (m : Nat) (qv : HV) (H : Heap) (i : Nat) (n0 : Int) (g0 : lenV Try.prog H 24 qv = some (.int .i64 n0)) (g1 : (i : Int) < n0) : RunsTo Try.prog polN 41 (sub [1, 1, 1, 1, 1, 0, 1, 0, 0, 0] B41) (env41 (.int .i64 n) (.imm .arg 2 lc) (.int .i64 x) (.imm .lit 1 []) (.sl 0 0 m (some m) m 1) .undef qv (.int .i64 (i : Int)) .undef .undef .undef .undef) H (.normal) (polN.keys 41) (env41 (.int .i64 n) (.imm .arg 2 lc) (.int .i64 x) (.imm .lit 1 []) (.sl 0 0 m (some m) m 1) .undef qv (.int .i64 (i : Int)) .undef .undef .undef .undef) H :=
  RunsTo.hint 1 60 [⟨9, 2, .int .i64 n0, H⟩, ⟨9, 3, .bool true, H⟩] fun kf hk => by
    obtain ⟨kf, rfl⟩ : ∃ n, kf = n + 1 := ⟨kf - 1, by omega⟩
    exact ⟨[(lenV Try.prog H 24 qv).map (fun v => (v, (H : Heap))) = some (.int .i64 n0, H), some (HV.bool (decide ((i : Int) < n0)), (H : Heap)) = some (.bool true, H)], by kernel_rfl, Obls.cons (hintOp g0) (Obls.cons (hintB (decide_eq_true g1)) Obls.nil)⟩
theorem fa_h_1 (n : Int) (lc : List HV) (x : Int) (m : Nat) (qv : HV) (H : Heap) (i : Nat) (n0 : Int) (g0 : lenV Try.prog H 24 qv = some (.int .i64 n0)) (g1 : ¬ ((i : Int) < n0)) : RunsTo Try.prog polN 41 (sub [1, 1, 1, 1, 1, 0, 1, 0, 0, 0] B41) (env41 (.int .i64 n) (.imm .arg 2 lc) (.int .i64 x) (.imm .lit 1 []) (.sl 0 0 m (some m) m 1) .undef qv (.int .i64 (i : Int)) .undef .undef .undef .undef) H (.exit 2) (polN.keys 41) (env41 (.int .i64 n) (.imm .arg 2 lc) (.int .i64 x) (.imm .lit 1 []) (.sl 0 0 m (some m) m 1) .undef qv (.int .i64 (i : Int)) .undef .undef .undef .undef) H :=
  RunsTo.hint 1 60 [⟨9, 2, .int .i64 n0, H⟩, ⟨9, 3, .bool false, H⟩] fun kf hk => by
    obtain ⟨kf, rfl⟩ : ∃ n, kf = n + 1 := ⟨kf - 1, by omega⟩
    exact ⟨[(lenV Try.prog H 24 qv).map (fun v => (v, (H : Heap))) = some (.int .i64 n0, H), some (HV.bool (decide ((i : Int) < n0)), (H : Heap)) = some (.bool false, H)], by kernel_rfl, Obls.cons (hintOp g0) (Obls.cons (hintB (decide_eq_false g1)) Obls.nil)⟩
theorem fa_g_0 (n : Int) (lc : List HV) (x : Int) (m : Nat) (qv : HV) (H : Heap) (i : Nat) (a0 : HV) (x0 : Int) (g0 : idxV Try.prog 24 qv (.int .i64 (i : Int)) = some (a0)) (g1 : loadV Try.prog H 3 (a0) = some (.int .i64 x0)) : RunsTo Try.prog polN 41 (sub [1, 1, 1, 1, 1, 0, 1, 0, 0, 1, 0, 0, 0] B41) (env41 (.int .i64 n) (.imm .arg 2 lc) (.int .i64 x) (.imm .lit 1 []) (.sl 0 0 m (some m) m 1) .undef qv (.int .i64 (i : Int)) .undef .undef .undef .undef) H (.normal) (polN.keys 41) (env41 (.int .i64 n) (.imm .arg 2 lc) (.int .i64 x) (.imm .lit 1 []) (.sl 0 0 m (some m) m 1) .undef qv (.int .i64 (i : Int)) (.int .i64 x0) .undef .undef .undef) H :=
  RunsTo.hint 1 60 [⟨11, 2, a0, H⟩, ⟨11, 3, .int .i64 x0, H⟩] fun kf hk => by
    obtain ⟨kf, rfl⟩ : ∃ n, kf = n + 1 := ⟨kf - 1, by omega⟩
    exact ⟨[(idxV Try.prog 24 qv (.int .i64 (i : Int))).map (fun v => (v, (H : Heap))) = some (a0, H), (loadV Try.prog H 3 (a0)).map (fun v => (v, (H : Heap))) = some (.int .i64 x0, H)], by kernel_rfl, Obls.cons (hintOp g0) (Obls.cons (hintOp g1) Obls.nil)⟩
theorem fa_k_0 (n : Int) (lc : List HV) (x : Int) (m : Nat) (qv : HV) (H : Heap) (i : Nat) (y : Int) (v0 : HV) (H0 : Heap) (g0 : ∀ kf, callN Try.prog polN (kf + 1) 51 [.int .i64 n, .imm .arg 2 lc, .int .i64 y] H = some (v0, H0)) : RunsTo Try.prog polN 41 (sub [1, 1, 1, 1, 1, 0, 1, 0, 0, 1, 0, 0, 1, 0] B41) (env41 (.int .i64 n) (.imm .arg 2 lc) (.int .i64 x) (.imm .lit 1 []) (.sl 0 0 m (some m) m 1) .undef qv (.int .i64 (i : Int)) (.int .i64 y) .undef .undef .undef) H (.normal) (polN.keys 41) (env41 (.int .i64 n) (.imm .arg 2 lc) (.int .i64 x) (.imm .lit 1 []) (.sl 0 0 m (some m) m 1) .undef qv (.int .i64 (i : Int)) (.int .i64 y) v0 .undef .undef) H0 :=
  RunsTo.hint 1 60 [⟨12, 3, v0, H0⟩] fun kf hk => by
    obtain ⟨kf, rfl⟩ : ∃ n, kf = n + 1 := ⟨kf - 1, by omega⟩
    exact ⟨[callN Try.prog polN (kf + 1) 51 [.int .i64 n, .imm .arg 2 lc, .int .i64 y] H = some (v0, H0)], by kernel_rfl, Obls.cons (g0 kf) Obls.nil⟩
theorem fa_m_0 (n : Int) (lc : List HV) (x : Int) (m : Nat) (qv : HV) (H : Heap) (i : Nat) (y : Int) (wv : HV)   : RunsTo Try.prog polN 41 (sub [1, 1, 1, 1, 1, 0, 1, 0, 0, 1, 0, 0, 1, 1, 0] B41) (env41 (.int .i64 n) (.imm .arg 2 lc) (.int .i64 x) (.imm .lit 1 []) (.sl 0 0 m (some m) m 1) .undef qv (.int .i64 (i : Int)) (.int .i64 y) wv .undef .undef) H (.normal) (polN.keys 41) (env41 (.int .i64 n) (.imm .arg 2 lc) (.int .i64 x) (.imm .lit 1 []) (.sl 0 0 m (some m) m 1) .undef qv (.int .i64 (i : Int)) (.int .i64 y) wv (.int .i64 0) .undef) H :=
  RunsTo.hint 1 60 [] fun kf hk => by
    obtain ⟨kf, rfl⟩ : ∃ n, kf = n + 1 := ⟨kf - 1, by omega⟩
    exact ⟨[], by kernel_rfl, Obls.nil⟩
theorem fa_l2_0 (n : Int) (lc : List HV) (x : Int) (m : Nat) (qv : HV) (H : Heap) (i : Nat) (y : Int) (wv : HV) (j : Nat) (n0 : Int) (a0 : HV) (x0 : Int) (x1 : Int) (x2 : Int) (H0 : Heap) (H1 : Heap) (v0 : HV) (g0 : lenV Try.prog H 24 wv = some (.int .i64 n0)) (g1 : (j : Int) < n0) (g2 : idxV Try.prog 24 wv (.int .i64 (j : Int)) = some (a0)) (g3 : loadV Try.prog H 3 (a0) = some (.int .i64 x0)) (g4 : idxV Try.prog 24 (.sl 0 0 m (some m) m 1) (.int .i64 x0) = some (.ptr 0 ((x0).toNat) 0 m)) (g5 : loadV Try.prog H 3 (.ptr 0 ((x0).toNat) 0 m) = some (.int .i64 x1)) (g6 : x1 < 0) (g7 : idxV Try.prog 24 (.sl 0 0 m (some m) m 1) (.int .i64 y) = some (.ptr 0 ((y).toNat) 0 m)) (g8 : loadV Try.prog H 3 (.ptr 0 ((y).toNat) 0 m) = some (.int .i64 x2)) (g9 : idxV Try.prog 24 (.sl 0 0 m (some m) m 1) (.int .i64 x0) = some (.ptr 0 ((x0).toNat) 0 m)) (g10 : storeV Try.prog H 3 (.ptr 0 ((x0).toNat) 0 m) (.int .i64 (IntKind.i64.wrap (x2 + 1))) = some H0) (g11 : appV H0 1 8 (qv) [.int .i64 x0] = some (v0, H1)) : RunsTo Try.prog polN 41 (sub [1, 1, 1, 1, 1, 0, 1, 0, 0, 1, 0, 0, 1, 1, 1, 0, 0] B41) (env41 (.int .i64 n) (.imm .arg 2 lc) (.int .i64 x) (.imm .lit 1 []) (.sl 0 0 m (some m) m 1) .undef qv (.int .i64 (i : Int)) (.int .i64 y) wv (.int .i64 (j : Int)) .undef) H (.normal) (polN.keys 41) (env41 (.int .i64 n) (.imm .arg 2 lc) (.int .i64 x) (.imm .lit 1 []) (.sl 0 0 m (some m) m 1) .undef v0 (.int .i64 (i : Int)) (.int .i64 y) wv (.int .i64 (IntKind.i64.wrap ((j : Int) + 1))) (.int .i64 x0)) H1 :=
  RunsTo.hint 1 60 [⟨14, 2, .int .i64 n0, H⟩, ⟨14, 3, .bool true, H⟩, ⟨16, 2, a0, H⟩, ⟨16, 3, .int .i64 x0, H⟩, ⟨17, 2, .ptr 0 ((x0).toNat) 0 m, H⟩, ⟨17, 3, .int .i64 x1, H⟩, ⟨17, 4, .bool true, H⟩, ⟨18, 4, .ptr 0 ((y).toNat) 0 m, H⟩, ⟨18, 5, .int .i64 x2, H⟩, ⟨18, 7, .ptr 0 ((x0).toNat) 0 m, H⟩, ⟨18, 8, .tuple [], H0⟩, ⟨19, 3, v0, H1⟩] fun kf hk => by
    obtain ⟨kf, rfl⟩ : ∃ n, kf = n + 1 := ⟨kf - 1, by omega⟩
    exact ⟨[(lenV Try.prog H 24 wv).map (fun v => (v, (H : Heap))) = some (.int .i64 n0, H), some (HV.bool (decide ((j : Int) < n0)), (H : Heap)) = some (.bool true, H), (idxV Try.prog 24 wv (.int .i64 (j : Int))).map (fun v => (v, (H : Heap))) = some (a0, H), (loadV Try.prog H 3 (a0)).map (fun v => (v, (H : Heap))) = some (.int .i64 x0, H), (idxV Try.prog 24 (.sl 0 0 m (some m) m 1) (.int .i64 x0)).map (fun v => (v, (H : Heap))) = some (.ptr 0 ((x0).toNat) 0 m, H), (loadV Try.prog H 3 (.ptr 0 ((x0).toNat) 0 m)).map (fun v => (v, (H : Heap))) = some (.int .i64 x1, H), some (HV.bool (decide (x1 < 0)), (H : Heap)) = some (.bool true, H), (idxV Try.prog 24 (.sl 0 0 m (some m) m 1) (.int .i64 y)).map (fun v => (v, (H : Heap))) = some (.ptr 0 ((y).toNat) 0 m, H), (loadV Try.prog H 3 (.ptr 0 ((y).toNat) 0 m)).map (fun v => (v, (H : Heap))) = some (.int .i64 x2, H), (idxV Try.prog 24 (.sl 0 0 m (some m) m 1) (.int .i64 x0)).map (fun v => (v, (H : Heap))) = some (.ptr 0 ((x0).toNat) 0 m, H), (storeV Try.prog H 3 (.ptr 0 ((x0).toNat) 0 m) (.int .i64 (IntKind.i64.wrap (x2 + 1)))).map (fun H => (HV.tuple [], H)) = some (.tuple [], H0), appV H0 1 8 (qv) [.int .i64 x0] = some (v0, H1)], by kernel_rfl, Obls.cons (hintOp g0) (Obls.cons (hintB (decide_eq_true g1)) (Obls.cons (hintOp g2) (Obls.cons (hintOp g3) (Obls.cons (hintOp g4) (Obls.cons (hintOp g5) (Obls.cons (hintB (decide_eq_true g6)) (Obls.cons (hintOp g7) (Obls.cons (hintOp g8) (Obls.cons (hintOp g9) (Obls.cons (hintSt g10) (Obls.cons (g11) Obls.nil)))))))))))⟩
theorem fa_l2_1 (n : Int) (lc : List HV) (x : Int) (m : Nat) (qv : HV) (H : Heap) (i : Nat) (y : Int) (wv : HV) (j : Nat) (n0 : Int) (a0 : HV) (x0 : Int) (x1 : Int) (g0 : lenV Try.prog H 24 wv = some (.int .i64 n0)) (g1 : (j : Int) < n0) (g2 : idxV Try.prog 24 wv (.int .i64 (j : Int)) = some (a0)) (g3 : loadV Try.prog H 3 (a0) = some (.int .i64 x0)) (g4 : idxV Try.prog 24 (.sl 0 0 m (some m) m 1) (.int .i64 x0) = some (.ptr 0 ((x0).toNat) 0 m)) (g5 : loadV Try.prog H 3 (.ptr 0 ((x0).toNat) 0 m) = some (.int .i64 x1)) (g6 : ¬ (x1 < 0)) : RunsTo Try.prog polN 41 (sub [1, 1, 1, 1, 1, 0, 1, 0, 0, 1, 0, 0, 1, 1, 1, 0, 0] B41) (env41 (.int .i64 n) (.imm .arg 2 lc) (.int .i64 x) (.imm .lit 1 []) (.sl 0 0 m (some m) m 1) .undef qv (.int .i64 (i : Int)) (.int .i64 y) wv (.int .i64 (j : Int)) .undef) H (.normal) (polN.keys 41) (env41 (.int .i64 n) (.imm .arg 2 lc) (.int .i64 x) (.imm .lit 1 []) (.sl 0 0 m (some m) m 1) .undef qv (.int .i64 (i : Int)) (.int .i64 y) wv (.int .i64 (IntKind.i64.wrap ((j : Int) + 1))) (.int .i64 x0)) H :=
  RunsTo.hint 1 60 [⟨14, 2, .int .i64 n0, H⟩, ⟨14, 3, .bool true, H⟩, ⟨16, 2, a0, H⟩, ⟨16, 3, .int .i64 x0, H⟩, ⟨17, 2, .ptr 0 ((x0).toNat) 0 m, H⟩, ⟨17, 3, .int .i64 x1, H⟩, ⟨17, 4, .bool false, H⟩] fun kf hk => by
    obtain ⟨kf, rfl⟩ : ∃ n, kf = n + 1 := ⟨kf - 1, by omega⟩
    exact ⟨[(lenV Try.prog H 24 wv).map (fun v => (v, (H : Heap))) = some (.int .i64 n0, H), some (HV.bool (decide ((j : Int) < n0)), (H : Heap)) = some (.bool true, H), (idxV Try.prog 24 wv (.int .i64 (j : Int))).map (fun v => (v, (H : Heap))) = some (a0, H), (loadV Try.prog H 3 (a0)).map (fun v => (v, (H : Heap))) = some (.int .i64 x0, H), (idxV Try.prog 24 (.sl 0 0 m (some m) m 1) (.int .i64 x0)).map (fun v => (v, (H : Heap))) = some (.ptr 0 ((x0).toNat) 0 m, H), (loadV Try.prog H 3 (.ptr 0 ((x0).toNat) 0 m)).map (fun v => (v, (H : Heap))) = some (.int .i64 x1, H), some (HV.bool (decide (x1 < 0)), (H : Heap)) = some (.bool false, H)], by kernel_rfl, Obls.cons (hintOp g0) (Obls.cons (hintB (decide_eq_true g1)) (Obls.cons (hintOp g2) (Obls.cons (hintOp g3) (Obls.cons (hintOp g4) (Obls.cons (hintOp g5) (Obls.cons (hintB (decide_eq_false g6)) Obls.nil))))))⟩
theorem fa_l2_2 (n : Int) (lc : List HV) (x : Int) (m : Nat) (qv : HV) (H : Heap) (i : Nat) (y : Int) (wv : HV) (j : Nat) (n0 : Int) (g0 : lenV Try.prog H 24 wv = some (.int .i64 n0)) (g1 : ¬ ((j : Int) < n0)) : RunsTo Try.prog polN 41 (sub [1, 1, 1, 1, 1, 0, 1, 0, 0, 1, 0, 0, 1, 1, 1, 0, 0] B41) (env41 (.int .i64 n) (.imm .arg 2 lc) (.int .i64 x) (.imm .lit 1 []) (.sl 0 0 m (some m) m 1) .undef qv (.int .i64 (i : Int)) (.int .i64 y) wv (.int .i64 (j : Int)) .undef) H (.exit 4) (polN.keys 41) (env41 (.int .i64 n) (.imm .arg 2 lc) (.int .i64 x) (.imm .lit 1 []) (.sl 0 0 m (some m) m 1) .undef qv (.int .i64 (i : Int)) (.int .i64 y) wv (.int .i64 (j : Int)) .undef) H :=
  RunsTo.hint 1 60 [⟨14, 2, .int .i64 n0, H⟩, ⟨14, 3, .bool false, H⟩] fun kf hk => by
    obtain ⟨kf, rfl⟩ : ∃ n, kf = n + 1 := ⟨kf - 1, by omega⟩
    exact ⟨[(lenV Try.prog H 24 wv).map (fun v => (v, (H : Heap))) = some (.int .i64 n0, H), some (HV.bool (decide ((j : Int) < n0)), (H : Heap)) = some (.bool false, H)], by kernel_rfl, Obls.cons (hintOp g0) (Obls.cons (hintB (decide_eq_false g1)) Obls.nil)⟩
theorem fa_n_0 (n : Int) (lc : List HV) (x : Int) (m : Nat) (qv : HV) (H : Heap) (i : Nat) (y : Int) (wv : HV) (j : Nat) (v14 : HV)   : RunsTo Try.prog polN 41 (sub [1, 1, 1, 1, 1, 0, 1, 0, 0, 1, 1] B41) (env41 (.int .i64 n) (.imm .arg 2 lc) (.int .i64 x) (.imm .lit 1 []) (.sl 0 0 m (some m) m 1) .undef qv (.int .i64 (i : Int)) (.int .i64 y) wv (.int .i64 (j : Int)) v14) H (.normal) (polN.keys 41) (env41 (.int .i64 n) (.imm .arg 2 lc) (.int .i64 x) (.imm .lit 1 []) (.sl 0 0 m (some m) m 1) .undef qv (.int .i64 (IntKind.i64.wrap ((i : Int) + 1))) (.int .i64 y) wv (.int .i64 (j : Int)) v14) H :=
  RunsTo.hint 1 60 [] fun kf hk => by
    obtain ⟨kf, rfl⟩ : ∃ n, kf = n + 1 := ⟨kf - 1, by omega⟩
    exact ⟨[], by kernel_rfl, Obls.nil⟩
theorem fa_z_0 (n : Int) (lc : List HV) (x : Int) (m : Nat) (qv : HV) (H : Heap) (i : Nat)   : RunsTo Try.prog polN 41 (sub [1, 1, 1, 1, 1, 1] B41) (env41 (.int .i64 n) (.imm .arg 2 lc) (.int .i64 x) (.imm .lit 1 []) (.sl 0 0 m (some m) m 1) .undef qv (.int .i64 (i : Int)) .undef .undef .undef .undef) H (.ret) (polN.keys 41) (env41 (.int .i64 n) (.imm .arg 2 lc) (.int .i64 x) (.sl 0 0 m (some m) m 1) (.sl 0 0 m (some m) m 1) .undef qv (.int .i64 (i : Int)) .undef .undef .undef .undef) H :=
  RunsTo.hint 1 60 [] fun kf hk => by
    obtain ⟨kf, rfl⟩ : ∃ n, kf = n + 1 := ⟨kf - 1, by omega⟩
    exact ⟨[], by kernel_rfl, Obls.nil⟩
end Go.Proofs.Ytmhfkhlamnapdaa
end
section
open Go Go.HL
namespace Go.Proofs.Ytmhfkhlamnapdaa
theorem trues_mem (r : List Bool) : ∀ (d j : Nat) (acc : List Int) (z : Int), z ∈ truesFrom r j d acc ↔ z ∈ acc ∨ ∃ k : Nat, z = (k : Int) ∧ j ≤ k ∧ k < j + d ∧ bitAt r k = true
  | 0, j, acc, z => by
    rw [truesFrom]
    constructor
    · exact .inl
    · rintro (h | ⟨k, _, h1, h2, _⟩)
      · exact h
      · omega
  | d + 1, j, acc, z => by
    rw [truesFrom, trues_mem r d (j + 1)]
    constructor
    · rintro (h | ⟨k, e, h1, h2, h3⟩)
      · split at h
        · rename_i hb
          rcases List.mem_append.1 h with h | h
          · exact .inl h
          · rw [List.mem_singleton] at h
            exact .inr ⟨j, h, Nat.le_refl _, by omega, hb⟩
        · exact .inl h
      · exact .inr ⟨k, e, by omega, by omega, h3⟩
    · rintro (h | ⟨k, e, h1, h2, h3⟩)
      · left
        split
        · exact List.mem_append_left _ h
        · exact h
      · by_cases hk : k = j
        · subst hk
          left
          rw [if_pos h3, e]
          simp
        · exact .inr ⟨k, e, by omega, by omega, h3⟩
theorem trues_len (r : List Bool) : ∀ (d j : Nat) (acc : List Int), (truesFrom r j d acc).length ≤ acc.length + d
  | 0, j, acc => by rw [truesFrom]; omega
  | d + 1, j, acc => by
    rw [truesFrom]
    have := trues_len r d (j + 1) (if bitAt r j = true then acc ++ [(j : Int)] else acc)
    have h2 : (if bitAt r j = true then acc ++ [(j : Int)] else acc).length ≤ acc.length + 1 := by split <;> simp
    omega
theorem mark_get (x : Int) : ∀ (l : List (Int × Int)) (F : List Bool) (y : Nat), (∀ p ∈ l, p.1.toNat < F.length ∧ p.2.toNat < F.length) →
    (bitAt (nbMark x l F) y = true ↔ bitAt F y = true ∨ ∃ p ∈ l, (p.1 = x ∧ p.2.toNat = y) ∨ (p.2 = x ∧ p.1.toNat = y))
  | [], F, y, _ => by simp [nbMark]
  | p :: l, F, y, hv => by
    have hp := hv p (by simp)
    have one : ∀ (G : List Bool) (c : Prop) [Decidable c] (i : Nat), i < G.length → (bitAt (if c then G.set i true else G) y = true ↔ bitAt G y = true ∨ (c ∧ i = y)) := by
      intro G c _ i hi
      split
      · rename_i hc
        rw [bitAt_set _ _ _ _ hi]
        split
        · rename_i e; simp [hc, e]
        · rename_i e; simp [e]
      · rename_i hc; simp [hc]
    have hlen : ∀ (G : List Bool) (c : Prop) [Decidable c] (i : Nat), (if c then G.set i true else G).length = G.length := by intro G c _ i; split <;> simp
    rw [nbMark]
    have e1 : (if p.2 = x then (if p.1 = x then F.set p.2.toNat true else F).set p.1.toNat true else (if p.1 = x then F.set p.2.toNat true else F)).length = F.length := by rw [hlen, hlen]
    rw [mark_get x l _ y (fun q hq => by rw [e1]; exact hv q (by simp [hq])), one _ _ _ (by rw [hlen]; exact hp.1), one _ _ _ hp.2]
    constructor
    · rintro (((h | h) | h) | ⟨q, hq, h⟩)
      · exact .inl h
      · exact .inr ⟨p, by simp, .inl h⟩
      · exact .inr ⟨p, by simp, .inr h⟩
      · exact .inr ⟨q, by simp [hq], h⟩
    · rintro (h | ⟨q, hq, h⟩)
      · exact .inl (.inl (.inl h))
      · rcases List.mem_cons.1 hq with rfl | hq
        · rcases h with h | h
          · exact .inl (.inl (.inr h))
          · exact .inl (.inr h)
        · exact .inr ⟨q, hq, h⟩
/-- The neighbors of a place as numbers. -/
def nbN (m : Nat) (l : List (Int × Int)) (x : Nat) : List Nat := (nbrs m l (x : Int)).map Int.toNat
theorem nbN_mem {m : Nat} {l : List (Int × Int)} (hv : ∀ p ∈ l, inB m p) {x y : Nat} : y ∈ nbN m l x ↔ y < m ∧ ∃ p ∈ l, (p.1.toNat = x ∧ p.2.toNat = y) ∨ (p.2.toNat = x ∧ p.1.toNat = y) := by
  unfold nbN nbrs
  rw [List.mem_map]
  have hz : bitAt (List.replicate m false) y = false := by
    unfold bitAt
    rw [List.getElem?_replicate]
    split <;> rfl
  have hm := mark_get (x : Int) l (List.replicate m false) y (fun p hp => by
    obtain ⟨⟨_, h1⟩, _, h2⟩ := hv p hp
    simpa using ⟨h1, h2⟩)
  rw [hz] at hm
  simp only [Bool.false_eq_true, false_or] at hm
  have hpe : (∃ p ∈ l, (p.1 = (x : Int) ∧ p.2.toNat = y) ∨ (p.2 = (x : Int) ∧ p.1.toNat = y)) ↔ ∃ p ∈ l, (p.1.toNat = x ∧ p.2.toNat = y) ∨ (p.2.toNat = x ∧ p.1.toNat = y) := by
    constructor
    · rintro ⟨p, hp, h⟩
      exact ⟨p, hp, by omega⟩
    · rintro ⟨p, hp, h⟩
      obtain ⟨⟨a, _⟩, b, _⟩ := hv p hp
      exact ⟨p, hp, by omega⟩
  rw [hpe] at hm
  constructor
  · rintro ⟨z, hz1, rfl⟩
    rw [trues_mem] at hz1
    rcases hz1 with h | ⟨k, rfl, h1, h2, h3⟩
    · cases h
    · rw [Int.toNat_natCast] at hm ⊢
      exact ⟨by omega, hm.1 h3⟩
  · rintro ⟨h1, h2⟩
    exact ⟨(y : Int), (trues_mem _ _ _ _ _).2 (.inr ⟨y, rfl, Nat.zero_le _, by omega, hm.2 h2⟩), Int.toNat_natCast y⟩
theorem nbN_enc (m : Nat) (l : List (Int × Int)) (x : Nat) : (nbrs m l (x : Int)).map encI = (nbN m l x).map encN := by
  unfold nbN
  rw [List.map_map]
  refine List.map_congr_left fun z hz => ?_
  rw [nbrs, trues_mem] at hz
  rcases hz with h | ⟨k, rfl, _⟩
  · cases h
  · simp [encN]
theorem nbN_len (m : Nat) (l : List (Int × Int)) (x : Nat) : (nbN m l x).length ≤ m := by
  unfold nbN nbrs
  have := trues_len (nbMark (x : Int) l (List.replicate m false)) m 0 []
  simp at this ⊢; omega
end Go.Proofs.Ytmhfkhlamnapdaa
end
