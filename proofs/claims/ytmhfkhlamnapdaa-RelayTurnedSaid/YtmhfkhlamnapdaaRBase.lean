/- A part of the proof: RBase. -/
import Derived.Test.YtmhfkhlamnapdaaHlE
import Derived.ProofKit
import Derived.Test.YtmhfkhlamnapdaaProg
set_option linter.unusedVariables false
set_option linter.unusedSimpArgs false
open Go Go.HL
namespace Go.Proofs.Ytmhfkhlamnapdaa
def keysT : List (List Nat) := [[], [], [], [0, 1, 4, 5, 6, 7, 8, 9, 10], [0, 1, 2, 5, 6, 7, 8, 9, 10, 11, 12, 13], [0, 1, 2, 6, 7, 8, 9, 10, 11, 12, 13, 14], [0, 1, 2, 6, 7, 8, 9, 10, 11, 12, 13, 14, 15, 16, 17, 18], [0, 2, 3, 4, 5, 6, 7, 8, 9, 10], [0, 1, 2, 4, 5, 6, 7], [0, 1, 2, 6, 7, 8, 9, 10, 11, 12, 13, 15, 16, 17, 18, 19, 20, 21, 22, 23, 25, 26], [0, 1, 2, 6, 7, 8, 9, 10, 11], [0, 2, 3, 4, 5, 6, 7, 8], [0, 1, 2, 6, 7, 8, 9, 10, 11, 12, 13], [0, 1, 4, 5, 6, 7, 8, 9, 10], [0, 1, 2, 6, 7, 8, 9, 10, 11, 12, 13, 14, 15, 16, 17, 18, 19], [0, 2, 3, 4, 5, 6], [0, 2, 3], [0, 1, 4, 5, 6, 7, 8, 9, 10, 11, 12, 13, 14, 23, 24, 36, 37, 38], [0, 1, 4, 5, 6, 7, 8, 9], [0, 1, 2, 3, 4, 5, 6, 7, 8, 9, 10, 11], [0, 1, 4, 5, 6, 7, 8, 9], [0, 1, 4, 5], [0, 1, 4], [0, 1, 4, 5, 6, 7], [0, 1, 2, 6, 7, 8, 9], [0, 1, 2, 6, 7, 8, 9], [0, 1, 2, 6], [0, 2, 3, 4, 5, 6, 7, 8, 18, 19, 23, 24], [0, 2, 3, 4, 5], [0, 1, 2, 3, 8, 9, 10, 11, 13, 14, 16, 17, 18, 20, 39, 40, 41, 46, 47, 48, 97, 98, 99], [0, 1, 2, 3, 8, 9, 10, 11, 12, 13, 14, 15, 16, 17], [0, 1, 2, 6, 7, 8, 9, 10, 11], [0, 1, 4, 5], [0, 2, 3], [0, 1, 2, 3, 4, 5, 6, 7, 13, 14, 17, 18], [0, 1, 4, 5], [0, 2, 3, 4, 5, 6, 7, 8], [0, 2], [0, 1, 4, 5, 6, 7], [0, 1, 4, 5, 6], [0, 1, 2, 6], [0, 1, 2, 6, 7, 8, 9, 10, 11, 12, 13, 14], [0, 1, 4, 5, 6, 7, 8, 10, 11, 12, 13, 22, 23, 24, 28, 29], [0, 1, 4, 5, 6, 7, 8, 10, 19, 20, 26, 27, 28], [0, 1, 4, 5, 6, 7, 8, 9, 10, 11, 12, 13, 14, 15], [0, 1, 4, 5, 6, 7, 8], [0, 1, 4, 5, 6, 8, 24, 25, 26], [0, 1, 2, 3, 6, 7, 9, 10, 11, 12, 28, 29, 30], [0, 2, 3, 4], [0, 1, 2, 6], [0, 1, 2, 4, 5, 6, 7, 8, 10, 16, 17, 42, 43, 44], [0, 1, 2, 6, 7, 8, 9, 10, 11, 12], [0, 1, 4], [0, 1, 2, 6, 7], [0, 1, 2, 3, 4, 5, 10, 14, 15, 16], [0, 1, 2, 3, 4, 5, 6, 7], [0, 1, 2], [0, 1, 2, 3, 8, 9, 10, 11, 12, 13, 14, 15, 16], [0, 1, 4, 5, 6, 7, 9, 10, 11, 12, 24, 25, 34, 35, 36, 70, 71], [0, 1, 4, 5, 7, 8], [0, 1, 4, 5, 6, 7], [0, 2], [0, 1, 3], [0, 1, 3, 4, 5], [0, 1, 2, 4], [0, 1, 4, 5, 7, 8], [0, 1], [0, 1, 2, 5], [0, 1, 4, 5, 6], [0, 1, 2, 6, 7, 8, 9], [0, 2], [0, 1, 2, 3, 8, 9], [0, 1, 2, 3, 4, 10, 11, 12, 13, 14, 15, 16, 17, 18, 19, 20, 21, 22, 23, 24], [0, 1, 2, 3, 4, 10, 11], [0, 1, 2, 3, 10], [], [], [], [], [], [], [], [], [], [], [], [], [], [], [], []]
def resT : List (List Nat) := [[], [], [], [4], [6], [6], [6], [2], [4], [6], [6], [2], [6], [4], [6], [2], [2], [4, 5, 6], [4], [0], [4, 5], [4], [4], [4], [6, 7], [6, 7], [6], [2, 3], [2], [8], [8], [6, 7], [4], [2, 3], [2, 3], [4], [2], [2], [4], [4], [6], [6], [4, 5], [4], [4], [4], [5], [6], [2], [6], [4], [6], [4], [6], [], [6], [], [8], [4, 5], [4], [4], [2], [3], [4], [4], [4], [], [5], [4], [], [2], [], [], [], [], [], [], [], [], [], [], [], [], [], [], [], [], [], [], [], []]
def sharedT : List Nat := [47, 50, 54, 55, 56, 60, 62, 63, 64, 65, 66, 67, 69, 71, 72, 73, 74, 83, 84, 85, 86, 87, 88, 89]
/-- Slots that are dead where a loop's round begins: function, first region, slots. -/
def deadT : List (Nat × Nat × List Nat) := [(58, 5, [7]), (58, 10, [7, 9, 10, 11, 12, 70, 71]), (58, 16, [11, 12]), (43, 6, [8]), (43, 11, [8, 10]), (7, 7, [7, 8, 9, 10]), (7, 13, [9, 10]), (5, 9, [9, 11, 13, 14]), (6, 11, [10, 12, 14, 17, 18]), (6, 18, [10, 12, 13, 14, 16]), (9, 9, [17, 18, 19, 20, 21, 22, 23, 25, 26]), (9, 12, [18, 19, 20, 21, 22, 23, 25, 26]), (9, 17, [9, 11, 13, 16, 17, 20, 21, 22, 23, 25, 26]), (9, 20, [9, 11, 13, 16, 17, 21, 22, 23, 25, 26]), (10, 9, [9]), (13, 10, [7]), (14, 5, [11, 12, 13, 14, 15, 16, 17, 18, 19]), (14, 9, [10, 12, 13, 14, 15, 16, 17, 18, 19]), (14, 23, [7, 8, 9, 10, 11, 12, 13, 14, 16, 18]), (17, 6, [8, 11, 12, 13, 14, 36, 37, 38]), (17, 12, [7, 8, 9, 11, 13, 14, 23, 24]), (18, 4, [6, 7, 8, 9]), (18, 11, [5, 6, 7]), (20, 4, [9]), (23, 3, [7]), (27, 5, [5, 6, 7, 8, 23, 24]), (27, 9, [7, 8]), (28, 3, [5]), (29, 6, [10, 13, 14, 16, 17, 18, 20, 46, 47, 48, 97, 98, 99]), (29, 10, [10, 16, 17, 18, 20, 97, 98, 99]), (29, 18, [10, 13, 14, 16, 17, 18, 20, 46, 47, 48]), (30, 5, [12, 13, 14, 15, 16, 17]), (30, 10, [15, 16, 17]), (30, 18, [12, 14, 15, 16]), (34, 6, [1, 5, 6, 7, 17, 18]), (34, 9, [1, 6, 7]), (36, 4, [6, 7, 8]), (36, 8, [8]), (38, 2, [6, 7]), (41, 3, [9, 10, 11, 12, 13, 14]), (41, 9, [8, 11, 12, 13, 14]), (41, 14, [8, 14]), (42, 6, [6, 7, 10, 11, 12, 13, 28, 29]), (42, 10, [6, 7, 10, 12, 13]), (44, 3, [7, 8, 9, 10, 11, 12, 13, 14, 15]), (44, 7, [6, 8, 9, 10, 11, 12, 13, 14, 15]), (44, 11, [6, 11, 12, 13, 14, 15]), (44, 18, [6, 7, 8, 9, 10, 11, 14, 15]), (44, 22, [6, 7, 8, 9, 10, 11]), (45, 3, [7, 8]), (46, 5, [8]), (47, 6, [9, 11, 12]), (50, 3, [6, 7, 8, 10, 42, 43, 44]), (50, 10, [6, 10, 16, 17, 42, 43, 44]), (50, 13, [6, 10, 16, 17]), (51, 3, [9, 10, 11, 12]), (51, 12, [8, 9, 10]), (54, 1, [10]), (57, 4, [12, 13, 14, 15, 16]), (57, 9, [14, 15, 16]), (57, 17, [10, 11, 12, 13, 14]), (59, 2, [5]), (60, 5, [7]), (65, 2, [5]), (69, 2, [9]), (69, 7, [7, 8, 9]), (69, 9, [9]), (71, 1, [9]), (72, 3, [12, 13, 14, 15, 16, 17, 18, 19, 20, 21, 22, 23, 24]), (72, 9, [11, 12, 14, 15, 16, 17, 18, 19, 20, 21, 22, 23, 24]), (72, 15, [10, 11, 12, 13, 16, 17, 18, 19, 20, 21, 22, 23, 24]), (72, 21, [10, 11, 12, 13, 15, 16, 18, 19, 20, 21, 22, 23, 24]), (72, 33, [10, 11, 12, 13, 14, 15, 16, 17, 23, 24])]
def pol : Pol where
  shared g := sharedT.contains g
  freeze _ _ := true
  freezeS _ _ := false
  blk g d := !((resT.getD g []).contains d)
  nilf g := g == 61
  deep _ := false
  prim _ := none
  rows g _ := g == 31 || g == 46
  keys g := keysT.getD g []
  quiet _ _ := []
  dead f r := ((deadT.find? fun p => p.1 == f && p.2.1 == r).map (·.2.2)).getD []
theorem follows_mixed : Try.prog.follows .mixedOrders = true := by kernel_rfl

set_option maxRecDepth 100000 in
theorem fns_ok : (Try.prog.funcs.toList.zipIdx.all fun p => fnOk pol p.2 p.1) = true := by kernel_rfl
theorem sound (n : Nat) : CallSound Try.prog (callN Try.prog pol n) :=
  callN_ok follows_mixed (fun g fn h => List.all_eq_true.1 fns_ok (fn, g) (by
      rw [List.mem_zipIdx_iff_getElem?]
      simpa using h)) (fun g F h => by cases h) n
theorem sound_prim (F : FuncId → Option (List HV → Option HV)) (hF : ∀ g f, F g = some f → PrimOk Try.prog g f) (n : Nat) : CallSound Try.prog (callN Try.prog { pol with prim := F } n) :=
  callN_ok follows_mixed (fun g fn h => by
    rw [fnOk_prim]
    exact List.all_eq_true.1 fns_ok (fn, g) (by
      rw [List.mem_zipIdx_iff_getElem?]
      simpa using h)) hF n
set_option maxRecDepth 100000 in
theorem awake_run : callN Try.prog pol 200 19 [] [] = some (.bool true, []) := by kernel_rfl
def awakeF : List HV → Option HV | [] => some (.bool true) | _ => none
theorem awake_prim : PrimOk Try.prog 19 awakeF := by
  refine primOk_of (pol := pol) sound (by kernel_rfl) fun args res h => ?_
  match args, h with
  | [], h =>
    cases h
    exact ⟨200, _, _, false, awake_run, rfl⟩
/-- The policy whose 'awake' is known. -/
def polA : Pol := { pol with prim := fun g => if g == 19 then some awakeF else none }
theorem soundA (n : Nat) : CallSound Try.prog (callN Try.prog polA n) := sound_prim _ (fun g f h => by
  split at h
  · rename_i hg
    cases h
    rw [eq_of_beq hg]
    exact awake_prim
  · cases h) n
def withinF : List HV → Option HV
  | [.int .i64 n, .int .i64 lo, .int .i64 hi] => some (.bool (decide (lo ≤ n ∧ n ≤ hi)))
  | _ => none
/-- The policy whose 'awake' and 'within' are known. -/
def polB : Pol := { pol with prim := fun g => if g == 19 then some awakeF else if g == 49 then some withinF else none }
def cL : Code → Code | .seq a _ => a | c => c
def cR : Code → Code | .seq _ b => b | c => c
def isTrue (t : Nat) : Option Out → Bool
  | some (.exit _, _, _) => false
  | some (_, e, _) => (match e.get t with | .bool b => b | _ => false)
  | none => false

def modW (a : Int) (n : Int) : Int := IntKind.i64.wrap ((IntKind.u64.wrap a).tmod (IntKind.u64.wrap n))
theorem wrapU64 (n : Int) : IntKind.u64.wrap n = n % 18446744073709551616 := by simp [IntKind.wrap, IntKind.signed, IntKind.bits]
theorem wrapI64 (n : Int) : IntKind.i64.wrap n = (n + 9223372036854775808) % 18446744073709551616 - 9223372036854775808 := by rw [IntKind.wrap_i64]
theorem modW_bounds (a n : Int) (h0 : 0 < n) (h1 : n < 9223372036854775808) : 0 ≤ modW a n ∧ modW a n < n := by
  have hn : IntKind.u64.wrap n = n := by rw [wrapU64]; omega
  have ha : 0 ≤ IntKind.u64.wrap a := by rw [wrapU64]; omega
  have hm0 : 0 ≤ IntKind.u64.wrap a % n := Int.emod_nonneg _ (by omega)
  have hm1 : IntKind.u64.wrap a % n < n := Int.emod_lt_of_pos _ h0
  simp only [modW, hn]
  rw [Int.tmod_eq_emod_of_nonneg ha, wrapI64]
  constructor <;> omega
end Go.Proofs.Ytmhfkhlamnapdaa
