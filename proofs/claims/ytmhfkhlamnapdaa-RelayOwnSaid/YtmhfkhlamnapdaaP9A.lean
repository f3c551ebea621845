/- A part of the proof. -/
import Derived.Test.YtmhfkhlamnapdaaHlA
import Derived.Test.YtmhfkhlamnapdaaHlB
import Derived.Test.YtmhfkhlamnapdaaHlC
import Derived.Test.YtmhfkhlamnapdaaHlD
import Derived.Test.YtmhfkhlamnapdaaHlE
import Derived.Test.YtmhfkhlamnapdaaHlF
import Derived.ProofKit
import Derived.Test.YtmhfkhlamnapdaaProg
import Derived.Deep.Slices
import Derived.OpenShut
set_option linter.unusedVariables false
set_option linter.unusedSimpArgs false
namespace Go.HL
abbrev HV.i (n : Int) : HV := .int .i64 n
section
variable {P : Program} {pol : Pol} {f : FuncId} {c : Code} {e E : Env} {H H' : Heap} {x : X} {K : List Nat}
theorem RunsTo.hin (d n : Nat) (hs : List Hint) (h : ∀ k, d ≤ k → ∃ ob, hview K (evCH P pol (callN P pol (k + 1)) n f c e H hs) = some (x, E, H', ob) ∧ Obls ob) : RunsTo P pol f c e H x K E H' := RunsTo.hint (d + 1) n hs fun k hk => by
  obtain ⟨k, rfl⟩ : ∃ n, k = n + 1 := ⟨k - 1, by omega⟩
  exact h k (by omega)
theorem oC {p : Prop} {os : List Prop} (h : p) (t : Obls os) : Obls (p :: os) := Obls.cons h t
theorem oP (H : Heap) {r : Option HV} {v : HV} {os : List Prop} (h : r = some v) (t : Obls os) : Obls ((r.map (fun v => (v, H)) = some (v, H)) :: os) := Obls.cons (hintOp h) t
theorem oS {r : Option Heap} {H : Heap} {os : List Prop} (h : r = some H) (t : Obls os) : Obls ((r.map (fun H => (HV.tuple [], H)) = some (.tuple [], H)) :: os) := Obls.cons (hintSt h) t
theorem oB (H : Heap) {p b : Bool} {os : List Prop} (h : p = b) (t : Obls os) : Obls ((some (HV.bool p, H) = some (HV.bool b, H)) :: os) := Obls.cons (hintB h) t
end
end Go.HL
section
open Go Go.HL
namespace Go.Proofs.Ytmhfkhlamnapdaa
def keysT : List (List Nat) := [[], [], [], [0, 1, 4, 5, 6, 7, 8, 9, 10], [0, 1, 2, 5, 6, 7, 8, 9, 10, 11, 12, 13], [0, 1, 2, 6, 7, 8, 9, 10, 11, 12, 13, 14], [0, 1, 2, 6, 7, 8, 9, 10, 11, 12, 13, 14, 15, 16, 17, 18], [0, 2, 3, 4, 5, 6, 7, 8, 9, 10], [0, 1, 2, 4, 5, 6, 7], [0, 1, 2, 6, 7, 8, 9, 10, 11, 12, 13, 15, 16, 17, 18, 19, 20, 21, 22, 23, 25, 26], [0, 1, 2, 6, 7, 8, 9, 10, 11], [0, 2, 3, 4, 5, 6, 7, 8], [0, 1, 2, 6, 7, 8, 9, 10, 11, 12, 13], [0, 1, 4, 5, 6, 7, 8, 9, 10], [0, 1, 2, 6, 7, 8, 9, 10, 11, 12, 13, 14, 15, 16, 17, 18, 19], [0, 2, 3, 4, 5, 6], [0, 2, 3], [0, 1, 4, 5, 6, 7, 8, 9, 10, 11, 12, 13, 14, 23, 24, 36, 37, 38], [0, 1, 4, 5, 6, 7, 8, 9], [0, 1, 2, 3, 4, 5, 6, 7, 8, 9, 10, 11], [0, 1, 4, 5, 6, 7, 8, 9], [0, 1, 4, 5], [0, 1, 4], [0, 1, 4, 5, 6, 7], [0, 1, 2, 6, 7, 8, 9], [0, 1, 2, 6, 7, 8, 9], [0, 1, 2, 6], [0, 2, 3, 4, 5, 6, 7, 8, 18, 19, 23, 24], [0, 2, 3, 4, 5], [0, 1, 2, 3, 8, 9, 10, 11, 13, 14, 16, 17, 18, 20, 39, 40, 41, 46, 47, 48, 97, 98, 99], [0, 1, 2, 3, 8, 9, 10, 11, 12, 13, 14, 15, 16, 17], [0, 1, 2, 6, 7, 8, 9, 10, 11], [0, 1, 4, 5], [0, 2, 3], [0, 1, 2, 3, 4, 5, 6, 7, 13, 14, 17, 18], [0, 1, 4, 5], [0, 2, 3, 4, 5, 6, 7, 8], [0, 2], [0, 1, 4, 5, 6, 7], [0, 1, 4, 5, 6], [0, 1, 2, 6], [0, 1, 2, 6, 7, 8, 9, 10, 11, 12, 13, 14], [0, 1, 4, 5, 6, 7, 8, 10, 11, 12, 13, 22, 23, 24, 28, 29], [0, 1, 4, 5, 6, 7, 8, 10, 19, 20, 26, 27, 28], [0, 1, 4, 5, 6, 7, 8, 9, 10, 11, 12, 13, 14, 15], [0, 1, 4, 5, 6, 7, 8], [0, 1, 4, 5, 6, 8, 24, 25, 26], [0, 1, 2, 3, 6, 7, 9, 10, 11, 12, 28, 29, 30], [0, 2, 3, 4], [0, 1, 2, 6], [0, 1, 2, 4, 5, 6, 7, 8, 10, 16, 17, 42, 43, 44], [0, 1, 2, 6, 7, 8, 9, 10, 11, 12], [0, 1, 4], [0, 1, 2, 6, 7], [0, 1, 2, 3, 4, 5, 10, 14, 15, 16], [0, 1, 2, 3, 4, 5, 6, 7], [0, 1, 2], [0, 1, 2, 3, 8, 9, 10, 11, 12, 13, 14, 15, 16], [0, 1, 4, 5, 6, 7, 9, 10, 11, 12, 24, 25, 34, 35, 36, 70, 71], [0, 1, 4, 5, 7, 8], [0, 1, 4, 5, 6, 7], [0, 2], [0, 1, 3], [0, 1, 3, 4, 5], [0, 1, 2, 4], [0, 1, 4, 5, 7, 8], [0, 1], [0, 1, 2, 5], [0, 1, 4, 5, 6], [0, 1, 2, 6, 7, 8, 9], [0, 2], [0, 1, 2, 3, 8, 9], [0, 1, 2, 3, 4, 10, 11, 12, 13, 14, 15, 16, 17, 18, 19, 20, 21, 22, 23, 24], [0, 1, 2, 3, 4, 10, 11], [0, 1, 2, 3, 10], [], [], [], [], [], [], [], [], [], [], [], [], [], [], [], []]
def resT : List (List Nat) := [[], [], [], [4], [6], [6], [6], [2], [4], [6], [6], [2], [6], [4], [6], [2], [2], [4, 5, 6], [4], [0], [4, 5], [4], [4], [4], [6, 7], [6, 7], [6], [2, 3], [2], [8], [8], [6, 7], [4], [2, 3], [2, 3], [4], [2], [2], [4], [4], [6], [6], [4, 5], [4], [4], [4], [5], [6], [2], [6], [4], [6], [4], [6], [], [6], [], [8], [4, 5], [4], [4], [2], [3], [4], [4], [4], [], [5], [4], [], [2], [], [], [], [], [], [], [], [], [], [], [], [], [], [], [], [], [], [], [], []]
def sharedT : List Nat := [47, 50, 54, 55, 56, 60, 62, 63, 64, 65, 66, 67, 69, 71, 72, 73, 74, 83, 84, 85, 86, 87, 88, 89]
def deadT : List (Nat × Nat × List Nat) := [(58, 5, [7]), (58, 10, [7, 9, 10, 11, 12, 70, 71]), (58, 16, [11, 12]), (43, 6, [8]), (43, 11, [8, 10]), (7, 7, [7, 8, 9, 10]), (7, 13, [9, 10]), (5, 9, [9, 11, 13, 14]), (6, 11, [10, 12, 14, 17, 18]), (6, 18, [10, 12, 13, 14, 16]), (9, 9, [17, 18, 19, 20, 21, 22, 23, 25, 26]), (9, 12, [18, 19, 20, 21, 22, 23, 25, 26]), (9, 17, [9, 11, 13, 16, 17, 20, 21, 22, 23, 25, 26]), (9, 20, [9, 11, 13, 16, 17, 21, 22, 23, 25, 26]), (10, 9, [9]), (13, 10, [7]), (14, 5, [11, 12, 13, 14, 15, 16, 17, 18, 19]), (14, 9, [10, 12, 13, 14, 15, 16, 17, 18, 19]), (14, 23, [7, 8, 9, 10, 11, 12, 13, 14, 16, 18]), (17, 6, [8, 11, 12, 13, 14, 36, 37, 38]), (17, 12, [7, 8, 9, 11, 13, 14, 23, 24]), (18, 4, [6, 7, 8, 9]), (18, 11, [5, 6, 7]), (20, 4, [9]), (23, 3, [7]), (27, 5, [5, 6, 7, 8, 23, 24]), (27, 9, [7, 8]), (28, 3, [5]), (29, 6, [10, 13, 14, 16, 17, 18, 20, 46, 47, 48, 97, 98, 99]), (29, 10, [10, 16, 17, 18, 20, 97, 98, 99]), (29, 18, [10, 13, 14, 16, 17, 18, 20, 46, 47, 48]), (30, 5, [12, 13, 14, 15, 16, 17]), (30, 10, [15, 16, 17]), (30, 18, [12, 14, 15, 16]), (34, 6, [1, 5, 6, 7, 17, 18]), (34, 9, [1, 6, 7]), (36, 4, [6, 7, 8]), (36, 8, [8]), (38, 2, [6, 7]), (41, 3, [9, 10, 11, 12, 13, 14]), (41, 9, [8, 11, 12, 13, 14]), (41, 14, [8, 14]), (42, 6, [6, 7, 10, 11, 12, 13, 28, 29]), (42, 10, [6, 7, 10, 12, 13]), (44, 3, [7, 8, 9, 10, 11, 12, 13, 14, 15]), (44, 7, [6, 8, 9, 10, 11, 12, 13, 14, 15]), (44, 11, [6, 11, 12, 13, 14, 15]), (44, 18, [6, 7, 8, 9, 10, 11, 14, 15]), (44, 22, [6, 7, 8, 9, 10, 11]), (45, 3, [7, 8]), (46, 5, [8]), (47, 6, [9, 11, 12]), (50, 3, [6, 7, 8, 10, 42, 43, 44]), (50, 10, [6, 10, 16, 17, 42, 43, 44]), (50, 13, [6, 10, 16, 17]), (51, 3, [9, 10, 11, 12]), (51, 12, [8, 9, 10]), (54, 1, [10]), (57, 4, [12, 13, 14, 15, 16]), (57, 9, [14, 15, 16]), (57, 17, [10, 11, 12, 13, 14]), (59, 2, [5]), (60, 5, [7]), (65, 2, [5]), (69, 2, [9]), (69, 7, [7, 8, 9]), (69, 9, [9]), (71, 1, [9]), (72, 3, [12, 13, 14, 15, 16, 17, 18, 19, 20, 21, 22, 23, 24]), (72, 9, [11, 12, 14, 15, 16, 17, 18, 19, 20, 21, 22, 23, 24]), (72, 15, [10, 11, 12, 13, 16, 17, 18, 19, 20, 21, 22, 23, 24]), (72, 21, [10, 11, 12, 13, 15, 16, 18, 19, 20, 21, 22, 23, 24]), (72, 33, [10, 11, 12, 13, 14, 15, 16, 17, 23, 24])]
def pol : Pol where
  shared g := sharedT.contains g
  freeze _ _ := true
  freezeS _ _ := false
  blk g d := !((resT.getD g []).contains d)
  nilf g := g == 61
  deep _ := false
  prim _ := none
  rows g _ := g == 31 || g == 46
  keys g := keysT.getD g []
  quiet _ _ := []
  dead f r := ((deadT.find? fun p => p.1 == f && p.2.1 == r).map (·.2.2)).getD []
theorem follows_mixed : Try.prog.follows .mixedOrders = true := by kernel_rfl
set_option maxRecDepth 100000 in
theorem fns_ok : (Try.prog.funcs.toList.zipIdx.all fun p => fnOk pol p.2 p.1) = true := by kernel_rfl
theorem sound (n : Nat) : CallSound Try.prog (callN Try.prog pol n) :=
  callN_ok follows_mixed (fun g fn h => List.all_eq_true.1 fns_ok (fn, g) (by
      rw [List.mem_zipIdx_iff_getElem?]
      simpa using h)) (fun g F h => by cases h) n
theorem sound_prim (F : FuncId → Option (List HV → Option HV)) (hF : ∀ g f, F g = some f → PrimOk Try.prog g f) (n : Nat) : CallSound Try.prog (callN Try.prog { pol with prim := F } n) :=
  callN_ok follows_mixed (fun g fn h => by
    rw [fnOk_prim]
    exact List.all_eq_true.1 fns_ok (fn, g) (by
      rw [List.mem_zipIdx_iff_getElem?]
      simpa using h)) hF n
set_option maxRecDepth 100000 in
theorem awake_run : callN Try.prog pol 200 19 [] [] = some (.bool true, []) := by kernel_rfl
def awakeF : List HV → Option HV | [] => some (.bool true) | _ => none
theorem awake_prim : PrimOk Try.prog 19 awakeF := by
  refine primOk_of (pol := pol) sound (by kernel_rfl) fun args res h => ?_
  match args, h with
  | [], h =>
    cases h
    exact ⟨200, _, _, false, awake_run, rfl⟩
def withinF : List HV → Option HV
  | [.int .i64 n, .int .i64 lo, .int .i64 hi] => some (.bool (decide (lo ≤ n ∧ n ≤ hi)))
  | _ => none
def polB : Pol := { pol with prim := fun g => if g == 19 then some awakeF else if g == 49 then some withinF else none }
def modW (a : Int) (n : Int) : Int := IntKind.i64.wrap ((IntKind.u64.wrap a).tmod (IntKind.u64.wrap n))
theorem wrapU64 (n : Int) : IntKind.u64.wrap n = n % 18446744073709551616 := by simp [IntKind.wrap, IntKind.signed, IntKind.bits]
theorem wrapI64 (n : Int) : IntKind.i64.wrap n = (n + 9223372036854775808) % 18446744073709551616 - 9223372036854775808 := by rw [IntKind.wrap_i64]
theorem modW_bounds (a n : Int) (h0 : 0 < n) (h1 : n < 9223372036854775808) : 0 ≤ modW a n ∧ modW a n < n := by
  have hn : IntKind.u64.wrap n = n := by rw [wrapU64]; omega
  have ha : 0 ≤ IntKind.u64.wrap a := by rw [wrapU64]; omega
  have hm0 : 0 ≤ IntKind.u64.wrap a % n := Int.emod_nonneg _ (by omega)
  have hm1 : IntKind.u64.wrap a % n < n := Int.emod_lt_of_pos _ h0
  simp only [modW, hn]
  rw [Int.tmod_eq_emod_of_nonneg ha, wrapI64]
  constructor <;> omega
end Go.Proofs.Ytmhfkhlamnapdaa
end
section
open Go Go.HL
namespace Go.Proofs.Ytmhfkhlamnapdaa
set_option maxRecDepth 100000
noncomputable def B49 : Code := Try.f49.body.getD .skip
abbrev env49 (v0 v1 v2 v6 : HV) : Env := [(0, v0), (1, v1), (2, v2), (6, v6)]
theorem w49_0 (n lo hi : Int)(g0 : lo ≤ n) (g1 : n ≤ hi) : RunsTo Try.prog pol 49 (sub [] B49) [(0, .i n), (1, .i lo), (2, .i hi)] [] .ret (pol.keys 49) (env49 (.i n) (.i lo) (.i hi) (.bool true)) [] :=
  RunsTo.hint 1 60 [⟨1, 2, .bool true, []⟩, ⟨1, 6, .bool true, []⟩] fun k hk => by
    obtain ⟨k, rfl⟩ : ∃ n, k = n + 1 := ⟨k - 1, by omega⟩
    exact ⟨[some (HV.bool (decide (lo ≤ n)), ([] : Heap)) = some (.bool true, []), some (HV.bool (decide (n ≤ hi)), ([] : Heap)) = some (.bool true, [])], by kernel_rfl, Obls.cons (hintB (decide_eq_true g0)) (Obls.cons (hintB (decide_eq_true g1)) Obls.nil)⟩
theorem w49_1 (n lo hi : Int)(g0 : lo ≤ n) (g1 : ¬ (n ≤ hi)) : RunsTo Try.prog pol 49 (sub [] B49) [(0, .i n), (1, .i lo), (2, .i hi)] [] .ret (pol.keys 49) (env49 (.i n) (.i lo) (.i hi) (.bool false)) [] :=
  RunsTo.hint 1 60 [⟨1, 2, .bool true, []⟩, ⟨1, 6, .bool false, []⟩] fun k hk => by
    obtain ⟨k, rfl⟩ : ∃ n, k = n + 1 := ⟨k - 1, by omega⟩
    exact ⟨[some (HV.bool (decide (lo ≤ n)), ([] : Heap)) = some (.bool true, []), some (HV.bool (decide (n ≤ hi)), ([] : Heap)) = some (.bool false, [])], by kernel_rfl, Obls.cons (hintB (decide_eq_true g0)) (Obls.cons (hintB (decide_eq_false g1)) Obls.nil)⟩
theorem w49_2 (n lo hi : Int)(g0 : ¬ (lo ≤ n)) : RunsTo Try.prog pol 49 (sub [] B49) [(0, .i n), (1, .i lo), (2, .i hi)] [] .ret (pol.keys 49) (env49 (.i n) (.i lo) (.i hi) (.bool false)) [] :=
  RunsTo.hint 1 60 [⟨1, 2, .bool false, []⟩] fun k hk => by
    obtain ⟨k, rfl⟩ : ∃ n, k = n + 1 := ⟨k - 1, by omega⟩
    exact ⟨[some (HV.bool (decide (lo ≤ n)), ([] : Heap)) = some (.bool false, [])], by kernel_rfl, Obls.cons (hintB (decide_eq_false g0)) Obls.nil⟩
noncomputable def B22 : Code := Try.f22.body.getD .skip
abbrev env22 (v0 v1 v4 : HV) : Env := [(0, v0), (1, v1), (4, v4)]
theorem m22_0 (a n : Int)(g0 : binV Try.prog .rem 76 (.int .u64 (IntKind.u64.wrap a)) (.int .u64 (IntKind.u64.wrap n)) = some (.int .u64 ((IntKind.u64.wrap a : Int).tmod (IntKind.u64.wrap n)))) : RunsTo Try.prog pol 22 (sub [] B22) [(0, .i a), (1, .i n)] [] .ret (pol.keys 22) (env22 (.i a) (.i n) (.i (IntKind.i64.wrap ((IntKind.u64.wrap a : Int).tmod (IntKind.u64.wrap n))))) [] :=
  RunsTo.hint 1 60 [⟨1, 4, .int .u64 ((IntKind.u64.wrap a : Int).tmod (IntKind.u64.wrap n)), []⟩] fun k hk => by
    obtain ⟨k, rfl⟩ : ∃ n, k = n + 1 := ⟨k - 1, by omega⟩
    exact ⟨[(binV Try.prog .rem 76 (.int .u64 (IntKind.u64.wrap a)) (.int .u64 (IntKind.u64.wrap n))).map (fun v => (v, ([] : Heap))) = some (.int .u64 ((IntKind.u64.wrap a : Int).tmod (IntKind.u64.wrap n)), [])], by kernel_rfl, Obls.cons (hintOp g0) Obls.nil⟩
end Go.Proofs.Ytmhfkhlamnapdaa
end
section
open Go Go.HL
namespace Go.Proofs.Ytmhfkhlamnapdaa
set_option maxRecDepth 100000
noncomputable def B50 : Code := Try.f50.body.getD .skip
abbrev env50 (v0 v1 v2 v4 v5 v6 v7 v8 v10 v16 v17 v42 v43 v44 : HV) : Env := [(0, v0), (1, v1), (2, v2), (4, v4), (5, v5), (6, v6), (7, v7), (8, v8), (10, v10), (16, v16), (17, v17), (42, v42), (43, v43), (44, v44)]
theorem ff_a_0 (rows : List HV) (ks vs : List HV) (x : Int) : RunsTo Try.prog pol 50 (sub [0] B50) [(0, .agg [.imm .arg 1 rows, .imap .arg ks vs]), (1, .i x)] [] .normal (pol.keys 50) (env50 (.agg [.imm .arg 1 rows, .imap .arg ks vs]) (.i x) (.ptr 0 0 0 1) (.imm .lit 1 []) .undef .undef .undef .undef .undef .undef .undef .undef .undef .undef) [.arr 2 [.agg [.imm .arg 1 rows, .imap .arg ks vs]] true 0] :=
  RunsTo.hin 0 60 [] fun kf hk => ⟨_, by kernel_rfl, .nil⟩
theorem ff_b_0 (rows : List HV) (ks vs : List HV) (x : Int)(g0 : makeV Try.prog false 24 (.i (rows.length : Int)) (.i (rows.length : Int)) [.arr 2 [.agg [.imm .arg 1 rows, .imap .arg ks vs]] true 0] = some (.sl 1 0 rows.length (some rows.length) rows.length 1, [.arr 2 [.agg [.imm .arg 1 rows, .imap .arg ks vs]] true 0, .arr 1 (List.replicate rows.length (.i 0)) true 0])) : RunsTo Try.prog pol 50 (sub [1, 0] B50) (env50 (.agg [.imm .arg 1 rows, .imap .arg ks vs]) (.i x) (.ptr 0 0 0 1) (.imm .lit 1 []) .undef .undef .undef .undef .undef .undef .undef .undef .undef .undef) [.arr 2 [.agg [.imm .arg 1 rows, .imap .arg ks vs]] true 0] .normal (pol.keys 50) (env50 (.agg [.imm .arg 1 rows, .imap .arg ks vs]) (.i x) (.ptr 0 0 0 1) (.imm .lit 1 []) (.sl 1 0 rows.length (some rows.length) rows.length 1) .undef .undef .undef .undef .undef .undef .undef .undef .undef) [.arr 2 [.agg [.imm .arg 1 rows, .imap .arg ks vs]] true 0, .arr 1 (List.replicate rows.length (.i 0)) true 0] :=
  RunsTo.hin 0 60 [⟨1, 3, .sl 1 0 rows.length (some rows.length) rows.length 1, [.arr 2 [.agg [.imm .arg 1 rows, .imap .arg ks vs]] true 0, .arr 1 (List.replicate rows.length (.i 0)) true 0]⟩] fun kf hk => ⟨_, by kernel_rfl, (oC (g0) .nil)⟩
theorem ff_c_0 (rows : List HV) (ks vs : List HV) (x : Int) (n : Nat) (els : List HV) : RunsTo Try.prog pol 50 (sub [1, 1, 0, 0] B50) (env50 (.agg [.imm .arg 1 rows, .imap .arg ks vs]) (.i x) (.ptr 0 0 0 1) (.imm .lit 1 []) (.sl 1 0 n (some n) n 1) .undef .undef .undef .undef .undef .undef .undef .undef .undef) [.arr 2 [.agg [.imm .arg 1 rows, .imap .arg ks vs]] true 0, .arr 1 els true 0] .normal (pol.keys 50) (env50 (.agg [.imm .arg 1 rows, .imap .arg ks vs]) (.i x) (.ptr 0 0 0 1) (.imm .lit 1 []) (.sl 1 0 n (some n) n 1) .undef .undef .undef .undef (.i (n : Int)) (.i 0) .undef .undef .undef) [.arr 2 [.agg [.imm .arg 1 rows, .imap .arg ks vs]] true 0, .arr 1 els true 0] :=
  RunsTo.hin 0 60 [] fun kf hk => ⟨_, by kernel_rfl, .nil⟩
theorem ff_l1_0 (rows : List HV) (ks vs : List HV) (x : Int) (n : Nat) (els : List HV) (j : Nat) (el0 : List HV) (g0 : (j : Int) < (n : Int)) (g1 : idxV Try.prog 24 (.sl 1 0 n (some n) n 1) (.i (j : Int)) = some (.ptr 1 j 0 n)) (g2 : storeV Try.prog [.arr 2 [.agg [.imm .arg 1 rows, .imap .arg ks vs]] true 0, .arr 1 els true 0] 3 (.ptr 1 j 0 n) (.i (-1)) = some [.arr 2 [.agg [.imm .arg 1 rows, .imap .arg ks vs]] true 0, .arr 1 el0 true 0]) : RunsTo Try.prog pol 50 (sub [1, 1, 0, 1, 0, 0] B50) (env50 (.agg [.imm .arg 1 rows, .imap .arg ks vs]) (.i x) (.ptr 0 0 0 1) (.imm .lit 1 []) (.sl 1 0 n (some n) n 1) .undef .undef .undef .undef (.i (n : Int)) (.i (j : Int)) .undef .undef .undef) [.arr 2 [.agg [.imm .arg 1 rows, .imap .arg ks vs]] true 0, .arr 1 els true 0] .normal (pol.keys 50) (env50 (.agg [.imm .arg 1 rows, .imap .arg ks vs]) (.i x) (.ptr 0 0 0 1) (.imm .lit 1 []) (.sl 1 0 n (some n) n 1) (.i (j : Int)) .undef .undef .undef (.i (n : Int)) (.i (IntKind.i64.wrap ((j : Int) + 1))) .undef .undef .undef) [.arr 2 [.agg [.imm .arg 1 rows, .imap .arg ks vs]] true 0, .arr 1 el0 true 0] :=
  RunsTo.hin 0 60 [⟨3, 0, .bool true, [.arr 2 [.agg [.imm .arg 1 rows, .imap .arg ks vs]] true 0, .arr 1 els true 0]⟩, ⟨5, 2, .ptr 1 j 0 n, [.arr 2 [.agg [.imm .arg 1 rows, .imap .arg ks vs]] true 0, .arr 1 els true 0]⟩, ⟨5, 3, .tuple [], [.arr 2 [.agg [.imm .arg 1 rows, .imap .arg ks vs]] true 0, .arr 1 el0 true 0]⟩] fun kf hk => ⟨_, by kernel_rfl, (oB [.arr 2 [.agg [.imm .arg 1 rows, .imap .arg ks vs]] true 0, .arr 1 els true 0] (decide_eq_true g0) (oP [.arr 2 [.agg [.imm .arg 1 rows, .imap .arg ks vs]] true 0, .arr 1 els true 0] g1 (oS g2 .nil)))⟩
theorem ff_l1_1 (rows : List HV) (ks vs : List HV) (x : Int) (n : Nat) (els : List HV) (j : Nat)(g0 : ¬ ((j : Int) < (n : Int))) : RunsTo Try.prog pol 50 (sub [1, 1, 0, 1, 0, 0] B50) (env50 (.agg [.imm .arg 1 rows, .imap .arg ks vs]) (.i x) (.ptr 0 0 0 1) (.imm .lit 1 []) (.sl 1 0 n (some n) n 1) .undef .undef .undef .undef (.i (n : Int)) (.i (j : Int)) .undef .undef .undef) [.arr 2 [.agg [.imm .arg 1 rows, .imap .arg ks vs]] true 0, .arr 1 els true 0] (.exit 0) (pol.keys 50) (env50 (.agg [.imm .arg 1 rows, .imap .arg ks vs]) (.i x) (.ptr 0 0 0 1) (.imm .lit 1 []) (.sl 1 0 n (some n) n 1) .undef .undef .undef .undef (.i (n : Int)) (.i (j : Int)) .undef .undef .undef) [.arr 2 [.agg [.imm .arg 1 rows, .imap .arg ks vs]] true 0, .arr 1 els true 0] :=
  RunsTo.hin 0 60 [⟨3, 0, .bool false, [.arr 2 [.agg [.imm .arg 1 rows, .imap .arg ks vs]] true 0, .arr 1 els true 0]⟩] fun kf hk => ⟨_, by kernel_rfl, (oB [.arr 2 [.agg [.imm .arg 1 rows, .imap .arg ks vs]] true 0, .arr 1 els true 0] (decide_eq_false g0) .nil)⟩
theorem ff_d_0 (rows : List HV) (ks vs : List HV) (x : Int) (n : Nat) (els : List HV) (v6 v16 v17 : HV) (el0 : List HV) (g0 : idxV Try.prog 24 (.sl 1 0 n (some n) n 1) (.i x) = some (.ptr 1 ((x).toNat) 0 n)) (g1 : storeV Try.prog [.arr 2 [.agg [.imm .arg 1 rows, .imap .arg ks vs]] true 0, .arr 1 els true 0] 3 (.ptr 1 ((x).toNat) 0 n) (.i 0) = some [.arr 2 [.agg [.imm .arg 1 rows, .imap .arg ks vs]] true 0, .arr 1 el0 true 0]) : RunsTo Try.prog pol 50 (sub [1, 1, 1, 0] B50) (env50 (.agg [.imm .arg 1 rows, .imap .arg ks vs]) (.i x) (.ptr 0 0 0 1) (.imm .lit 1 []) (.sl 1 0 n (some n) n 1) v6 .undef .undef .undef v16 v17 .undef .undef .undef) [.arr 2 [.agg [.imm .arg 1 rows, .imap .arg ks vs]] true 0, .arr 1 els true 0] .normal (pol.keys 50) (env50 (.agg [.imm .arg 1 rows, .imap .arg ks vs]) (.i x) (.ptr 0 0 0 1) (.imm .lit 1 []) (.sl 1 0 n (some n) n 1) v6 .undef .undef .undef v16 v17 .undef .undef .undef) [.arr 2 [.agg [.imm .arg 1 rows, .imap .arg ks vs]] true 0, .arr 1 el0 true 0] :=
  RunsTo.hin 0 60 [⟨7, 2, .ptr 1 ((x).toNat) 0 n, [.arr 2 [.agg [.imm .arg 1 rows, .imap .arg ks vs]] true 0, .arr 1 els true 0]⟩, ⟨7, 3, .tuple [], [.arr 2 [.agg [.imm .arg 1 rows, .imap .arg ks vs]] true 0, .arr 1 el0 true 0]⟩] fun kf hk => ⟨_, by kernel_rfl, (oP [.arr 2 [.agg [.imm .arg 1 rows, .imap .arg ks vs]] true 0, .arr 1 els true 0] g0 (oS g1 .nil))⟩
theorem ff_e_0 (rows : List HV) (ks vs : List HV) (x : Int) (n : Nat) (els : List HV) (v6 v16 v17 : HV) : RunsTo Try.prog pol 50 (sub [1, 1, 1, 1, 0] B50) (env50 (.agg [.imm .arg 1 rows, .imap .arg ks vs]) (.i x) (.ptr 0 0 0 1) (.imm .lit 1 []) (.sl 1 0 n (some n) n 1) v6 .undef .undef .undef v16 v17 .undef .undef .undef) [.arr 2 [.agg [.imm .arg 1 rows, .imap .arg ks vs]] true 0, .arr 1 els true 0] .normal (pol.keys 50) (env50 (.agg [.imm .arg 1 rows, .imap .arg ks vs]) (.i x) (.ptr 0 0 0 1) (.imm .lit 1 []) (.sl 1 0 n (some n) n 1) v6 (.sl 2 0 1 (some 1) 1 1) .undef .undef v16 v17 .undef .undef .undef) [.arr 2 [.agg [.imm .arg 1 rows, .imap .arg ks vs]] true 0, .arr 1 els true 0, .arr 1 [.i x] true 0] :=
  RunsTo.hin 0 60 [] fun kf hk => ⟨_, by kernel_rfl, .nil⟩
theorem ff_f_0 (rows : List HV) (ks vs : List HV) (x : Int) (n : Nat) (v6 v16 v17 : HV) (qv : HV) (H : Heap) : RunsTo Try.prog pol 50 (sub [1, 1, 1, 1, 1, 0, 0] B50) (env50 (.agg [.imm .arg 1 rows, .imap .arg ks vs]) (.i x) (.ptr 0 0 0 1) (.imm .lit 1 []) (.sl 1 0 n (some n) n 1) v6 qv .undef .undef v16 v17 .undef .undef .undef) H .normal (pol.keys 50) (env50 (.agg [.imm .arg 1 rows, .imap .arg ks vs]) (.i x) (.ptr 0 0 0 1) (.imm .lit 1 []) (.sl 1 0 n (some n) n 1) v6 qv (.i 0) .undef v16 v17 .undef .undef .undef) H :=
  RunsTo.hin 0 60 [] fun kf hk => ⟨_, by kernel_rfl, .nil⟩
theorem ff_h_0 (rows : List HV) (ks vs : List HV) (x : Int) (n : Nat) (qv : HV) (H : Heap) (i : Nat) (n0 : Int) (g0 : lenV Try.prog H 24 qv = some (.i n0)) (g1 : (i : Int) < n0) : RunsTo Try.prog pol 50 (sub [1, 1, 1, 1, 1, 0, 1, 0, 0, 0] B50) (env50 (.agg [.imm .arg 1 rows, .imap .arg ks vs]) (.i x) (.ptr 0 0 0 1) (.imm .lit 1 []) (.sl 1 0 n (some n) n 1) .undef qv (.i (i : Int)) .undef .undef .undef .undef .undef .undef) H .normal (pol.keys 50) (env50 (.agg [.imm .arg 1 rows, .imap .arg ks vs]) (.i x) (.ptr 0 0 0 1) (.imm .lit 1 []) (.sl 1 0 n (some n) n 1) .undef qv (.i (i : Int)) .undef .undef .undef .undef .undef .undef) H :=
  RunsTo.hin 0 60 [⟨10, 2, .i n0, H⟩, ⟨10, 3, .bool true, H⟩] fun kf hk => ⟨_, by kernel_rfl, (oP H g0 (oB H (decide_eq_true g1) .nil))⟩
theorem ff_h_1 (rows : List HV) (ks vs : List HV) (x : Int) (n : Nat) (qv : HV) (H : Heap) (i : Nat) (n0 : Int) (g0 : lenV Try.prog H 24 qv = some (.i n0)) (g1 : ¬ ((i : Int) < n0)) : RunsTo Try.prog pol 50 (sub [1, 1, 1, 1, 1, 0, 1, 0, 0, 0] B50) (env50 (.agg [.imm .arg 1 rows, .imap .arg ks vs]) (.i x) (.ptr 0 0 0 1) (.imm .lit 1 []) (.sl 1 0 n (some n) n 1) .undef qv (.i (i : Int)) .undef .undef .undef .undef .undef .undef) H (.exit 2) (pol.keys 50) (env50 (.agg [.imm .arg 1 rows, .imap .arg ks vs]) (.i x) (.ptr 0 0 0 1) (.imm .lit 1 []) (.sl 1 0 n (some n) n 1) .undef qv (.i (i : Int)) .undef .undef .undef .undef .undef .undef) H :=
  RunsTo.hin 0 60 [⟨10, 2, .i n0, H⟩, ⟨10, 3, .bool false, H⟩] fun kf hk => ⟨_, by kernel_rfl, (oP H g0 (oB H (decide_eq_false g1) .nil))⟩
theorem ff_g_0 (rows : List HV) (ks vs : List HV) (x : Int) (n : Nat) (qv : HV) (H : Heap) (i : Nat) (l : List HV) (a0 : HV) (x0 : Int) (l0 : List HV) (g0 : loadV Try.prog H 55 (.ptr 0 0 0 1) = some (.imm .arg 1 rows)) (g1 : idxV Try.prog 24 qv (.i (i : Int)) = some (a0)) (g2 : loadV Try.prog H 3 (a0) = some (.i x0)) (g3 : idxV Try.prog 55 (.imm .arg 1 rows) (.i x0) = some (.vptr (.imm .arg 1 l0))) : RunsTo Try.prog pol 50 (sub [1, 1, 1, 1, 1, 0, 1, 0, 0, 1, 0, 0, 0] B50) (env50 (.agg [.imm .arg 1 rows, .imap .arg ks vs]) (.i x) (.ptr 0 0 0 1) (.imm .lit 1 []) (.sl 1 0 n (some n) n 1) .undef qv (.i (i : Int)) .undef .undef .undef .undef .undef .undef) H .normal (pol.keys 50) (env50 (.agg [.imm .arg 1 rows, .imap .arg ks vs]) (.i x) (.ptr 0 0 0 1) (.imm .lit 1 []) (.sl 1 0 n (some n) n 1) .undef qv (.i (i : Int)) .undef .undef .undef (.imm .arg 1 l0) (.i (l0.length : Int)) (.i 0)) H :=
  RunsTo.hin 0 60 [⟨12, 1, .imm .arg 1 rows, H⟩, ⟨12, 4, a0, H⟩, ⟨12, 5, .i x0, H⟩, ⟨12, 6, .vptr (.imm .arg 1 l0), H⟩] fun kf hk => ⟨_, by kernel_rfl, (oP H g0 (oP H g1 (oP H g2 (oP H g3 .nil))))⟩
theorem ff_k_0 (rows : List HV) (ks vs : List HV) (x : Int) (n : Nat) (qv : HV) (H : Heap) (i : Nat) (l : List HV) (j : Nat) (x0 : Int) (x1 : Int) (a0 : HV) (x2 : Int) (x3 : Int) (H0 : Heap) (H1 : Heap) (v0 : HV) (g0 : (j : Int) < (l.length : Int)) (g1 : idxV Try.prog 24 (.imm .arg 1 l) (.i (j : Int)) = some (.vptr (.i x0))) (g2 : idxV Try.prog 24 (.sl 1 0 n (some n) n 1) (.i x0) = some (.ptr 1 ((x0).toNat) 0 n)) (g3 : loadV Try.prog H 3 (.ptr 1 ((x0).toNat) 0 n) = some (.i x1)) (g4 : x1 < 0) (g5 : idxV Try.prog 24 qv (.i (i : Int)) = some (a0)) (g6 : loadV Try.prog H 3 (a0) = some (.i x2)) (g7 : idxV Try.prog 24 (.sl 1 0 n (some n) n 1) (.i x2) = some (.ptr 1 ((x2).toNat) 0 n)) (g8 : loadV Try.prog H 3 (.ptr 1 ((x2).toNat) 0 n) = some (.i x3)) (g9 : idxV Try.prog 24 (.sl 1 0 n (some n) n 1) (.i x0) = some (.ptr 1 ((x0).toNat) 0 n)) (g10 : storeV Try.prog H 3 (.ptr 1 ((x0).toNat) 0 n) (.i (IntKind.i64.wrap (x3 + 1))) = some H0) (g11 : appV H0 1 8 (qv) [.i x0] = some (v0, H1)) : RunsTo Try.prog pol 50 (sub [1, 1, 1, 1, 1, 0, 1, 0, 0, 1, 0, 0, 1, 0, 0] B50) (env50 (.agg [.imm .arg 1 rows, .imap .arg ks vs]) (.i x) (.ptr 0 0 0 1) (.imm .lit 1 []) (.sl 1 0 n (some n) n 1) .undef qv (.i (i : Int)) .undef .undef .undef (.imm .arg 1 l) (.i (l.length : Int)) (.i (j : Int))) H .normal (pol.keys 50) (env50 (.agg [.imm .arg 1 rows, .imap .arg ks vs]) (.i x) (.ptr 0 0 0 1) (.imm .lit 1 []) (.sl 1 0 n (some n) n 1) .undef v0 (.i (i : Int)) (.i x0) .undef .undef (.imm .arg 1 l) (.i (l.length : Int)) (.i (IntKind.i64.wrap ((j : Int) + 1)))) H1 :=
  RunsTo.hin 0 60 [⟨13, 0, .bool true, H⟩, ⟨14, 0, .vptr (.i x0), H⟩, ⟨15, 2, .ptr 1 ((x0).toNat) 0 n, H⟩, ⟨15, 3, .i x1, H⟩, ⟨15, 4, .bool true, H⟩, ⟨16, 5, a0, H⟩, ⟨16, 6, .i x2, H⟩, ⟨16, 7, .ptr 1 ((x2).toNat) 0 n, H⟩, ⟨16, 8, .i x3, H⟩, ⟨16, 10, .ptr 1 ((x0).toNat) 0 n, H⟩, ⟨16, 11, .tuple [], H0⟩, ⟨17, 3, v0, H1⟩] fun kf hk => ⟨_, by kernel_rfl, (oB H (decide_eq_true g0) (oP H g1 (oP H g2 (oP H g3 (oB H (decide_eq_true g4) (oP H g5 (oP H g6 (oP H g7 (oP H g8 (oP H g9 (oS g10 (oC (g11) .nil))))))))))))⟩
theorem ff_k_1 (rows : List HV) (ks vs : List HV) (x : Int) (n : Nat) (qv : HV) (H : Heap) (i : Nat) (l : List HV) (j : Nat) (x0 : Int) (x1 : Int) (g0 : (j : Int) < (l.length : Int)) (g1 : idxV Try.prog 24 (.imm .arg 1 l) (.i (j : Int)) = some (.vptr (.i x0))) (g2 : idxV Try.prog 24 (.sl 1 0 n (some n) n 1) (.i x0) = some (.ptr 1 ((x0).toNat) 0 n)) (g3 : loadV Try.prog H 3 (.ptr 1 ((x0).toNat) 0 n) = some (.i x1)) (g4 : ¬ (x1 < 0)) : RunsTo Try.prog pol 50 (sub [1, 1, 1, 1, 1, 0, 1, 0, 0, 1, 0, 0, 1, 0, 0] B50) (env50 (.agg [.imm .arg 1 rows, .imap .arg ks vs]) (.i x) (.ptr 0 0 0 1) (.imm .lit 1 []) (.sl 1 0 n (some n) n 1) .undef qv (.i (i : Int)) .undef .undef .undef (.imm .arg 1 l) (.i (l.length : Int)) (.i (j : Int))) H .normal (pol.keys 50) (env50 (.agg [.imm .arg 1 rows, .imap .arg ks vs]) (.i x) (.ptr 0 0 0 1) (.imm .lit 1 []) (.sl 1 0 n (some n) n 1) .undef qv (.i (i : Int)) (.i x0) .undef .undef (.imm .arg 1 l) (.i (l.length : Int)) (.i (IntKind.i64.wrap ((j : Int) + 1)))) H :=
  RunsTo.hin 0 60 [⟨13, 0, .bool true, H⟩, ⟨14, 0, .vptr (.i x0), H⟩, ⟨15, 2, .ptr 1 ((x0).toNat) 0 n, H⟩, ⟨15, 3, .i x1, H⟩, ⟨15, 4, .bool false, H⟩] fun kf hk => ⟨_, by kernel_rfl, (oB H (decide_eq_true g0) (oP H g1 (oP H g2 (oP H g3 (oB H (decide_eq_false g4) .nil)))))⟩
theorem ff_k_2 (rows : List HV) (ks vs : List HV) (x : Int) (n : Nat) (qv : HV) (H : Heap) (i : Nat) (l : List HV) (j : Nat)(g0 : ¬ ((j : Int) < (l.length : Int))) : RunsTo Try.prog pol 50 (sub [1, 1, 1, 1, 1, 0, 1, 0, 0, 1, 0, 0, 1, 0, 0] B50) (env50 (.agg [.imm .arg 1 rows, .imap .arg ks vs]) (.i x) (.ptr 0 0 0 1) (.imm .lit 1 []) (.sl 1 0 n (some n) n 1) .undef qv (.i (i : Int)) .undef .undef .undef (.imm .arg 1 l) (.i (l.length : Int)) (.i (j : Int))) H (.exit 4) (pol.keys 50) (env50 (.agg [.imm .arg 1 rows, .imap .arg ks vs]) (.i x) (.ptr 0 0 0 1) (.imm .lit 1 []) (.sl 1 0 n (some n) n 1) .undef qv (.i (i : Int)) .undef .undef .undef (.imm .arg 1 l) (.i (l.length : Int)) (.i (j : Int))) H :=
  RunsTo.hin 0 60 [⟨13, 0, .bool false, H⟩] fun kf hk => ⟨_, by kernel_rfl, (oB H (decide_eq_false g0) .nil)⟩
theorem ff_m_0 (rows : List HV) (ks vs : List HV) (x : Int) (n : Nat) (qv : HV) (H : Heap) (i : Nat) (l : List HV) (j : Nat) (v10 : HV) : RunsTo Try.prog pol 50 (sub [1, 1, 1, 1, 1, 0, 1, 0, 0, 1, 1] B50) (env50 (.agg [.imm .arg 1 rows, .imap .arg ks vs]) (.i x) (.ptr 0 0 0 1) (.imm .lit 1 []) (.sl 1 0 n (some n) n 1) .undef qv (.i (i : Int)) v10 .undef .undef (.imm .arg 1 l) (.i (l.length : Int)) (.i (j : Int))) H .normal (pol.keys 50) (env50 (.agg [.imm .arg 1 rows, .imap .arg ks vs]) (.i x) (.ptr 0 0 0 1) (.imm .lit 1 []) (.sl 1 0 n (some n) n 1) .undef qv (.i (IntKind.i64.wrap ((i : Int) + 1))) v10 .undef .undef (.imm .arg 1 l) (.i (l.length : Int)) (.i (j : Int))) H :=
  RunsTo.hin 0 60 [] fun kf hk => ⟨_, by kernel_rfl, .nil⟩
theorem ff_z_0 (rows : List HV) (ks vs : List HV) (x : Int) (n : Nat) (qv : HV) (H : Heap) (i : Nat) : RunsTo Try.prog pol 50 (sub [1, 1, 1, 1, 1, 1] B50) (env50 (.agg [.imm .arg 1 rows, .imap .arg ks vs]) (.i x) (.ptr 0 0 0 1) (.imm .lit 1 []) (.sl 1 0 n (some n) n 1) .undef qv (.i (i : Int)) .undef .undef .undef .undef .undef .undef) H .ret (pol.keys 50) (env50 (.agg [.imm .arg 1 rows, .imap .arg ks vs]) (.i x) (.ptr 0 0 0 1) (.sl 1 0 n (some n) n 1) (.sl 1 0 n (some n) n 1) .undef qv (.i (i : Int)) .undef .undef .undef .undef .undef .undef) H :=
  RunsTo.hin 0 60 [] fun kf hk => ⟨_, by kernel_rfl, .nil⟩
end Go.Proofs.Ytmhfkhlamnapdaa
end
section
open Go Go.HL
namespace Go.Proofs.Ytmhfkhlamnapdaa
abbrev Mat := List (List Bool)
def zero20 : List Bool := List.replicate 20 false
def bitAt (r : List Bool) (i : Nat) : Bool := (r[i]?).getD false
def Wf (m : Nat) (M : Mat) : Prop := M.length = m ∧ ∀ (i : Nat) (r : List Bool), M[i]? = some r → r.length = 20
theorem wrap_succ {j : Nat} (h : j < 4611686018427387904) : IntKind.i64.wrap ((j : Int) + 1) = ((j + 1 : Nat) : Int) := by rw [wrapI64]; omega
theorem Wf.set {m : Nat} {M : Mat} (hM : Wf m M) {i : Nat} {r : List Bool} (hr : r.length = 20) : Wf m (M.set i r) := by
  refine ⟨by simp [hM.1], fun k s hk => ?_⟩
  rw [List.getElem?_set] at hk
  split at hk
  · split at hk
    · cases hk; exact hr
    · cases hk
  · exact hM.2 k s hk
theorem u4 : Try.prog.underlying 4 = some .bool := by kernel_rfl
theorem u22 : Try.prog.underlying 22 = some (.slice 33) := by kernel_rfl
theorem z4 : tySize Try.prog 4 = some 1 := by kernel_rfl
theorem z33 : tySize Try.prog 33 = some 2 := by kernel_rfl
theorem a4 : tyAgg Try.prog 4 = false := by kernel_rfl
theorem i4 : (Try.prog.underlying 4).isSome = true := by kernel_rfl
end Go.Proofs.Ytmhfkhlamnapdaa
end
section
open Go Go.HL
namespace Go.Proofs.Ytmhfkhlamnapdaa
theorem fnok (F : FuncId → Option (List HV → Option HV)) (g : FuncId) (fn : Func) (h : Try.prog.funcs[g]? = some fn) : fnOk { pol with prim := F } g fn = true := by
  rw [fnOk_prim]
  exact List.all_eq_true.1 fns_ok (fn, g) (by
    rw [List.mem_zipIdx_iff_getElem?]
    simpa using h)
theorem within_ok : PrimOk Try.prog 49 withinF := by
  refine primOk_pure (pol := pol) (fn := Try.f49) (cd := B49) follows_mixed sound (by kernel_rfl) (by kernel_rfl) (fnok pol.prim _ _ (by kernel_rfl)) (by kernel_rfl) ?_
  intro args res h
  unfold withinF at h
  split at h
  · rename_i n lo hi
    cases h
    have hr : Try.f49.results.toList = [.tmp 6] := by kernel_rfl
    by_cases g0 : lo ≤ n
    · by_cases g1 : n ≤ hi
      · exact ⟨_, _, _, _, w49_0 n lo hi g0 g1, by simp, by simp only [resultsV, hr]; rfl, by rw [decide_eq_true ⟨g0, g1⟩]; rfl⟩
      · exact ⟨_, _, _, _, w49_1 n lo hi g0 g1, by simp, by simp only [resultsV, hr]; rfl, by rw [decide_eq_false (fun h => g1 h.2)]; rfl⟩
    · exact ⟨_, _, _, _, w49_2 n lo hi g0, by simp, by simp only [resultsV, hr]; rfl, by rw [decide_eq_false (fun h => g0 h.1)]; rfl⟩
  · cases h
def modF : List HV → Option HV
  | [.int .i64 a, .int .i64 n] => if 0 < n ∧ n < 9223372036854775808 then some (.int .i64 (modW a n)) else none
  | _ => none
theorem mod_ok : PrimOk Try.prog 22 modF := by
  refine primOk_pure (pol := pol) (fn := Try.f22) (cd := B22) follows_mixed sound (by kernel_rfl) (by kernel_rfl) (fnok pol.prim _ _ (by kernel_rfl)) (by kernel_rfl) ?_
  intro args res h
  unfold modF at h
  split at h
  · rename_i a n
    split at h
    · rename_i hn
      cases h
      have hr : Try.f22.results.toList = [.tmp 4] := by kernel_rfl
      refine ⟨_, _, _, _, m22_0 a n ?_, by simp, by simp only [resultsV, hr]; rfl, rfl⟩
      have : IntKind.u64.wrap n ≠ 0 := by rw [wrapU64]; omega
      simp only [binV, intBin, if_neg this, if_true]
    · cases h
  · cases h
theorem soundB (n : Nat) : CallSound Try.prog (callN Try.prog polB n) := sound_prim _ (fun g f h => by
  split at h
  · rename_i hg
    cases h
    rw [eq_of_beq hg]
    exact awake_prim
  · split at h
    · rename_i hg
      cases h
      rw [eq_of_beq hg]
      exact within_ok
    · cases h) n
end Go.Proofs.Ytmhfkhlamnapdaa
end
section
open Go Go.HL
namespace Go.Proofs.Ytmhfkhlamnapdaa
set_option maxRecDepth 100000
noncomputable def B16 : Code := Try.f16.body.getD .skip
abbrev env16 (v0 v2 v3 : HV) : Env := [(0, v0), (2, v2), (3, v3)]
theorem fw_0 (lc : List HV) (m : Nat)(g0 : sliceV Try.prog 22 (.imm .arg 2 lc) none (some (.i (min (lc.length : Int) 201))) none = some (.imm .arg 2 (lc.take m))) (g1 : appV [.arr 2 [] true 0] 2 16 (.sl 0 0 0 none 0 2) (lc.take m) = some (.sl 0 0 ((lc.take m).length) none ((lc.take m).length) 2, [.arr 2 (lc.take m) true 0])) : RunsTo Try.prog pol 16 (sub [] B16) [(0, .imm .arg 2 lc)] [] .ret (pol.keys 16) (env16 (.imm .arg 2 lc) (.sl 0 0 ((lc.take m).length) none ((lc.take m).length) 2) (.sl 0 0 0 none 0 2)) [.arr 2 (lc.take m) true 0] :=
  RunsTo.hin 0 60 [⟨2, 5, .imm .arg 2 (lc.take m), [.arr 2 [] true 0]⟩, ⟨2, 6, .sl 0 0 ((lc.take m).length) none ((lc.take m).length) 2, [.arr 2 (lc.take m) true 0]⟩] fun kf hk => ⟨_, by kernel_rfl, (oP [.arr 2 [] true 0] g0 (oC (g1) .nil))⟩
end Go.Proofs.Ytmhfkhlamnapdaa
end
section
open Go Go.HL
namespace Go.Proofs.Ytmhfkhlamnapdaa
set_option maxRecDepth 100000
noncomputable def B21 : Code := Try.f21.body.getD .skip
abbrev env21 (v0 v1 v4 v5 : HV) : Env := [(0, v0), (1, v1), (4, v4), (5, v5)]
theorem r21_a_0 (la lb : List HV) : RunsTo Try.prog pol 21 (sub [0] B21) [(0, .imm .arg 1 la), (1, .imm .arg 1 lb)] [] .normal (pol.keys 21) (env21 (.imm .arg 1 la) (.imm .arg 1 lb) (.bool false) .undef) [] :=
  RunsTo.hin 0 60 [] fun kf hk => ⟨_, by kernel_rfl, .nil⟩
theorem r21_b_0 (la lb : List HV)(g0 : (la.length : Int) = (lb.length : Int)) : RunsTo Try.prog pol 21 (sub [1, 0] B21) (env21 (.imm .arg 1 la) (.imm .arg 1 lb) (.bool false) .undef) [] .normal (pol.keys 21) (env21 (.imm .arg 1 la) (.imm .arg 1 lb) (.bool false) .undef) [] :=
  RunsTo.hin 0 60 [⟨1, 4, .bool false, []⟩] fun kf hk => ⟨_, by kernel_rfl, (oB [] (congrArg not (decide_eq_true g0)) .nil)⟩
theorem r21_b_1 (la lb : List HV)(g0 : ¬ ((la.length : Int) = (lb.length : Int))) : RunsTo Try.prog pol 21 (sub [1, 0] B21) (env21 (.imm .arg 1 la) (.imm .arg 1 lb) (.bool false) .undef) [] .ret (pol.keys 21) (env21 (.imm .arg 1 la) (.imm .arg 1 lb) (.bool false) .undef) [] :=
  RunsTo.hin 0 60 [⟨1, 4, .bool true, []⟩] fun kf hk => ⟨_, by kernel_rfl, (oB [] (congrArg not (decide_eq_false g0)) .nil)⟩
theorem r21_c_0 (la lb : List HV) : RunsTo Try.prog pol 21 (sub [1, 1, 0, 0] B21) (env21 (.imm .arg 1 la) (.imm .arg 1 lb) (.bool false) .undef) [] .normal (pol.keys 21) (env21 (.imm .arg 1 la) (.imm .arg 1 lb) (.bool false) (.i 0)) [] :=
  RunsTo.hin 0 60 [] fun kf hk => ⟨_, by kernel_rfl, .nil⟩
theorem r21_l_0 (la lb : List HV) (j : Nat) (x0 : Int) (x1 : Int) (g0 : (j : Int) < (la.length : Int)) (g1 : idxV Try.prog 24 (.imm .arg 1 la) (.i (j : Int)) = some (.vptr (.i x0))) (g2 : idxV Try.prog 24 (.imm .arg 1 lb) (.i (j : Int)) = some (.vptr (.i x1))) (g3 : x0 = x1) : RunsTo Try.prog pol 21 (sub [1, 1, 0, 1, 0, 0] B21) (env21 (.imm .arg 1 la) (.imm .arg 1 lb) (.bool false) (.i (j : Int))) [] .normal (pol.keys 21) (env21 (.imm .arg 1 la) (.imm .arg 1 lb) (.bool false) (.i (IntKind.i64.wrap ((j : Int) + 1)))) [] :=
  RunsTo.hin 0 60 [⟨4, 3, .bool true, []⟩, ⟨6, 2, .vptr (.i x0), []⟩, ⟨6, 6, .vptr (.i x1), []⟩, ⟨6, 8, .bool false, []⟩] fun kf hk => ⟨_, by kernel_rfl, (oB [] (decide_eq_true g0) (oP [] g1 (oP [] g2 (oB [] (congrArg not (decide_eq_true g3)) .nil))))⟩
theorem r21_l_1 (la lb : List HV) (j : Nat) (x0 : Int) (x1 : Int) (g0 : (j : Int) < (la.length : Int)) (g1 : idxV Try.prog 24 (.imm .arg 1 la) (.i (j : Int)) = some (.vptr (.i x0))) (g2 : idxV Try.prog 24 (.imm .arg 1 lb) (.i (j : Int)) = some (.vptr (.i x1))) (g3 : ¬ (x0 = x1)) : RunsTo Try.prog pol 21 (sub [1, 1, 0, 1, 0, 0] B21) (env21 (.imm .arg 1 la) (.imm .arg 1 lb) (.bool false) (.i (j : Int))) [] .ret (pol.keys 21) (env21 (.imm .arg 1 la) (.imm .arg 1 lb) (.bool false) (.i (j : Int))) [] :=
  RunsTo.hin 0 60 [⟨4, 3, .bool true, []⟩, ⟨6, 2, .vptr (.i x0), []⟩, ⟨6, 6, .vptr (.i x1), []⟩, ⟨6, 8, .bool true, []⟩] fun kf hk => ⟨_, by kernel_rfl, (oB [] (decide_eq_true g0) (oP [] g1 (oP [] g2 (oB [] (congrArg not (decide_eq_false g3)) .nil))))⟩
theorem r21_l_2 (la lb : List HV) (j : Nat)(g0 : ¬ ((j : Int) < (la.length : Int))) : RunsTo Try.prog pol 21 (sub [1, 1, 0, 1, 0, 0] B21) (env21 (.imm .arg 1 la) (.imm .arg 1 lb) (.bool false) (.i (j : Int))) [] (.exit 0) (pol.keys 21) (env21 (.imm .arg 1 la) (.imm .arg 1 lb) (.bool false) (.i (j : Int))) [] :=
  RunsTo.hin 0 60 [⟨4, 3, .bool false, []⟩] fun kf hk => ⟨_, by kernel_rfl, (oB [] (decide_eq_false g0) .nil)⟩
theorem r21_z_0 (la lb : List HV) (j : Nat) : RunsTo Try.prog pol 21 (sub [1, 1, 1] B21) (env21 (.imm .arg 1 la) (.imm .arg 1 lb) (.bool false) (.i (j : Int))) [] .ret (pol.keys 21) (env21 (.imm .arg 1 la) (.imm .arg 1 lb) (.bool true) (.i (j : Int))) [] :=
  RunsTo.hin 0 60 [] fun kf hk => ⟨_, by kernel_rfl, .nil⟩
end Go.Proofs.Ytmhfkhlamnapdaa
end
section
open Go Go.HL
namespace Go.Proofs.Ytmhfkhlamnapdaa
def validB (n : Int) (p : Int × Int) : Bool := decide ((0 ≤ p.1 ∧ p.1 < n) ∧ (0 ≤ p.2 ∧ p.2 < n) ∧ p.1 ≠ p.2)
def few16 : List HV → Option HV
  | [.imm .arg 2 lc] => match mapO decP lc with | some l => some (.own 2 ((l.take 201).map encP)) | none => none
  | _ => none
theorem res16 : Try.f16.results.toList = [.tmp 2] := by kernel_rfl
theorem slice_imm {P : Program} {t e k w : Nat} {l : List HV} (ht : P.underlying t = some (.slice e)) (hs : tySize P e = some k) (hw : w ≤ l.length) : sliceV P t (.imm .arg k l) none (some (.int .i64 (w : Int))) none = some (.imm .arg k (l.take w)) := by
  simp only [sliceV, boundV, ht, hs]
  rw [if_pos (by omega : (0 : Int) ≤ (w : Int))]
  simp [hw]
theorem pairs_bnd' : ∀ (l : List (Int × Int)), bndL (l.map encP) = 0
  | [] => rfl
  | b :: r => by simp only [List.map_cons, bndL, encP, bnd, pairs_bnd' r]; rfl
theorem few_ok : PrimOk Try.prog 16 few16 := by
  refine primOk_pure (pol := pol) (fn := Try.f16) (cd := B16) follows_mixed sound (by kernel_rfl) (by kernel_rfl) (fnok pol.prim _ _ (by kernel_rfl)) (by kernel_rfl) ?_
  intro args res h
  unfold few16 at h
  split at h
  · rename_i lc
    split at h
    · rename_i l hl
      cases h
      rw [mapO_inv decP_inv hl]
      have hmin : min ((l.map encP).length : Int) 201 = ((min l.length 201 : Nat) : Int) := by rw [List.length_map]; omega
      have hw : (l.map encP).take (min l.length 201) = (l.take 201).map encP := by
        rw [← List.map_take]
        congr 1
        rw [List.take_eq_take_iff]
        omega
      have s1 := fw_0 (l.map encP) (min l.length 201) (by
          rw [hmin]
          exact slice_imm u22 z33 (by rw [List.length_map]; omega))
        (by
          rw [hw]
          by_cases h0 : l.take 201 = []
          · rw [h0]; rfl
          · have hlen : (l.take 201).length ≤ 201 := by rw [List.length_take]; omega
            have := app_sl (H := [.arr 2 [] true 0]) (k := 2) (bytes := 16) (b := 0) (n := 0) (mx := 0) (els := []) (xs := (l.take 201).map encP) rfl rfl (by simpa using h0) (by rw [List.length_map]; simp only [roomMax]; omega) (pairs_bnd' _)
            rw [this]
            simp)
      rw [hw] at s1
      have hr := resCell_sl (H := [.arr 2 ((l.take 201).map encP) true 0]) (no := [0]) (b := 0) (k := 2) (m := ((l.take 201).map encP).length) (cap := none) (els := (l.take 201).map encP) rfl rfl (mapO_self (fun r => frz_pair r) _)
      have ho : ownedAll [.arr 2 ((l.take 201).map encP) true 0] false (.sl 0 0 ((l.take 201).map encP).length none ((l.take 201).map encP).length 2) = [0] := rfl
      refine ⟨_, _, _, .sl 0 0 ((l.take 201).map encP).length none ((l.take 201).map encP).length 2, s1, by simp, by simp only [resultsV, res16]; rfl, ?_⟩
      show toRes _ false _ = _
      simp only [toRes, ho, List.nodup_cons, List.not_mem_nil, not_false_eq_true, List.nodup_nil, and_self, if_true, resVal, hr]
    · cases h
  · cases h
end Go.Proofs.Ytmhfkhlamnapdaa
end
section
open Go Go.HL
namespace Go.Proofs.Ytmhfkhlamnapdaa
abbrev bF (l : List Bool) : Blk := .arr 1 (l.map .bool) true 0
theorem u43f : Try.prog.underlying 43 = some (.slice 4) := by kernel_rfl
theorem info4f : (Try.prog.info? 4).map (fun i => (i.size, i.bytes, i.zero.map ofConst)) = some (1, 1, some (.bool false)) := by kernel_rfl
theorem info24 : (Try.prog.info? 24).map (fun i => (i.size, i.bytes, i.zero.map ofConst)) = some (1, 24, some (.imm .lit 0 [])) := by kernel_rfl
theorem bitF {l : List Bool} {i : Nat} (h : i < l.length) : (l.map HV.bool)[i]? = some (.bool (bitAt l i)) := by
  rw [List.getElem?_map]
  have : l[i]? = some l[i] := List.getElem?_eq_getElem h
  simp [bitAt, this]
def inB (m : Nat) (p : Int × Int) : Prop := (0 ≤ p.1 ∧ p.1.toNat < m) ∧ (0 ≤ p.2 ∧ p.2.toNat < m)
end Go.Proofs.Ytmhfkhlamnapdaa
end
section
open Go Go.HL
namespace Go.Proofs.Ytmhfkhlamnapdaa
def bIn (c : Int) : List Nat → List Int × List Nat → List Int × List Nat
  | [], s => s
  | y :: l, s => bIn c l (if s.1.getD y 0 < 0 then (s.1.set y (c + 1), s.2 ++ [y]) else s)
def bGo (nb : Nat → List Nat) : Nat → Nat → List Int × List Nat → List Int × List Nat
  | 0, _, s => s
  | d + 1, i, s => match s.2[i]? with | some x => bGo nb d (i + 1) (bIn (s.1.getD x 0) (nb x) s) | none => s
def bInit (n x : Nat) : List Int × List Nat := ((List.replicate n (-1)).set x 0, [x])
def bfs (nb : Nat → List Nat) (n x : Nat) : List Int := (bGo nb n 0 (bInit n x)).1
structure BInv (n k : Nat) (s : List Int × List Nat) : Prop where
  len : s.1.length = n
  lt : ∀ y ∈ s.2, y < n
  nodup : s.2.Nodup
  got : ∀ y, y < n → (0 ≤ s.1.getD y 0 ↔ y ∈ s.2)
  le : ∀ y, y < n → s.1.getD y 0 ≤ k
  ge : ∀ y, y < n → -1 ≤ s.1.getD y 0
theorem getD_set (l : List Int) (i j : Nat) (v : Int) (h : i < l.length) : (l.set i v).getD j 0 = if i = j then v else l.getD j 0 := by
  simp only [List.getD, List.getElem?_set]
  by_cases e : i = j
  · subst e; simp [h]
  · simp [e]
theorem nodup_lt_len {n : Nat} : ∀ {l : List Nat}, l.Nodup → (∀ y ∈ l, y < n) → l.length ≤ n := by
  intro l hl h
  have h2 : ∀ (P S : List Nat), P.Nodup → (∀ v ∈ P, v ∈ S) → P.length ≤ S.length := by
    intro P
    induction P with
    | nil => intro S _ _; simp
    | cons x P ih =>
      intro S hP h
      rw [List.nodup_cons] at hP
      have hx := h x (by simp)
      have := ih (S.erase x) hP.2 (fun v hv => by
        rw [List.mem_erase_of_ne (fun e => hP.1 (by rw [← e]; exact hv))]
        exact h v (by simp [hv]))
      rw [List.length_erase_of_mem hx] at this
      have : 0 < S.length := List.length_pos_of_mem hx
      rw [List.length_cons]; omega
  have := h2 l (List.range n) hl (fun v hv => List.mem_range.2 (h v hv))
  simpa using this
theorem BInv.qlen {n k : Nat} {s : List Int × List Nat} (h : BInv n k s) : s.2.length ≤ n := nodup_lt_len h.nodup h.lt
theorem BInv.mono {n k k' : Nat} {s : List Int × List Nat} (h : BInv n k s) (hk : k ≤ k') : BInv n k' s :=
  ⟨h.len, h.lt, h.nodup, h.got, fun y hy => by have := h.le y hy; omega, h.ge⟩
theorem BInv.step {n k : Nat} {s : List Int × List Nat} (h : BInv n k s) {c : Int} (hc : 0 ≤ c ∧ c + 1 ≤ k) {y : Nat} (hy : y < n) : BInv n k (if s.1.getD y 0 < 0 then (s.1.set y (c + 1), s.2 ++ [y]) else s) := by
  split
  · rename_i hlt
    have hn : y ∉ s.2 := fun hm => by have := (h.got y hy).2 hm; omega
    have hyl : y < s.1.length := by rw [h.len]; exact hy
    refine ⟨by simp [h.len], fun z hz => ?_, ?_, fun z hz => ?_, fun z hz => ?_, fun z hz => ?_⟩
    · rcases List.mem_append.1 hz with hz | hz
      · exact h.lt z hz
      · rw [List.mem_singleton] at hz; rw [hz]; exact hy
    · rw [List.nodup_append]
      refine ⟨h.nodup, by simp, fun a ha b hb => ?_⟩
      rw [List.mem_singleton] at hb
      rw [hb]; exact fun e => hn (by rw [← e]; exact ha)
    · rw [getD_set _ _ _ _ hyl, List.mem_append, List.mem_singleton]
      by_cases e : y = z
      · rw [if_pos e]
        exact ⟨fun _ => .inr e.symm, fun _ => by omega⟩
      · rw [if_neg e, h.got z hz]
        exact ⟨fun h => .inl h, fun h => h.resolve_right (fun e2 => e e2.symm)⟩
    · rw [getD_set _ _ _ _ hyl]
      split
      · omega
      · exact h.le z hz
    · rw [getD_set _ _ _ _ hyl]
      split
      · omega
      · exact h.ge z hz
  · exact h
theorem BInv.inn {n k : Nat} {c : Int} (hc : 0 ≤ c ∧ c + 1 ≤ k) : ∀ (l : List Nat) (s : List Int × List Nat), (∀ y ∈ l, y < n) → BInv n k s → BInv n k (bIn c l s)
  | [], _, _, h => h
  | y :: l, s, hl, h => by
    rw [bIn]
    exact BInv.inn hc l _ (fun z hz => hl z (by simp [hz])) (h.step hc (hl y (by simp)))
theorem bInit_inv {n x : Nat} (hx : x < n) : BInv n 0 (bInit n x) := by
  have hr : ∀ y, y < n → (List.replicate n (-1 : Int)).getD y 0 = -1 := fun y hy => by simp [List.getD, hy]
  have hl : x < (List.replicate n (-1 : Int)).length := by simpa using hx
  refine ⟨by simp [bInit], fun y hy => by simp [bInit] at hy; omega, by simp [bInit], fun y hy => ?_, fun y hy => ?_, fun y hy => ?_⟩
  all_goals
    show _
    simp only [bInit, getD_set _ _ _ _ hl, hr y hy]
  · rw [List.mem_singleton]
    split
    · rename_i e; exact ⟨fun _ => e.symm, fun _ => by omega⟩
    · rename_i e; exact ⟨fun h => by omega, fun h => absurd h.symm e⟩
  · split <;> omega
  · split <;> omega
theorem bIn_pre (c : Int) : ∀ (l : List Nat) (s : List Int × List Nat), ∃ t, (bIn c l s).2 = s.2 ++ t
  | [], s => ⟨[], by simp [bIn]⟩
  | y :: l, s => by
    rw [bIn]
    obtain ⟨t, ht⟩ := bIn_pre c l (if s.1.getD y 0 < 0 then (s.1.set y (c + 1), s.2 ++ [y]) else s)
    rw [ht]
    split
    · exact ⟨[y] ++ t, by simp⟩
    · exact ⟨t, rfl⟩
def encN (k : Nat) : HV := encI (k : Int)
theorem u24b : Try.prog.underlying 24 = some (.slice 3) := by kernel_rfl
theorem z3b : tySize Try.prog 3 = some 1 := by kernel_rfl
theorem a3b : tyAgg Try.prog 3 = false := by kernel_rfl
theorem i3b : (Try.prog.underlying 3).isSome = true := by kernel_rfl
abbrev bI (o : List Int) : Blk := .arr 1 (o.map encI) true 0
abbrev bNs (q : List Nat) : Blk := .arr 1 (q.map encN) true 0
structure QOk (H : Heap) (b : Nat) (qv : HV) (q : List Nat) : Prop where
  val : ∃ cap, qv = .sl b 0 q.length cap q.length 1 ∧ (cap = none ∨ cap = some q.length)
  blk : H[b]? = some (bNs q)
theorem QOk.lenq {H : Heap} {b : Nat} {qv : HV} {q : List Nat} (h : QOk H b qv q) : lenV Try.prog H 24 qv = some (.int .i64 (q.length : Int)) := by
  obtain ⟨cap, rfl, _⟩ := h.val
  simp only [lenV, u24b]
theorem QOk.idxq {H : Heap} {b : Nat} {qv : HV} {q : List Nat} (h : QOk H b qv q) {i : Nat} (hi : i < q.length) : idxV Try.prog 24 qv (.int .i64 (i : Int)) = some (.ptr b i 0 q.length) := by
  obtain ⟨cap, rfl, _⟩ := h.val
  have := idx_sl (P := Try.prog) (t := 24) (b := b) (tot := q.length) (cap := cap) (ik := .i64) (n := (i : Int)) u24b z3b (by omega) (len := q.length) (by omega)
  simpa using this
theorem QOk.loadq {H : Heap} {b : Nat} {qv : HV} {q : List Nat} (h : QOk H b qv q) {i x : Nat} (hi : q[i]? = some x) : loadV Try.prog H 3 (.ptr b i 0 q.length) = some (.int .i64 (x : Int)) :=
  load_elem (b := b) h.blk (by simp) (by rw [List.getElem?_map, hi]; rfl) rfl a3b i3b
theorem load_out {H : Heap} {k : Nat} {o : List Int} (h : H[k]? = some (bI o)) {y : Nat} (hy : y < o.length) : loadV Try.prog H 3 (.ptr k y 0 o.length) = some (.int .i64 (o.getD y 0)) :=
  load_elem (b := k) h (by simp) (by rw [List.getElem?_map, List.getElem?_eq_getElem hy]; simp [List.getD, List.getElem?_eq_getElem hy, encI]) rfl a3b i3b
theorem store_out {H : Heap} {k : Nat} {o : List Int} (h : H[k]? = some (bI o)) {y : Nat} (hy : y < o.length) (v : Int) : storeV Try.prog H 3 (.ptr k y 0 o.length) (.int .i64 v) = some (H.set k (bI (o.set y v))) := by
  have hi : (o.map encI)[y]? = some (encI o[y]) := by rw [List.getElem?_map, List.getElem?_eq_getElem hy]; rfl
  have := store_elem (P := Try.prog) (t := 3) (b := k) (tot := o.length) (v := .int .i64 v) h (by simp) hi rfl (by intro cs h; cases h) z3b rfl rfl (by simp [bnd])
  rw [this]
  show some (H.set k (.arr 1 ((o.map encI).set y (encI v)) true 0)) = _
  rw [bI, List.map_set]
structure Keep (ko b b' : Nat) (H H' : Heap) : Prop where
  len : H.length ≤ H'.length
  new : b' = b ∨ H.length ≤ b'
  same : ∀ k, k < H.length → k ≠ ko → k ≠ b → H'[k]? = H[k]?
theorem Keep.refl (ko b : Nat) (H : Heap) : Keep ko b b H H := ⟨Nat.le_refl _, .inl rfl, fun _ _ _ _ => rfl⟩
theorem Keep.trans {ko b b' b'' : Nat} {H H' H'' : Heap} (h : Keep ko b b' H H') (h' : Keep ko b' b'' H' H'') : Keep ko b b'' H H'' := by
  refine ⟨Nat.le_trans h.len h'.len, ?_, fun k hk h1 h2 => ?_⟩
  · rcases h'.new with e | e
    · rw [e]; exact h.new
    · exact .inr (Nat.le_trans h.len e)
  · rw [h'.same k (Nat.lt_of_lt_of_le hk h.len) h1 (by
      rcases h.new with e | e
      · rw [e]; exact h2
      · omega), h.same k hk h1 h2]
theorem QOk.appq {H : Heap} {b : Nat} {qv : HV} {q : List Nat} (h : QOk H b qv q) (hq : q.length ≤ 1000) (y ko : Nat) : ∃ v H' b', appV H 1 8 qv [.int .i64 (y : Int)] = some (v, H') ∧ QOk H' b' v (q ++ [y]) ∧ Keep ko b b' H H' ∧ (∀ k, k < H.length → k ≠ b → H'[k]? = H[k]?) ∧ H'.length ≤ max H.length (b' + 1) := by
  obtain ⟨cap, rfl, hc⟩ := h.val
  have hb := h.blk
  have hlt : b < H.length := lt_of_get hb
  rcases hc with rfl | rfl
  · have hap := app_sl (H := H) (k := 1) (bytes := 8) (b := b) (n := q.length) (mx := 0) (els := q.map encN) (xs := [.int .i64 (y : Int)]) hb (by simp) (by simp) (by simp only [List.length_singleton, roomMax]; omega) rfl
    refine ⟨_, _, b, hap, ⟨⟨none, by simp, .inl rfl⟩, ?_⟩, ⟨by simp, .inl rfl, fun k hk _ h2 => ?_⟩, fun k hk h2 => ?_, by rw [List.length_set]; omega⟩
    · rw [List.getElem?_set_self hlt, bNs, List.map_append]; rfl
    · rw [List.getElem?_set_ne (fun e => h2 e.symm)]
    · rw [List.getElem?_set_ne (fun e => h2 e.symm)]
  · refine ⟨.sl H.length 0 (q.length + 1) none (q.length + 1) 1, H ++ [bNs (q ++ [y])], H.length, ?_, ⟨⟨none, by simp, .inl rfl⟩, by simp⟩, ⟨by simp, .inr (Nat.le_refl _), fun k hk _ _ => by rw [List.getElem?_append_left hk]⟩, fun k hk _ => by rw [List.getElem?_append_left hk], by simp⟩
    simp only [appV, hb, List.length_map]
    rw [if_neg (by simp), if_pos ⟨trivial, trivial, trivial, by simp only [List.length_singleton, roomMax]; omega⟩, if_neg (by simp), if_pos (by omega)]
    have e : (q.map encN).take q.length = q.map encN := List.take_of_length_le (by simp)
    simp only [List.drop_zero, e, bndL, bnd, List.length_singleton, bNs, List.map_append, List.map_cons, List.map_nil]
    rfl
theorem gc_le {base r : Nat} {H : Heap} (h : H.length ≤ max base r) : gc base r H = H := by
  unfold gc
  exact List.take_of_length_le (by omega)
theorem bndE_mem : ∀ {E : Env} {t : Nat} {v : HV}, (t, v) ∈ E → bnd v ≤ bndE E
  | (a, w) :: E, t, v, h => by
    rw [bndE]
    rcases List.mem_cons.1 h with h | h
    · cases h; omega
    · have := bndE_mem h; omega
theorem QOk.bnd_ {H : Heap} {b : Nat} {qv : HV} {q : List Nat} (h : QOk H b qv q) : bnd qv = b + 1 := by
  obtain ⟨cap, rfl, _⟩ := h.val
  rfl
theorem gc_get {base r k : Nat} {H : Heap} (h : k < max base r) : (gc base r H)[k]? = H[k]? := by
  unfold gc
  rw [List.getElem?_take_of_lt (by omega)]
theorem fill_step (j d : Nat) : (List.replicate j (-1 : Int) ++ List.replicate (d + 1) 0).set j (-1) = List.replicate (j + 1) (-1) ++ List.replicate d 0 := by
  rw [List.set_append_right _ _ (by simp), List.length_replicate, Nat.sub_self, List.replicate_succ (n := d), List.set_cons_zero, List.replicate_succ' (n := j), List.append_assoc]
  rfl
end Go.Proofs.Ytmhfkhlamnapdaa
end
section
open Go Go.HL
namespace Go.Proofs.Ytmhfkhlamnapdaa
def encR (r : List Nat) : HV := .imm .arg 1 (r.map encN)
def decN : HV → Option Nat | .int .i64 n => if 0 ≤ n then some n.toNat else none | _ => none
def decR : HV → Option (List Nat) | .imm .arg 1 l => mapO decN l | _ => none
theorem decN_enc (n : Nat) : decN (encN n) = some n := by simp [decN, encN, encI]
theorem decN_inv (b : HV) (a : Nat) (h : decN b = some a) : b = encN a := by
  unfold decN at h
  split at h
  · rename_i n
    split at h
    · cases h
      rename_i h0
      simp only [encN, encI]
      rw [Int.toNat_of_nonneg h0]
    · cases h
  · cases h
theorem decR_enc (r : List Nat) : decR (encR r) = some r := mapO_map decN_enc r
theorem decR_inv (b : HV) (a : List Nat) (h : decR b = some a) : b = encR a := by
  unfold decR at h
  split at h
  · rw [mapO_inv decN_inv h]; rfl
  · cases h
theorem u55b : Try.prog.underlying 55 = some (.slice 24) := by kernel_rfl
theorem z24b : tySize Try.prog 24 = some 1 := by kernel_rfl
abbrev oE (rv ks vs : List HV) (x : Int) (n : Nat) (v6 v7 v8 v10 v16 v17 v42 v43 v44 : HV) : Env :=
  env50 (.agg [.imm .arg 1 rv, .imap .arg ks vs]) (.int .i64 x) (.ptr 0 0 0 1) (.imm .lit 1 []) (.sl 1 0 n (some n) n 1) v6 v7 v8 v10 v16 v17 v42 v43 v44
abbrev bX (rv ks vs : List HV) : Blk := .arr 2 [.agg [.imm .arg 1 rv, .imap .arg ks vs]] true 0
theorem far_in (rv ks vs : List HV) (x : Int) (n : Nat) (hn : n ≤ 1000) (i c k : Nat) (hck : c + 1 ≤ k) (w : Nat) (l : List Nat) (hl : ∀ y ∈ l, y < n) (hll : l.length ≤ 1000) : ∀ (d j : Nat) (H : Heap) (b : Nat) (qv : HV) (s : List Int × List Nat), j + d = l.length → QOk H b qv s.2 → 1 < b → H[1]? = some (bI s.1) → BInv n k s → s.2[i]? = some w → s.1.getD w 0 = (c : Int) → c ≤ 1000 →
    ∃ H' b' qv' v10, RunsTo Try.prog pol 50 (sub [1, 1, 1, 1, 1, 0, 1, 0, 0, 1, 0, 0, 1, 0] B50) (oE rv ks vs x n .undef qv (.int .i64 (i : Int)) .undef .undef .undef (encR l) (.int .i64 ((l.map encN).length : Int)) (.int .i64 (j : Int))) H
      (.exit 4) (pol.keys 50) (oE rv ks vs x n .undef qv' (.int .i64 (i : Int)) v10 .undef .undef (encR l) (.int .i64 ((l.map encN).length : Int)) (.int .i64 (l.length : Int))) H' ∧
      QOk H' b' qv' (bIn c (l.drop j) s).2 ∧ H'[1]? = some (bI (bIn c (l.drop j) s).1) ∧ Keep 1 b b' H H' := by
  intro d
  induction d with
  | zero =>
    intro j H b qv s hj hq hb ho hinv hw hc hc2
    have hj : j = l.length := by omega
    subst hj
    rw [List.drop_length]
    refine ⟨H, b, qv, .undef, ?_, hq, ho, Keep.refl _ _ _⟩
    have s1 := ff_k_2 rv ks vs x n qv H i (l.map encN) l.length (by rw [List.length_map]; omega)
    exact RunsTo.loop_out s1 (by simp) (by kernel_rfl) (by kernel_rfl)
  | succ d ih =>
    intro j H b qv s hj hq hb ho hinv hw hc hc2
    have hjl : j < l.length := by omega
    rw [List.drop_eq_getElem_cons hjl, bIn]
    have hy : l[j] < n := hl _ (List.getElem_mem hjl)
    have hwn : w < n := hinv.lt _ (List.mem_of_getElem? hw)
    have hlen := hinv.len
    have g0 : (j : Int) < ((l.map encN).length : Int) := by rw [List.length_map]; omega
    have g1 : idxV Try.prog 24 (.imm .arg 1 (l.map encN)) (.int .i64 (j : Int)) = some (.vptr (.int .i64 ((l[j] : Nat) : Int))) := idx_imm u24b z3b (by omega) (by rw [Int.toNat_natCast, List.getElem?_map, List.getElem?_eq_getElem hjl]; rfl)
    have gi : ∀ y, y < n → idxV Try.prog 24 (.sl 1 0 n (some n) n 1) (.int .i64 ((y : Nat) : Int)) = some (.ptr 1 (((y : Nat) : Int).toNat) 0 n) := fun y hy => idx_sl u24b z3b (by omega) (by omega)
    have gl : ∀ y, y < n → loadV Try.prog H 3 (.ptr 1 (((y : Nat) : Int).toNat) 0 n) = some (.int .i64 (s.1.getD y 0)) := fun y hy => by
      have := load_out ho (y := y) (by omega)
      rw [hlen] at this
      rw [Int.toNat_natCast]; exact this
    by_cases hlt : s.1.getD l[j] 0 < 0
    · have hst := store_out ho (y := l[j]) (by omega) (IntKind.i64.wrap ((c : Int) + 1))
      rw [hlen] at hst
      have hq' : QOk (H.set 1 (bI (s.1.set l[j] (IntKind.i64.wrap ((c : Int) + 1))))) b qv s.2 := ⟨hq.val, by rw [List.getElem?_set_ne (by omega)]; exact hq.blk⟩
      obtain ⟨v, H', b', ha, hq2, hk, hsame, hle⟩ := hq'.appq (by have := hinv.qlen; omega) l[j] 1
      have s1 := ff_k_0 rv ks vs x n qv H i (l.map encN) j _ _ _ _ _ _ _ _ g0 g1 (gi _ hy) (gl _ hy) hlt (hq.idxq (i := i) (lt_of_get hw)) (hq.loadq hw) (gi _ hwn) (gl _ hwn) (gi _ hy) (by rw [Int.toNat_natCast, hc]; exact hst) ha
      have hwr : IntKind.i64.wrap ((c : Int) + 1) = (c : Int) + 1 := by rw [wrapI64]; omega
      rw [hwr] at hk hsame hle
      have h1 : 1 < H.length := lt_of_get ho
      rw [if_pos hlt]
      have hinv' := hinv.step (c := (c : Int)) ⟨by omega, by omega⟩ hy
      rw [if_pos hlt] at hinv'
      have hb' : 1 < b' := by
        rcases hk.new with e | e
        · omega
        · have := e; rw [List.length_set] at this; omega
      have hn1 : b ≠ 1 := by omega
      have o1 : H'[1]? = some (bI (s.1.set l[j] ((c : Int) + 1))) := by
        rw [hsame 1 (by rw [List.length_set]; exact h1) (by omega), List.getElem?_set_self h1]
      obtain ⟨H2, b2, q2, v10, r2, e1, e2, e3⟩ := ih (j + 1) H' b' v (s.1.set l[j] ((c : Int) + 1), s.2 ++ [l[j]]) (by omega) hq2 hb' o1 hinv' (by
          show (s.2 ++ [l[j]])[i]? = some w
          rw [List.getElem?_append_left (lt_of_get hw)]; exact hw) (by
          show (s.1.set l[j] ((c : Int) + 1)).getD w 0 = _
          rw [getD_set _ _ _ _ (by omega), if_neg (fun e => by rw [e, hc] at hlt; omega)]; exact hc) hc2
      refine ⟨H2, b2, q2, v10, ?_, e1, e2, ?_⟩
      · rw [wrap_succ (by omega)] at s1
        refine RunsTo.loop s1 (by kernel_rfl) (gc_le ?_) r2 rfl (by kernel_rfl) (by kernel_rfl)
        have hb := bndE_mem (E := oE rv ks vs x n .undef v (.int .i64 (i : Int)) .undef .undef .undef (encR l) (.int .i64 ((l.map encN).length : Int)) (.int .i64 ((j + 1 : Nat) : Int))) (t := 7) (v := v) (by simp [oE, env50])
        rw [hq2.bnd_] at hb
        rw [List.length_set] at hle
        omega
      · refine Keep.trans ⟨?_, hk.new.imp id (fun e => ?_), fun k hk1 h2 h3 => ?_⟩ e3
        · have := hk.len; rw [List.length_set] at this; exact this
        · rw [List.length_set] at e; exact e
        · rw [hsame k (by rw [List.length_set]; exact hk1) h3, List.getElem?_set_ne (fun e => h2 e.symm)]
    · have s1 := ff_k_1 rv ks vs x n qv H i (l.map encN) j _ _ g0 g1 (gi _ hy) (gl _ hy) hlt
      rw [if_neg hlt]
      obtain ⟨H2, b2, q2, v10, r2, e1, e2, e3⟩ := ih (j + 1) H b qv s (by omega) hq hb ho hinv hw hc hc2
      rw [wrap_succ (by omega)] at s1
      exact ⟨H2, b2, q2, v10, RunsTo.loop s1 (by kernel_rfl) (gc_same (Nat.le_refl _)) r2 rfl (by kernel_rfl) (by kernel_rfl), e1, e2, e3⟩
theorem far_out (rows : List (List Nat)) (ks vs : List HV) (x : Int) (hn : rows.length ≤ 1000) (hr : ∀ r ∈ rows, r.length ≤ 1000 ∧ ∀ y ∈ r, y < rows.length) : ∀ (d i : Nat) (H : Heap) (b : Nat) (qv : HV) (s : List Int × List Nat), i + d = rows.length → QOk H b qv s.2 → 1 < b → H[0]? = some (bX (rows.map encR) ks vs) → H[1]? = some (bI s.1) → BInv rows.length i s → i ≤ s.2.length →
    ∃ i' H' qv', RunsTo Try.prog pol 50 (sub [1, 1, 1, 1, 1, 0, 1, 0] B50) (oE (rows.map encR) ks vs x rows.length .undef qv (.int .i64 (i : Int)) .undef .undef .undef .undef .undef .undef) H
      (.exit 2) (pol.keys 50) (oE (rows.map encR) ks vs x rows.length .undef qv' (.int .i64 ((i' : Nat) : Int)) .undef .undef .undef .undef .undef .undef) H' ∧
      H'[1]? = some (bI (bGo (fun y => rows.getD y []) d i s).1) ∧ (bGo (fun y => rows.getD y []) d i s).1.length = rows.length := by
  intro d
  induction d with
  | zero =>
    intro i H b qv s hi hq hb h0 ho hinv hle
    have := hinv.qlen
    have s1 := ff_h_1 (rows.map encR) ks vs x rows.length qv H i _ hq.lenq (by omega)
    exact ⟨i, H, qv, RunsTo.loop_out (RunsTo.seq_out s1 (by simp) (c := sub [1, 1, 1, 1, 1, 0, 1, 0, 0] B50) (b := sub [1, 1, 1, 1, 1, 0, 1, 0, 0, 1] B50) (by kernel_rfl)) (by simp) (by kernel_rfl) (by kernel_rfl), ho, hinv.len⟩
  | succ d ih =>
    intro i H b qv s hi hq hb h0 ho hinv hle
    rw [bGo]
    cases hw : s.2[i]? with
    | none =>
      have s1 := ff_h_1 (rows.map encR) ks vs x rows.length qv H i _ hq.lenq (by have := List.getElem?_eq_none_iff.1 hw; omega)
      exact ⟨i, H, qv, RunsTo.loop_out (RunsTo.seq_out s1 (by simp) (c := sub [1, 1, 1, 1, 1, 0, 1, 0, 0] B50) (b := sub [1, 1, 1, 1, 1, 0, 1, 0, 0, 1] B50) (by kernel_rfl)) (by simp) (by kernel_rfl) (by kernel_rfl), ho, hinv.len⟩
    | some w =>
      have hil := lt_of_get hw
      have hwn : w < rows.length := hinv.lt _ (List.mem_of_getElem? hw)
      have hc0 := (hinv.got w hwn).2 (List.mem_of_getElem? hw)
      have hci := hinv.le w hwn
      obtain ⟨c, hc⟩ : ∃ c : Nat, s.1.getD w 0 = (c : Int) := ⟨(s.1.getD w 0).toNat, by omega⟩
      have hrow : rows[w]? = some rows[w] := List.getElem?_eq_getElem hwn
      have hgd : rows.getD w [] = rows[w] := by simp [List.getD, hrow]
      have hrw := hr _ (List.getElem_mem hwn)
      have h1 := ff_h_0 (rows.map encR) ks vs x rows.length qv H i _ hq.lenq (by omega)
      have gb : loadV Try.prog H 55 (.ptr 0 0 0 1) = some (.imm .arg 1 (rows.map encR)) := load_cell (b := 0) (off := 0) h0 rfl rfl (by kernel_rfl) (by kernel_rfl) rfl
      have gr : idxV Try.prog 55 (.imm .arg 1 (rows.map encR)) (.int .i64 ((w : Nat) : Int)) = some (.vptr (.imm .arg 1 (rows[w].map encN))) := idx_imm u55b z24b (by omega) (by rw [Int.toNat_natCast, List.getElem?_map, hrow]; rfl)
      have g1 := ff_g_0 (rows.map encR) ks vs x rows.length qv H i [] _ _ _ gb (hq.idxq hil) (hq.loadq hw) gr
      obtain ⟨H', b', qv', v10, r1, q1, o1, k1⟩ := far_in (rows.map encR) ks vs x rows.length hn i c (i + 1) (by omega) w rows[w] hrw.2 hrw.1 rows[w].length 0 H b qv s (by omega) hq hb ho (hinv.mono (by omega)) hw hc (by omega)
      rw [List.drop_zero] at q1 o1
      have hinv' := BInv.inn (c := (c : Int)) (k := i + 1) ⟨by omega, by omega⟩ rows[w] s hrw.2 (hinv.mono (by omega))
      dsimp only
      rw [hc, hgd]
      obtain ⟨t, ht⟩ := bIn_pre (c : Int) rows[w] s
      have hH1 : 1 < H.length := lt_of_get ho
      have hb' : 1 < b' := by
        rcases k1.new with e | e
        · omega
        · omega
      have m1 := ff_m_0 (rows.map encR) ks vs x rows.length qv' H' i (rows[w].map encN) rows[w].length v10
      rw [wrap_succ (by omega)] at m1
      have hbd := bndE_mem (E := oE (rows.map encR) ks vs x rows.length .undef qv' (.int .i64 ((i + 1 : Nat) : Int)) .undef .undef .undef .undef .undef .undef) (t := 7) (v := qv') (by simp [oE, env50])
      rw [q1.bnd_] at hbd
      have hg := fun k (hk : k < max H.length (bndE (oE (rows.map encR) ks vs x rows.length .undef qv' (.int .i64 ((i + 1 : Nat) : Int)) .undef .undef .undef .undef .undef .undef))) => gc_get (H := H') hk
      obtain ⟨i2, H2, q2, r2, o2, l2⟩ := ih (i + 1) (gc H.length (bndE (oE (rows.map encR) ks vs x rows.length .undef qv' (.int .i64 ((i + 1 : Nat) : Int)) .undef .undef .undef .undef .undef .undef)) H') b' qv' (bIn (c : Int) rows[w] s) (by omega)
        ⟨q1.val, by rw [hg b' (by omega)]; exact q1.blk⟩ hb' (by rw [hg 0 (by omega), k1.same 0 (by omega) (by omega) (by omega)]; exact h0) (by rw [hg 1 (by omega)]; exact o1) hinv' (by rw [ht, List.length_append]; omega)
      refine ⟨i2, H2, q2, ?_, o2, l2⟩
      have t1 := RunsTo.seq g1 (RunsTo.block_exit (c := sub [1, 1, 1, 1, 1, 0, 1, 0, 0, 1, 0, 0, 1] B50) r1 (by kernel_rfl)) (c := sub [1, 1, 1, 1, 1, 0, 1, 0, 0, 1, 0, 0] B50) (by kernel_rfl) (by kernel_rfl)
      have t2 := RunsTo.block_normal (i := 3) (c := sub [1, 1, 1, 1, 1, 0, 1, 0, 0, 1, 0] B50) t1 (by kernel_rfl)
      have t3 := RunsTo.seq t2 m1 (c := sub [1, 1, 1, 1, 1, 0, 1, 0, 0, 1] B50) (by kernel_rfl) (by kernel_rfl)
      have t4 := RunsTo.seq h1 t3 (c := sub [1, 1, 1, 1, 1, 0, 1, 0, 0] B50) (by kernel_rfl) (by kernel_rfl)
      exact RunsTo.loop t4 (by kernel_rfl) rfl r2 rfl (by kernel_rfl) (by kernel_rfl)
theorem far_fill (rv ks vs : List HV) (x : Int) (n : Nat) (hn : n ≤ 1000) : ∀ (d j : Nat), j + d = n →
    RunsTo Try.prog pol 50 (sub [1, 1, 0, 1, 0] B50) (oE rv ks vs x n .undef .undef .undef .undef (.int .i64 (n : Int)) (.int .i64 (j : Int)) .undef .undef .undef) [bX rv ks vs, bI (List.replicate j (-1) ++ List.replicate d 0)]
      (.exit 0) (pol.keys 50) (oE rv ks vs x n .undef .undef .undef .undef (.int .i64 (n : Int)) (.int .i64 (n : Int)) .undef .undef .undef) [bX rv ks vs, bI (List.replicate n (-1))] := by
  intro d
  induction d with
  | zero =>
    intro j hj
    have hj : j = n := by omega
    subst hj
    rw [List.replicate_zero, List.append_nil]
    exact RunsTo.loop_out (ff_l1_1 rv ks vs x j ((List.replicate j (-1)).map encI) j (by omega)) (by simp) (by kernel_rfl) (by kernel_rfl)
  | succ d ih =>
    intro j hj
    have h := ih (j + 1) (by omega)
    have g1 : idxV Try.prog 24 (.sl 1 0 n (some n) n 1) (.int .i64 (j : Int)) = some (.ptr 1 j 0 n) := by
      have := idx_sl (P := Try.prog) (t := 24) (b := 1) (tot := n) (cap := some n) (ik := .i64) (n := (j : Int)) u24b z3b (by omega) (len := n) (by omega)
      simpa using this
    have hlen : (List.replicate j (-1 : Int) ++ List.replicate (d + 1) 0).length = n := by simp; omega
    have hst := store_out (H := [bX rv ks vs, bI (List.replicate j (-1) ++ List.replicate (d + 1) 0)]) (k := 1) rfl (y := j) (by omega) (-1)
    rw [hlen, fill_step] at hst
    have s1 := ff_l1_0 rv ks vs x n _ j _ (by omega) g1 hst
    rw [wrap_succ (by omega)] at s1
    exact RunsTo.loop s1 (by kernel_rfl) (gc_same (Nat.le_refl _)) h rfl (by kernel_rfl) (by kernel_rfl)
def rowsOk (rows : List (List Nat)) : Bool := rows.all fun r => decide (r.length ≤ 1000) && r.all (fun y => decide (y < rows.length))
theorem rowsOk_iff {rows : List (List Nat)} : rowsOk rows = true ↔ ∀ r ∈ rows, r.length ≤ 1000 ∧ ∀ y ∈ r, y < rows.length := by
  simp only [rowsOk, List.all_eq_true, Bool.and_eq_true, decide_eq_true_eq]
def farF (rows : List (List Nat)) (x : Nat) : List Int := bfs (fun y => rows.getD y []) rows.length x
def far50 : List HV → Option HV
  | [.agg [.imm .arg 1 rv, .imap .arg ks vs], .int .i64 x] =>
    match mapO decR rv with
    | some rows => if (rows.length ≤ 1000 ∧ rowsOk rows = true) ∧ 0 ≤ x ∧ x < rows.length then some (.own 1 ((farF rows x.toNat).map encI)) else none
    | none => none
  | _ => none
theorem res50 : Try.f50.results.toList = [.tmp 4] := by kernel_rfl
theorem far_ok : PrimOk Try.prog 50 far50 := by
  refine primOk_pure (pol := pol) (fn := Try.f50) (cd := B50) follows_mixed sound (by kernel_rfl) (by kernel_rfl) (fnok pol.prim _ _ (by kernel_rfl)) (by kernel_rfl) ?_
  intro args res h
  unfold far50 at h
  split at h
  · rename_i rv ks vs x
    split at h
    · rename_i rows hrv
      split at h
      · rename_i hg
        obtain ⟨⟨hn, hok⟩, hx0, hx1⟩ := hg
        cases h
        rw [mapO_inv decR_inv hrv]
        have hr := rowsOk_iff.1 hok
        obtain ⟨w, rfl⟩ : ∃ w : Nat, x = (w : Int) := ⟨x.toNat, by omega⟩
        have hw : w < rows.length := by omega
        have a1 := ff_a_0 (rows.map encR) ks vs (w : Int)
        have hlen : (rows.map encR).length = rows.length := by simp
        have hmk := makeV_ok (P := Try.prog) (H := [bX (rows.map encR) ks vs]) (t := 24) (e := 3) (k := 1) (bt := 8) (zv := .int .i64 0) (n := (rows.length : Int)) u24b (by kernel_rfl) (by kernel_rfl) (by kernel_rfl) (by omega) (by omega) (by rw [show roomMax = 70368744177664 from rfl]; omega)
        rw [Int.toNat_natCast] at hmk
        have b1 := ff_b_0 (rows.map encR) ks vs (w : Int) (by rw [hlen]; exact hmk)
        rw [hlen] at b1
        have c1 := ff_c_0 (rows.map encR) ks vs (w : Int) rows.length (List.replicate rows.length (.int .i64 0))
        have l1 := far_fill (rows.map encR) ks vs (w : Int) rows.length hn rows.length 0 (by omega)
        have e0 : bI (List.replicate 0 (-1) ++ List.replicate rows.length 0) = .arr 1 (List.replicate rows.length (.int .i64 0)) true 0 := by simp [bI, encI]
        rw [e0] at l1
        have gi : idxV Try.prog 24 (.sl 1 0 rows.length (some rows.length) rows.length 1) (.int .i64 (w : Int)) = some (.ptr 1 ((w : Int).toNat) 0 rows.length) := idx_sl u24b z3b (by omega) (by omega)
        have hst := store_out (H := [bX (rows.map encR) ks vs, bI (List.replicate rows.length (-1))]) (k := 1) rfl (y := w) (by simpa using hw) 0
        rw [List.length_replicate] at hst
        have d1 := ff_d_0 (rows.map encR) ks vs (w : Int) rows.length _ .undef (.int .i64 (rows.length : Int)) (.int .i64 (rows.length : Int)) _ gi (by rw [Int.toNat_natCast]; exact hst)
        have e1 := ff_e_0 (rows.map encR) ks vs (w : Int) rows.length (((List.replicate rows.length (-1)).set w 0).map encI) .undef (.int .i64 (rows.length : Int)) (.int .i64 (rows.length : Int))
        have hq : QOk [bX (rows.map encR) ks vs, bI ((List.replicate rows.length (-1)).set w 0), bNs [w]] 2 (.sl 2 0 1 (some 1) 1 1) [w] := ⟨⟨some 1, rfl, .inr rfl⟩, rfl⟩
        have f1 := ff_f_0 (rows.map encR) ks vs (w : Int) rows.length .undef (.int .i64 (rows.length : Int)) (.int .i64 (rows.length : Int)) (.sl 2 0 1 (some 1) 1 1) [bX (rows.map encR) ks vs, bI ((List.replicate rows.length (-1)).set w 0), bNs [w]]
        obtain ⟨i', H', qv', r1, o1, hl1⟩ := far_out rows ks vs (w : Int) hn hr rows.length 0 _ 2 _ (bInit rows.length w) (by omega) hq (by omega) rfl rfl (bInit_inv hw) (Nat.zero_le _)
        have r1' := RunsTo.loop_in (e0 := oE (rows.map encR) ks vs (w : Int) rows.length .undef (.sl 2 0 1 (some 1) 1 1) (.int .i64 0) .undef (.int .i64 (rows.length : Int)) (.int .i64 (rows.length : Int)) .undef .undef .undef) r1 (b := sub [1, 1, 1, 1, 1, 0, 1, 0, 0] B50) (by kernel_rfl) (by kernel_rfl) (by kernel_rfl)
        have z1 := ff_z_0 (rows.map encR) ks vs (w : Int) rows.length qv' H' i'
        have t1 := RunsTo.seq f1 (RunsTo.block_exit (c := sub [1, 1, 1, 1, 1, 0, 1] B50) r1' (by kernel_rfl)) (c := sub [1, 1, 1, 1, 1, 0] B50) (by kernel_rfl) (by kernel_rfl)
        have t2 := RunsTo.seq t1 z1 (c := sub [1, 1, 1, 1, 1] B50) (by kernel_rfl) (by kernel_rfl)
        have t3 := RunsTo.seq e1 t2 (c := sub [1, 1, 1, 1] B50) (by kernel_rfl) (by kernel_rfl)
        have t4 := RunsTo.seq d1 t3 (c := sub [1, 1, 1] B50) (by kernel_rfl) (by kernel_rfl)
        have t5 := RunsTo.seq c1 (RunsTo.block_exit (c := sub [1, 1, 0, 1] B50) l1 (by kernel_rfl)) (c := sub [1, 1, 0] B50) (by kernel_rfl) (by kernel_rfl)
        have t6 := RunsTo.seq t5 t4 (c := sub [1, 1] B50) (by kernel_rfl) (by kernel_rfl)
        have t7 := RunsTo.seq b1 t6 (c := sub [1] B50) (by kernel_rfl) (by kernel_rfl)
        have t8 := RunsTo.seq a1 t7 (c := B50) (by kernel_rfl) (by kernel_rfl)
        have ho := o1
        have hr2 := resCell_sl (H := H') (no := [1]) (b := 1) (k := 1) (m := rows.length) (cap := some rows.length) (els := (farF rows w).map encI) ho (by rw [List.length_map]; exact hl1) (mapO_self (fun r => frz_int 4 r) _)
        have hown : ownedAll H' false (.sl 1 0 rows.length (some rows.length) rows.length 1) = [1] := by
          simp only [ownedAll, cellsOf, List.flatMap_cons, List.flatMap_nil, owned, ho]; rfl
        refine ⟨_, _, _, .sl 1 0 rows.length (some rows.length) rows.length 1, t8, by simp, by simp only [resultsV, res50]; rfl, ?_⟩
        show toRes _ false _ = _
        simp only [toRes, hown, List.nodup_cons, List.not_mem_nil, not_false_eq_true, List.nodup_nil, and_self, if_true, resVal, hr2, Int.toNat_natCast]
      · cases h
    · cases h
  · cases h
end Go.Proofs.Ytmhfkhlamnapdaa
end
section
open Go Go.HL
namespace Go.Proofs.Ytmhfkhlamnapdaa
set_option maxRecDepth 100000
noncomputable def B51 : Code := Try.f51.body.getD .skip
abbrev env51 (v0 v1 v2 v6 v7 v8 v9 v10 v11 v12 : HV) : Env := [(0, v0), (1, v1), (2, v2), (6, v6), (7, v7), (8, v8), (9, v9), (10, v10), (11, v11), (12, v12)]
theorem nb_a_0 (n : Int) (lc : List HV) (x : Int) : RunsTo Try.prog pol 51 (sub [0] B51) [(0, .i n), (1, .imm .arg 2 lc), (2, .i x)] [] .normal (pol.keys 51) (env51 (.i n) (.imm .arg 2 lc) (.i x) (.imm .lit 1 []) .undef .undef .undef .undef .undef .undef) [] :=
  RunsTo.hin 0 60 [] fun kf hk => ⟨_, by kernel_rfl, .nil⟩
theorem nb_b_0 (n : Int) (lc : List HV) (x : Int) (m : Nat)(g0 : makeV Try.prog false 43 (.i n) (.i n) [] = some (.sl 0 0 m (some m) m 1, [.arr 1 (List.replicate m (.bool false)) true 0])) : RunsTo Try.prog pol 51 (sub [1, 0] B51) (env51 (.i n) (.imm .arg 2 lc) (.i x) (.imm .lit 1 []) .undef .undef .undef .undef .undef .undef) [] .normal (pol.keys 51) (env51 (.i n) (.imm .arg 2 lc) (.i x) (.imm .lit 1 []) (.sl 0 0 m (some m) m 1) .undef .undef .undef .undef .undef) [.arr 1 (List.replicate m (.bool false)) true 0] :=
  RunsTo.hin 0 60 [⟨1, 1, .sl 0 0 m (some m) m 1, [.arr 1 (List.replicate m (.bool false)) true 0]⟩] fun kf hk => ⟨_, by kernel_rfl, (oC (g0) .nil)⟩
theorem nb_c_0 (n : Int) (lc : List HV) (x : Int) (m : Nat) (els : List HV) : RunsTo Try.prog pol 51 (sub [1, 1, 0, 0] B51) (env51 (.i n) (.imm .arg 2 lc) (.i x) (.imm .lit 1 []) (.sl 0 0 m (some m) m 1) .undef .undef .undef .undef .undef) [.arr 1 els true 0] .normal (pol.keys 51) (env51 (.i n) (.imm .arg 2 lc) (.i x) (.imm .lit 1 []) (.sl 0 0 m (some m) m 1) (.i 0) .undef .undef .undef .undef) [.arr 1 els true 0] :=
  RunsTo.hin 0 60 [] fun kf hk => ⟨_, by kernel_rfl, .nil⟩
theorem nb_l_0 (n : Int) (lc : List HV) (x : Int) (m : Nat) (els : List HV) (j : Nat) (x0 : Int) (x1 : Int) (x2 : Int) (x3 : Int) (el0 : List HV) (el1 : List HV) (g0 : (j : Int) < (lc.length : Int)) (g1 : idxV Try.prog 22 (.imm .arg 2 lc) (.i (j : Int)) = some (.vptr (.agg [.i x0, .i x1]))) (g2 : idxV Try.prog 22 (.imm .arg 2 lc) (.i (j : Int)) = some (.vptr (.agg [.i x2, .i x3]))) (g3 : x0 = x) (g4 : idxV Try.prog 43 (.sl 0 0 m (some m) m 1) (.i x3) = some (.ptr 0 ((x3).toNat) 0 m)) (g5 : storeV Try.prog [.arr 1 els true 0] 4 (.ptr 0 ((x3).toNat) 0 m) (.bool true) = some [.arr 1 el0 true 0]) (g6 : x3 = x) (g7 : idxV Try.prog 43 (.sl 0 0 m (some m) m 1) (.i x0) = some (.ptr 0 ((x0).toNat) 0 m)) (g8 : storeV Try.prog [.arr 1 el0 true 0] 4 (.ptr 0 ((x0).toNat) 0 m) (.bool true) = some [.arr 1 el1 true 0]) : RunsTo Try.prog pol 51 (sub [1, 1, 0, 1, 0, 0] B51) (env51 (.i n) (.imm .arg 2 lc) (.i x) (.imm .lit 1 []) (.sl 0 0 m (some m) m 1) (.i (j : Int)) .undef .undef .undef .undef) [.arr 1 els true 0] .normal (pol.keys 51) (env51 (.i n) (.imm .arg 2 lc) (.i x) (.imm .lit 1 []) (.sl 0 0 m (some m) m 1) (.i (IntKind.i64.wrap ((j : Int) + 1))) (.i x0) (.i x3) .undef .undef) [.arr 1 el1 true 0] :=
  RunsTo.hin 0 60 [⟨3, 3, .bool true, [.arr 1 els true 0]⟩, ⟨5, 2, .vptr (.agg [.i x0, .i x1]), [.arr 1 els true 0]⟩, ⟨5, 7, .vptr (.agg [.i x2, .i x3]), [.arr 1 els true 0]⟩, ⟨6, 2, .bool true, [.arr 1 els true 0]⟩, ⟨7, 2, .ptr 0 ((x3).toNat) 0 m, [.arr 1 els true 0]⟩, ⟨7, 3, .tuple [], [.arr 1 el0 true 0]⟩, ⟨8, 2, .bool true, [.arr 1 el0 true 0]⟩, ⟨9, 2, .ptr 0 ((x0).toNat) 0 m, [.arr 1 el0 true 0]⟩, ⟨9, 3, .tuple [], [.arr 1 el1 true 0]⟩] fun kf hk => ⟨_, by kernel_rfl, (oB [.arr 1 els true 0] (decide_eq_true g0) (oP [.arr 1 els true 0] g1 (oP [.arr 1 els true 0] g2 (oB [.arr 1 els true 0] (decide_eq_true g3) (oP [.arr 1 els true 0] g4 (oS g5 (oB [.arr 1 el0 true 0] (decide_eq_true g6) (oP [.arr 1 el0 true 0] g7 (oS g8 .nil)))))))))⟩
theorem nb_l_1 (n : Int) (lc : List HV) (x : Int) (m : Nat) (els : List HV) (j : Nat) (x0 : Int) (x1 : Int) (x2 : Int) (x3 : Int) (el0 : List HV) (g0 : (j : Int) < (lc.length : Int)) (g1 : idxV Try.prog 22 (.imm .arg 2 lc) (.i (j : Int)) = some (.vptr (.agg [.i x0, .i x1]))) (g2 : idxV Try.prog 22 (.imm .arg 2 lc) (.i (j : Int)) = some (.vptr (.agg [.i x2, .i x3]))) (g3 : x0 = x) (g4 : idxV Try.prog 43 (.sl 0 0 m (some m) m 1) (.i x3) = some (.ptr 0 ((x3).toNat) 0 m)) (g5 : storeV Try.prog [.arr 1 els true 0] 4 (.ptr 0 ((x3).toNat) 0 m) (.bool true) = some [.arr 1 el0 true 0]) (g6 : ¬ (x3 = x)) : RunsTo Try.prog pol 51 (sub [1, 1, 0, 1, 0, 0] B51) (env51 (.i n) (.imm .arg 2 lc) (.i x) (.imm .lit 1 []) (.sl 0 0 m (some m) m 1) (.i (j : Int)) .undef .undef .undef .undef) [.arr 1 els true 0] .normal (pol.keys 51) (env51 (.i n) (.imm .arg 2 lc) (.i x) (.imm .lit 1 []) (.sl 0 0 m (some m) m 1) (.i (IntKind.i64.wrap ((j : Int) + 1))) (.i x0) (.i x3) .undef .undef) [.arr 1 el0 true 0] :=
  RunsTo.hin 0 60 [⟨3, 3, .bool true, [.arr 1 els true 0]⟩, ⟨5, 2, .vptr (.agg [.i x0, .i x1]), [.arr 1 els true 0]⟩, ⟨5, 7, .vptr (.agg [.i x2, .i x3]), [.arr 1 els true 0]⟩, ⟨6, 2, .bool true, [.arr 1 els true 0]⟩, ⟨7, 2, .ptr 0 ((x3).toNat) 0 m, [.arr 1 els true 0]⟩, ⟨7, 3, .tuple [], [.arr 1 el0 true 0]⟩, ⟨8, 2, .bool false, [.arr 1 el0 true 0]⟩] fun kf hk => ⟨_, by kernel_rfl, (oB [.arr 1 els true 0] (decide_eq_true g0) (oP [.arr 1 els true 0] g1 (oP [.arr 1 els true 0] g2 (oB [.arr 1 els true 0] (decide_eq_true g3) (oP [.arr 1 els true 0] g4 (oS g5 (oB [.arr 1 el0 true 0] (decide_eq_false g6) .nil)))))))⟩
theorem nb_l_2 (n : Int) (lc : List HV) (x : Int) (m : Nat) (els : List HV) (j : Nat) (x0 : Int) (x1 : Int) (x2 : Int) (x3 : Int) (el0 : List HV) (g0 : (j : Int) < (lc.length : Int)) (g1 : idxV Try.prog 22 (.imm .arg 2 lc) (.i (j : Int)) = some (.vptr (.agg [.i x0, .i x1]))) (g2 : idxV Try.prog 22 (.imm .arg 2 lc) (.i (j : Int)) = some (.vptr (.agg [.i x2, .i x3]))) (g3 : ¬ (x0 = x)) (g4 : x3 = x) (g5 : idxV Try.prog 43 (.sl 0 0 m (some m) m 1) (.i x0) = some (.ptr 0 ((x0).toNat) 0 m)) (g6 : storeV Try.prog [.arr 1 els true 0] 4 (.ptr 0 ((x0).toNat) 0 m) (.bool true) = some [.arr 1 el0 true 0]) : RunsTo Try.prog pol 51 (sub [1, 1, 0, 1, 0, 0] B51) (env51 (.i n) (.imm .arg 2 lc) (.i x) (.imm .lit 1 []) (.sl 0 0 m (some m) m 1) (.i (j : Int)) .undef .undef .undef .undef) [.arr 1 els true 0] .normal (pol.keys 51) (env51 (.i n) (.imm .arg 2 lc) (.i x) (.imm .lit 1 []) (.sl 0 0 m (some m) m 1) (.i (IntKind.i64.wrap ((j : Int) + 1))) (.i x0) (.i x3) .undef .undef) [.arr 1 el0 true 0] :=
  RunsTo.hin 0 60 [⟨3, 3, .bool true, [.arr 1 els true 0]⟩, ⟨5, 2, .vptr (.agg [.i x0, .i x1]), [.arr 1 els true 0]⟩, ⟨5, 7, .vptr (.agg [.i x2, .i x3]), [.arr 1 els true 0]⟩, ⟨6, 2, .bool false, [.arr 1 els true 0]⟩, ⟨8, 2, .bool true, [.arr 1 els true 0]⟩, ⟨9, 2, .ptr 0 ((x0).toNat) 0 m, [.arr 1 els true 0]⟩, ⟨9, 3, .tuple [], [.arr 1 el0 true 0]⟩] fun kf hk => ⟨_, by kernel_rfl, (oB [.arr 1 els true 0] (decide_eq_true g0) (oP [.arr 1 els true 0] g1 (oP [.arr 1 els true 0] g2 (oB [.arr 1 els true 0] (decide_eq_false g3) (oB [.arr 1 els true 0] (decide_eq_true g4) (oP [.arr 1 els true 0] g5 (oS g6 .nil)))))))⟩
theorem nb_l_3 (n : Int) (lc : List HV) (x : Int) (m : Nat) (els : List HV) (j : Nat) (x0 : Int) (x1 : Int) (x2 : Int) (x3 : Int) (g0 : (j : Int) < (lc.length : Int)) (g1 : idxV Try.prog 22 (.imm .arg 2 lc) (.i (j : Int)) = some (.vptr (.agg [.i x0, .i x1]))) (g2 : idxV Try.prog 22 (.imm .arg 2 lc) (.i (j : Int)) = some (.vptr (.agg [.i x2, .i x3]))) (g3 : ¬ (x0 = x)) (g4 : ¬ (x3 = x)) : RunsTo Try.prog pol 51 (sub [1, 1, 0, 1, 0, 0] B51) (env51 (.i n) (.imm .arg 2 lc) (.i x) (.imm .lit 1 []) (.sl 0 0 m (some m) m 1) (.i (j : Int)) .undef .undef .undef .undef) [.arr 1 els true 0] .normal (pol.keys 51) (env51 (.i n) (.imm .arg 2 lc) (.i x) (.imm .lit 1 []) (.sl 0 0 m (some m) m 1) (.i (IntKind.i64.wrap ((j : Int) + 1))) (.i x0) (.i x3) .undef .undef) [.arr 1 els true 0] :=
  RunsTo.hin 0 60 [⟨3, 3, .bool true, [.arr 1 els true 0]⟩, ⟨5, 2, .vptr (.agg [.i x0, .i x1]), [.arr 1 els true 0]⟩, ⟨5, 7, .vptr (.agg [.i x2, .i x3]), [.arr 1 els true 0]⟩, ⟨6, 2, .bool false, [.arr 1 els true 0]⟩, ⟨8, 2, .bool false, [.arr 1 els true 0]⟩] fun kf hk => ⟨_, by kernel_rfl, (oB [.arr 1 els true 0] (decide_eq_true g0) (oP [.arr 1 els true 0] g1 (oP [.arr 1 els true 0] g2 (oB [.arr 1 els true 0] (decide_eq_false g3) (oB [.arr 1 els true 0] (decide_eq_false g4) .nil)))))⟩
theorem nb_l_4 (n : Int) (lc : List HV) (x : Int) (m : Nat) (els : List HV) (j : Nat)(g0 : ¬ ((j : Int) < (lc.length : Int))) : RunsTo Try.prog pol 51 (sub [1, 1, 0, 1, 0, 0] B51) (env51 (.i n) (.imm .arg 2 lc) (.i x) (.imm .lit 1 []) (.sl 0 0 m (some m) m 1) (.i (j : Int)) .undef .undef .undef .undef) [.arr 1 els true 0] (.exit 0) (pol.keys 51) (env51 (.i n) (.imm .arg 2 lc) (.i x) (.imm .lit 1 []) (.sl 0 0 m (some m) m 1) (.i (j : Int)) .undef .undef .undef .undef) [.arr 1 els true 0] :=
  RunsTo.hin 0 60 [⟨3, 3, .bool false, [.arr 1 els true 0]⟩] fun kf hk => ⟨_, by kernel_rfl, (oB [.arr 1 els true 0] (decide_eq_false g0) .nil)⟩
theorem nb_d_0 (n : Int) (lc : List HV) (x : Int) (m : Nat) (els : List HV) (j : Nat) : RunsTo Try.prog pol 51 (sub [1, 1, 1, 0] B51) (env51 (.i n) (.imm .arg 2 lc) (.i x) (.imm .lit 1 []) (.sl 0 0 m (some m) m 1) (.i (j : Int)) .undef .undef .undef .undef) [.arr 1 els true 0] .normal (pol.keys 51) (env51 (.i n) (.imm .arg 2 lc) (.i x) (.imm .lit 1 []) (.sl 0 0 m (some m) m 1) (.i (j : Int)) .undef .undef (.sl 1 0 0 none 0 1) .undef) [.arr 1 els true 0, .arr 1 [] true 0] :=
  RunsTo.hin 0 60 [] fun kf hk => ⟨_, by kernel_rfl, .nil⟩
theorem nb_e_0 (n : Int) (lc : List HV) (x : Int) (m : Nat) (els : List HV) (q : Nat) (row : List HV) (p : Nat) : RunsTo Try.prog pol 51 (sub [1, 1, 1, 1, 0, 0] B51) (env51 (.i n) (.imm .arg 2 lc) (.i x) (.imm .lit 1 []) (.sl 0 0 m (some m) m 1) (.i (q : Int)) .undef .undef (.sl 1 0 p none p 1) .undef) [.arr 1 els true 0, .arr 1 row true 0] .normal (pol.keys 51) (env51 (.i n) (.imm .arg 2 lc) (.i x) (.imm .lit 1 []) (.sl 0 0 m (some m) m 1) (.i (q : Int)) .undef .undef (.sl 1 0 p none p 1) (.i 0)) [.arr 1 els true 0, .arr 1 row true 0] :=
  RunsTo.hin 0 60 [] fun kf hk => ⟨_, by kernel_rfl, .nil⟩
theorem nb_k_0 (n : Int) (lc : List HV) (x : Int) (m : Nat) (els : List HV) (row : List HV) (p : Nat) (j : Nat)(g0 : (j : Int) < n) (g1 : idxV Try.prog 43 (.sl 0 0 m (some m) m 1) (.i (j : Int)) = some (.ptr 0 j 0 m)) (g2 : loadV Try.prog [.arr 1 els true 0, .arr 1 row true 0] 4 (.ptr 0 j 0 m) = some (.bool true)) (g3 : appV [.arr 1 els true 0, .arr 1 row true 0] 1 8 (.sl 1 0 p none p 1) [.i (j : Int)] = some (.sl 1 0 (p + 1) none (p + 1) 1, [.arr 1 els true 0, .arr 1 (row ++ [.i (j : Int)]) true 0])) : RunsTo Try.prog pol 51 (sub [1, 1, 1, 1, 0, 1, 0, 0] B51) (env51 (.i n) (.imm .arg 2 lc) (.i x) (.imm .lit 1 []) (.sl 0 0 m (some m) m 1) .undef .undef .undef (.sl 1 0 p none p 1) (.i (j : Int))) [.arr 1 els true 0, .arr 1 row true 0] .normal (pol.keys 51) (env51 (.i n) (.imm .arg 2 lc) (.i x) (.imm .lit 1 []) (.sl 0 0 m (some m) m 1) .undef .undef .undef (.sl 1 0 (p + 1) none (p + 1) 1) (.i (IntKind.i64.wrap ((j : Int) + 1)))) [.arr 1 els true 0, .arr 1 (row ++ [.i (j : Int)]) true 0] :=
  RunsTo.hin 0 60 [⟨12, 2, .bool true, [.arr 1 els true 0, .arr 1 row true 0]⟩, ⟨14, 2, .ptr 0 j 0 m, [.arr 1 els true 0, .arr 1 row true 0]⟩, ⟨14, 3, .bool true, [.arr 1 els true 0, .arr 1 row true 0]⟩, ⟨15, 3, .sl 1 0 (p + 1) none (p + 1) 1, [.arr 1 els true 0, .arr 1 (row ++ [.i (j : Int)]) true 0]⟩] fun kf hk => ⟨_, by kernel_rfl, (oB [.arr 1 els true 0, .arr 1 row true 0] (decide_eq_true g0) (oP [.arr 1 els true 0, .arr 1 row true 0] g1 (oP [.arr 1 els true 0, .arr 1 row true 0] g2 (oC (g3) .nil))))⟩
theorem nb_k_1 (n : Int) (lc : List HV) (x : Int) (m : Nat) (els : List HV) (row : List HV) (p : Nat) (j : Nat)(g0 : (j : Int) < n) (g1 : idxV Try.prog 43 (.sl 0 0 m (some m) m 1) (.i (j : Int)) = some (.ptr 0 j 0 m)) (g2 : loadV Try.prog [.arr 1 els true 0, .arr 1 row true 0] 4 (.ptr 0 j 0 m) = some (.bool false)) : RunsTo Try.prog pol 51 (sub [1, 1, 1, 1, 0, 1, 0, 0] B51) (env51 (.i n) (.imm .arg 2 lc) (.i x) (.imm .lit 1 []) (.sl 0 0 m (some m) m 1) .undef .undef .undef (.sl 1 0 p none p 1) (.i (j : Int))) [.arr 1 els true 0, .arr 1 row true 0] .normal (pol.keys 51) (env51 (.i n) (.imm .arg 2 lc) (.i x) (.imm .lit 1 []) (.sl 0 0 m (some m) m 1) .undef .undef .undef (.sl 1 0 p none p 1) (.i (IntKind.i64.wrap ((j : Int) + 1)))) [.arr 1 els true 0, .arr 1 row true 0] :=
  RunsTo.hin 0 60 [⟨12, 2, .bool true, [.arr 1 els true 0, .arr 1 row true 0]⟩, ⟨14, 2, .ptr 0 j 0 m, [.arr 1 els true 0, .arr 1 row true 0]⟩, ⟨14, 3, .bool false, [.arr 1 els true 0, .arr 1 row true 0]⟩] fun kf hk => ⟨_, by kernel_rfl, (oB [.arr 1 els true 0, .arr 1 row true 0] (decide_eq_true g0) (oP [.arr 1 els true 0, .arr 1 row true 0] g1 (oP [.arr 1 els true 0, .arr 1 row true 0] g2 .nil)))⟩
theorem nb_k_2 (n : Int) (lc : List HV) (x : Int) (m : Nat) (els : List HV) (row : List HV) (p : Nat) (j : Nat)(g0 : ¬ ((j : Int) < n)) : RunsTo Try.prog pol 51 (sub [1, 1, 1, 1, 0, 1, 0, 0] B51) (env51 (.i n) (.imm .arg 2 lc) (.i x) (.imm .lit 1 []) (.sl 0 0 m (some m) m 1) .undef .undef .undef (.sl 1 0 p none p 1) (.i (j : Int))) [.arr 1 els true 0, .arr 1 row true 0] (.exit 2) (pol.keys 51) (env51 (.i n) (.imm .arg 2 lc) (.i x) (.imm .lit 1 []) (.sl 0 0 m (some m) m 1) .undef .undef .undef (.sl 1 0 p none p 1) (.i (j : Int))) [.arr 1 els true 0, .arr 1 row true 0] :=
  RunsTo.hin 0 60 [⟨12, 2, .bool false, [.arr 1 els true 0, .arr 1 row true 0]⟩] fun kf hk => ⟨_, by kernel_rfl, (oB [.arr 1 els true 0, .arr 1 row true 0] (decide_eq_false g0) .nil)⟩
theorem nb_z_0 (n : Int) (lc : List HV) (x : Int) (m : Nat) (els : List HV) (row : List HV) (p : Nat) (j : Nat) : RunsTo Try.prog pol 51 (sub [1, 1, 1, 1, 1] B51) (env51 (.i n) (.imm .arg 2 lc) (.i x) (.imm .lit 1 []) (.sl 0 0 m (some m) m 1) .undef .undef .undef (.sl 1 0 p none p 1) (.i (j : Int))) [.arr 1 els true 0, .arr 1 row true 0] .ret (pol.keys 51) (env51 (.i n) (.imm .arg 2 lc) (.i x) (.sl 1 0 p none p 1) (.sl 0 0 m (some m) m 1) .undef .undef .undef (.sl 1 0 p none p 1) (.i (j : Int))) [.arr 1 els true 0, .arr 1 row true 0] :=
  RunsTo.hin 0 60 [] fun kf hk => ⟨_, by kernel_rfl, .nil⟩
end Go.Proofs.Ytmhfkhlamnapdaa
end
section
open Go Go.HL
namespace Go.Proofs.Ytmhfkhlamnapdaa
theorem argP_pairs' : ∀ (l : List (Int × Int)), argPL (l.map encP) = some (l.map encP)
  | [] => rfl
  | p :: l => by simp only [List.map_cons, argPL, argP_pairs' l, encP, argP]
theorem arg_pairs' (H : Heap) (l : List (Int × Int)) : toArg H 6 (.imm .arg 2 (l.map encP)) = some (.imm .arg 2 (l.map encP)) := by
  show argP (.imm .arg 2 (l.map encP)) = _
  simp only [argP, argP_pairs']
end Go.Proofs.Ytmhfkhlamnapdaa
end
section
open Go Go.HL
namespace Go.Proofs.Ytmhfkhlamnapdaa
def setFrom : Nat → Nat → List Bool → List Bool
  | _, 0, r => r
  | j, d + 1, r => setFrom (j + 1) d (r.set j true)
def full (m : Nat) : List Bool := setFrom 0 m zero20
theorem argP_pairs : ∀ (l : List (Int × Int)), argPL (l.map encP) = some (l.map encP)
  | [] => rfl
  | p :: l => by simp only [List.map_cons, argPL, argP_pairs l, encP, argP]
end Go.Proofs.Ytmhfkhlamnapdaa
end
section
open Go Go.HL
namespace Go.Proofs.Ytmhfkhlamnapdaa
theorem bitAt_set (F : List Bool) (i j : Nat) (v : Bool) (h : i < F.length) : bitAt (F.set i v) j = if i = j then v else bitAt F j := by
  unfold bitAt
  rw [List.getElem?_set]
  split
  · rfl
  · rfl
end Go.Proofs.Ytmhfkhlamnapdaa
end
section
open Go Go.HL
namespace Go.Proofs.Ytmhfkhlamnapdaa
def truesFrom (r : List Bool) : Nat → Nat → List Int → List Int
  | _, 0, l => l
  | x, d + 1, l => truesFrom r (x + 1) d (if bitAt r x then l ++ [(x : Int)] else l)
end Go.Proofs.Ytmhfkhlamnapdaa
end
section
open Go Go.HL
namespace Go.Proofs.Ytmhfkhlamnapdaa
def nbMark (x : Int) : List (Int × Int) → List Bool → List Bool
  | [], F => F
  | p :: l, F => nbMark x l (if p.2 = x then (if p.1 = x then F.set p.2.toNat true else F).set p.1.toNat true else (if p.1 = x then F.set p.2.toNat true else F))
theorem nbMark_length (x : Int) : ∀ (l : List (Int × Int)) (F : List Bool), (nbMark x l F).length = F.length
  | [], _ => rfl
  | p :: l, F => by
    rw [nbMark, nbMark_length x l]
    split <;> split <;> simp
def nbrs (m : Nat) (l : List (Int × Int)) (x : Int) : List Int := truesFrom (nbMark x l (List.replicate m false)) 0 m []
abbrev nbE (m : Nat) (lc : List HV) (x : Int) (v8 v11 v12 : HV) : Env := env51 (.int .i64 (m : Int)) (.imm .arg 2 lc) (.int .i64 x) (.imm .lit 1 []) (.sl 0 0 m (some m) m 1) v8 .undef .undef v11 v12
theorem nb_mark_loop (m : Nat) (hm : m ≤ 1000) (l : List (Int × Int)) (hl : l.length ≤ 1000) (hv : ∀ p ∈ l, inB m p) (x : Int) : ∀ (d j : Nat) (F : List Bool), j + d = l.length → F.length = m →
    RunsTo Try.prog pol 51 (sub [1, 1, 0, 1, 0] B51) (nbE m (l.map encP) x (.int .i64 (j : Int)) .undef .undef) [bF F]
      (.exit 0) (pol.keys 51) (nbE m (l.map encP) x (.int .i64 (l.length : Int)) .undef .undef) [bF (nbMark x (l.drop j) F)] := by
  intro d
  induction d with
  | zero =>
    intro j F hj hF
    have hj : j = l.length := by omega
    subst hj
    rw [List.drop_length]
    exact RunsTo.loop_out (nb_l_4 (m : Int) (l.map encP) x m (F.map .bool) l.length (by simp)) (by simp) (by kernel_rfl) (by kernel_rfl)
  | succ d ih =>
    intro j F hj hF
    have hjl : j < l.length := by omega
    rw [List.drop_eq_getElem_cons hjl, nbMark]
    have hpk : (l.map encP)[j]? = some (encP l[j]) := by rw [List.getElem?_map, List.getElem?_eq_getElem hjl]; rfl
    have g1 : idxV Try.prog 22 (.imm .arg 2 (l.map encP)) (.int .i64 (j : Int)) = some (.vptr (.agg [.int .i64 l[j].1, .int .i64 l[j].2])) := idx_imm u22 z33 (by omega) (by rw [Int.toNat_natCast]; exact hpk)
    have g0 : (j : Int) < ((l.map encP).length : Int) := by rw [List.length_map]; omega
    obtain ⟨⟨a0, a1⟩, ⟨b0, b1⟩⟩ := hv _ (List.getElem_mem hjl)
    have gi : ∀ y : Int, 0 ≤ y → y.toNat < m → idxV Try.prog 43 (.sl 0 0 m (some m) m 1) (.int .i64 y) = some (.ptr 0 y.toNat 0 m) := fun y h0 h1 => idx_sl u43f z4 h0 h1
    have gs : ∀ (G : List Bool) (y : Nat), G.length = m → y < m → storeV Try.prog [bF G] 4 (.ptr 0 y 0 m) (.bool true) = some [bF (G.set y true)] := fun G y h0 h1 => by
      rw [store_elem (H := [bF G]) (b := 0) rfl (by rw [List.length_map]; exact h0.symm) (bitF (by omega)) rfl (by simp) z4 rfl rfl rfl]
      simp [List.map_set]
    by_cases c1 : l[j].1 = x
    · by_cases c2 : l[j].2 = x
      · rw [if_pos c2, if_pos c1]
        have h := ih (j + 1) ((F.set l[j].2.toNat true).set l[j].1.toNat true) (by omega) (by simpa using hF)
        have s1 := nb_l_0 (m : Int) (l.map encP) x m (F.map .bool) j _ _ _ _ _ _ g0 g1 g1 c1 (gi _ b0 b1) (gs F _ hF b1) c2 (gi _ a0 a1) (gs _ _ (by simpa using hF) a1)
        rw [wrap_succ (by omega)] at s1
        exact RunsTo.loop s1 (by kernel_rfl) (gc_same (by simp)) h rfl (by kernel_rfl) (by kernel_rfl)
      · rw [if_neg c2, if_pos c1]
        have h := ih (j + 1) (F.set l[j].2.toNat true) (by omega) (by simpa using hF)
        have s1 := nb_l_1 (m : Int) (l.map encP) x m (F.map .bool) j _ _ _ _ _ g0 g1 g1 c1 (gi _ b0 b1) (gs F _ hF b1) c2
        rw [wrap_succ (by omega)] at s1
        exact RunsTo.loop s1 (by kernel_rfl) (gc_same (by simp)) h rfl (by kernel_rfl) (by kernel_rfl)
    · by_cases c2 : l[j].2 = x
      · rw [if_pos c2, if_neg c1]
        have h := ih (j + 1) (F.set l[j].1.toNat true) (by omega) (by simpa using hF)
        have s1 := nb_l_2 (m : Int) (l.map encP) x m (F.map .bool) j _ _ _ _ _ g0 g1 g1 c1 c2 (gi _ a0 a1) (gs F _ hF a1)
        rw [wrap_succ (by omega)] at s1
        exact RunsTo.loop s1 (by kernel_rfl) (gc_same (by simp)) h rfl (by kernel_rfl) (by kernel_rfl)
      · rw [if_neg c2, if_neg c1]
        have h := ih (j + 1) F (by omega) hF
        have s1 := nb_l_3 (m : Int) (l.map encP) x m (F.map .bool) j _ _ _ _ g0 g1 g1 c1 c2
        rw [wrap_succ (by omega)] at s1
        exact RunsTo.loop s1 (by kernel_rfl) (gc_same (by simp)) h rfl (by kernel_rfl) (by kernel_rfl)
theorem nb_list_loop (m : Nat) (hm : m ≤ 1000) (lc : List HV) (x : Int) (F : List Bool) (hF : F.length = m) : ∀ (d j : Nat) (r : List Int), j + d = m → r.length ≤ j →
    RunsTo Try.prog pol 51 (sub [1, 1, 1, 1, 0, 1, 0] B51) (nbE m lc x .undef (.sl 1 0 r.length none r.length 1) (.int .i64 (j : Int))) [bF F, .arr 1 (r.map encI) true 0]
      (.exit 2) (pol.keys 51) (nbE m lc x .undef (.sl 1 0 (truesFrom F j d r).length none (truesFrom F j d r).length 1) (.int .i64 (m : Int))) [bF F, .arr 1 ((truesFrom F j d r).map encI) true 0] := by
  intro d
  induction d with
  | zero =>
    intro j r hj hr
    have hj : j = m := by omega
    subst hj
    exact RunsTo.loop_out (nb_k_2 (j : Int) lc x j (F.map .bool) (r.map encI) r.length j (by omega)) (by simp) (by kernel_rfl) (by kernel_rfl)
  | succ d ih =>
    intro j r hj hr
    have hjm : j < m := by omega
    have g1 : idxV Try.prog 43 (.sl 0 0 m (some m) m 1) (.int .i64 (j : Int)) = some (.ptr 0 j 0 m) := by
      have := idx_sl (P := Try.prog) (t := 43) (b := 0) (tot := m) (cap := some m) (ik := .i64) (n := (j : Int)) u43f z4 (by omega) (len := m) (by omega)
      simpa using this
    have g2 : loadV Try.prog [bF F, .arr 1 (r.map encI) true 0] 4 (.ptr 0 j 0 m) = some (.bool (bitAt F j)) := load_elem (b := 0) rfl (by rw [List.length_map]; exact hF.symm) (bitF (by omega)) rfl a4 i4
    have h := ih (j + 1) (if bitAt F j then r ++ [(j : Int)] else r) (by omega) (by
      split
      · simp only [List.length_append, List.length_singleton]; omega
      · omega)
    rw [show truesFrom F j (d + 1) r = truesFrom F (j + 1) d (if bitAt F j then r ++ [(j : Int)] else r) from rfl]
    cases hb : bitAt F j with
    | true =>
      rw [hb] at g2
      simp only [hb, if_true] at h ⊢
      have hap := app_sl (H := [bF F, .arr 1 (r.map encI) true 0]) (k := 1) (bytes := 8) (b := 1) (n := r.length) (mx := 0) (els := r.map encI) (xs := [encI (j : Int)]) rfl (by simp) (by simp) (by simp only [List.length_singleton, roomMax]; omega) rfl
      have s1 := nb_k_0 (m : Int) lc x m (F.map .bool) (r.map encI) r.length j (by omega) g1 g2 hap
      rw [wrap_succ (by omega)] at s1
      have e1 : (r ++ [(j : Int)]).map encI = r.map encI ++ [encI (j : Int)] := by simp
      have e2 : (r ++ [(j : Int)]).length = r.length + 1 := by simp
      rw [e1, e2] at h
      exact RunsTo.loop s1 (by kernel_rfl) (gc_same (by simp)) h rfl (by kernel_rfl) (by kernel_rfl)
    | false =>
      rw [hb] at g2
      simp only [hb, Bool.false_eq_true, if_false] at h ⊢
      have s1 := nb_k_1 (m : Int) lc x m (F.map .bool) (r.map encI) r.length j (by omega) g1 g2
      rw [wrap_succ (by omega)] at s1
      exact RunsTo.loop s1 (by kernel_rfl) (gc_same (by simp)) h rfl (by kernel_rfl) (by kernel_rfl)
def nbrs51 : List HV → Option HV
  | [.int .i64 n, .imm .arg 2 lc, .int .i64 x] =>
    match mapO decP lc with
    | some l => if ((0 ≤ n ∧ n ≤ 1000) ∧ l.length ≤ 1000) ∧ (l.all fun p => decide ((0 ≤ p.1 ∧ p.1 < n) ∧ (0 ≤ p.2 ∧ p.2 < n))) = true then some (.own 1 ((nbrs n.toNat l x).map encI)) else none
    | none => none
  | _ => none
theorem res51 : Try.f51.results.toList = [.tmp 6] := by kernel_rfl
theorem nbrs_ok : PrimOk Try.prog 51 nbrs51 := by
  refine primOk_pure (pol := pol) (fn := Try.f51) (cd := B51) follows_mixed sound (by kernel_rfl) (by kernel_rfl) (fnok pol.prim _ _ (by kernel_rfl)) (by kernel_rfl) ?_
  intro args res h
  unfold nbrs51 at h
  split at h
  · rename_i n lc x
    split at h
    · rename_i l hl
      split at h
      · rename_i hg
        cases h
        rw [mapO_inv decP_inv hl]
        obtain ⟨⟨hn, hlen⟩, hv⟩ := hg
        obtain ⟨m, rfl⟩ : ∃ m : Nat, n = (m : Int) := ⟨n.toNat, by omega⟩
        rw [Int.toNat_natCast]
        have hvi : ∀ p ∈ l, inB m p := fun p hp => by
          have := of_decide_eq_true (List.all_eq_true.1 hv p hp)
          exact ⟨⟨this.1.1, by omega⟩, ⟨this.2.1, by omega⟩⟩
        have a1 := nb_a_0 (m : Int) (l.map encP) x
        have b1 := nb_b_0 (m : Int) (l.map encP) x m (by
          have := makeV_ok (P := Try.prog) (H := []) (t := 43) (n := (m : Int)) u43f info4f rfl rfl (by omega) (by omega) (by rw [show roomMax = 70368744177664 from rfl]; omega)
          rw [Int.toNat_natCast] at this
          exact this)
        have hrep : List.replicate m (HV.bool false) = (List.replicate m false).map HV.bool := by rw [List.map_replicate]
        rw [hrep] at b1
        have c1 := nb_c_0 (m : Int) (l.map encP) x m ((List.replicate m false).map HV.bool)
        have l1 := nb_mark_loop m (by omega) l hlen hvi x l.length 0 (List.replicate m false) (by omega) (by simp)
        rw [List.drop_zero] at l1
        have hF : (nbMark x l (List.replicate m false)).length = m := by rw [nbMark_length]; simp
        have d1 := nb_d_0 (m : Int) (l.map encP) x m ((nbMark x l (List.replicate m false)).map HV.bool) l.length
        have e1 := nb_e_0 (m : Int) (l.map encP) x m ((nbMark x l (List.replicate m false)).map HV.bool) l.length [] 0
        have l2 := nb_list_loop m (by omega) (l.map encP) x _ hF m 0 [] (by omega) (by simp)
        rw [show truesFrom (nbMark x l (List.replicate m false)) 0 m [] = nbrs m l x from rfl] at l2
        have z1 := nb_z_0 (m : Int) (l.map encP) x m ((nbMark x l (List.replicate m false)).map HV.bool) ((nbrs m l x).map encI) (nbrs m l x).length m
        have l2' := RunsTo.loop_in (e0 := nbE m (l.map encP) x (.int .i64 (l.length : Int)) (.sl 1 0 0 none 0 1) (.int .i64 0)) l2 (b := sub [1, 1, 1, 1, 0, 1, 0, 0] B51) (by kernel_rfl) (by kernel_rfl) (by kernel_rfl)
        have t1 := RunsTo.seq e1 (RunsTo.block_exit (c := sub [1, 1, 1, 1, 0, 1] B51) l2' (by kernel_rfl)) (c := sub [1, 1, 1, 1, 0] B51) (by kernel_rfl) (by kernel_rfl)
        have t2 := RunsTo.seq t1 z1 (c := sub [1, 1, 1, 1] B51) (by kernel_rfl) (by kernel_rfl)
        have t3 := RunsTo.seq d1 t2 (c := sub [1, 1, 1] B51) (by kernel_rfl) (by kernel_rfl)
        have t4 := RunsTo.seq c1 (RunsTo.block_exit (c := sub [1, 1, 0, 1] B51) l1 (by kernel_rfl)) (c := sub [1, 1, 0] B51) (by kernel_rfl) (by kernel_rfl)
        have t5 := RunsTo.seq t4 t3 (c := sub [1, 1] B51) (by kernel_rfl) (by kernel_rfl)
        have t6 := RunsTo.seq b1 t5 (c := sub [1] B51) (by kernel_rfl) (by kernel_rfl)
        have t7 := RunsTo.seq a1 t6 (c := B51) (by kernel_rfl) (by kernel_rfl)
        have hr := resCell_sl (H := [bF (nbMark x l (List.replicate m false)), .arr 1 ((nbrs m l x).map encI) true 0]) (no := [1]) (b := 1) (k := 1) (m := (nbrs m l x).length) (cap := none) (els := (nbrs m l x).map encI) rfl (by simp) (mapO_self (fun r => frz_int 4 r) _)
        have ho : ownedAll [bF (nbMark x l (List.replicate m false)), .arr 1 ((nbrs m l x).map encI) true 0] false (.sl 1 0 (nbrs m l x).length none (nbrs m l x).length 1) = [1] := rfl
        refine ⟨_, _, _, .sl 1 0 (nbrs m l x).length none (nbrs m l x).length 1, t7, by simp, by simp only [resultsV, res51]; rfl, ?_⟩
        show toRes _ false _ = _
        simp only [toRes, ho, List.nodup_cons, List.not_mem_nil, not_false_eq_true, List.nodup_nil, and_self, if_true, resVal, hr]
      · cases h
    · cases h
  · cases h
end Go.Proofs.Ytmhfkhlamnapdaa
end
section
open Go Go.HL
namespace Go.Proofs.Ytmhfkhlamnapdaa
def primN (g : FuncId) : Option (List HV → Option HV) := if g == 51 then some nbrs51 else none
def polN : Pol := { pol with prim := primN }
theorem primN_ok (g : FuncId) (f : List HV → Option HV) (h : primN g = some f) : PrimOk Try.prog g f := by
  unfold primN at h
  split at h
  · rename_i hg; cases h; rw [eq_of_beq hg]; exact nbrs_ok
  · cases h
theorem soundN (n : Nat) : CallSound Try.prog (callN Try.prog polN n) := sound_prim primN primN_ok n
end Go.Proofs.Ytmhfkhlamnapdaa
end
section
open Go Go.HL
namespace Go.Proofs.Ytmhfkhlamnapdaa
set_option maxRecDepth 100000
noncomputable def B41 : Code := Try.f41.body.getD .skip
abbrev env41 (v0 v1 v2 v6 v7 v8 v9 v10 v11 v12 v13 v14 : HV) : Env := [(0, v0), (1, v1), (2, v2), (6, v6), (7, v7), (8, v8), (9, v9), (10, v10), (11, v11), (12, v12), (13, v13), (14, v14)]
theorem fa_a_0 (n : Int) (lc : List HV) (x : Int) : RunsTo Try.prog polN 41 (sub [0] B41) [(0, .i n), (1, .imm .arg 2 lc), (2, .i x)] [] .normal (polN.keys 41) (env41 (.i n) (.imm .arg 2 lc) (.i x) (.imm .lit 1 []) .undef .undef .undef .undef .undef .undef .undef .undef) [] :=
  RunsTo.hin 0 60 [] fun kf hk => ⟨_, by kernel_rfl, .nil⟩
theorem fa_b_0 (n : Int) (lc : List HV) (x : Int) (m : Nat)(g0 : makeV Try.prog false 24 (.i n) (.i n) [] = some (.sl 0 0 m (some m) m 1, [.arr 1 (List.replicate m (.i 0)) true 0])) : RunsTo Try.prog polN 41 (sub [1, 0] B41) (env41 (.i n) (.imm .arg 2 lc) (.i x) (.imm .lit 1 []) .undef .undef .undef .undef .undef .undef .undef .undef) [] .normal (polN.keys 41) (env41 (.i n) (.imm .arg 2 lc) (.i x) (.imm .lit 1 []) (.sl 0 0 m (some m) m 1) .undef .undef .undef .undef .undef .undef .undef) [.arr 1 (List.replicate m (.i 0)) true 0] :=
  RunsTo.hin 0 60 [⟨1, 1, .sl 0 0 m (some m) m 1, [.arr 1 (List.replicate m (.i 0)) true 0]⟩] fun kf hk => ⟨_, by kernel_rfl, (oC (g0) .nil)⟩
theorem fa_c_0 (n : Int) (lc : List HV) (x : Int) (m : Nat) (els : List HV) : RunsTo Try.prog polN 41 (sub [1, 1, 0, 0] B41) (env41 (.i n) (.imm .arg 2 lc) (.i x) (.imm .lit 1 []) (.sl 0 0 m (some m) m 1) .undef .undef .undef .undef .undef .undef .undef) [.arr 1 els true 0] .normal (polN.keys 41) (env41 (.i n) (.imm .arg 2 lc) (.i x) (.imm .lit 1 []) (.sl 0 0 m (some m) m 1) (.i 0) .undef .undef .undef .undef .undef .undef) [.arr 1 els true 0] :=
  RunsTo.hin 0 60 [] fun kf hk => ⟨_, by kernel_rfl, .nil⟩
theorem fa_l1_0 (n : Int) (lc : List HV) (x : Int) (m : Nat) (els : List HV) (j : Nat) (el0 : List HV) (g0 : (j : Int) < n) (g1 : idxV Try.prog 24 (.sl 0 0 m (some m) m 1) (.i (j : Int)) = some (.ptr 0 j 0 m)) (g2 : storeV Try.prog [.arr 1 els true 0] 3 (.ptr 0 j 0 m) (.i (-1)) = some [.arr 1 el0 true 0]) : RunsTo Try.prog polN 41 (sub [1, 1, 0, 1, 0, 0] B41) (env41 (.i n) (.imm .arg 2 lc) (.i x) (.imm .lit 1 []) (.sl 0 0 m (some m) m 1) (.i (j : Int)) .undef .undef .undef .undef .undef .undef) [.arr 1 els true 0] .normal (polN.keys 41) (env41 (.i n) (.imm .arg 2 lc) (.i x) (.imm .lit 1 []) (.sl 0 0 m (some m) m 1) (.i (IntKind.i64.wrap ((j : Int) + 1))) .undef .undef .undef .undef .undef .undef) [.arr 1 el0 true 0] :=
  RunsTo.hin 0 60 [⟨3, 2, .bool true, [.arr 1 els true 0]⟩, ⟨5, 2, .ptr 0 j 0 m, [.arr 1 els true 0]⟩, ⟨5, 3, .tuple [], [.arr 1 el0 true 0]⟩] fun kf hk => ⟨_, by kernel_rfl, (oB [.arr 1 els true 0] (decide_eq_true g0) (oP [.arr 1 els true 0] g1 (oS g2 .nil)))⟩
theorem fa_l1_1 (n : Int) (lc : List HV) (x : Int) (m : Nat) (els : List HV) (j : Nat)(g0 : ¬ ((j : Int) < n)) : RunsTo Try.prog polN 41 (sub [1, 1, 0, 1, 0, 0] B41) (env41 (.i n) (.imm .arg 2 lc) (.i x) (.imm .lit 1 []) (.sl 0 0 m (some m) m 1) (.i (j : Int)) .undef .undef .undef .undef .undef .undef) [.arr 1 els true 0] (.exit 0) (polN.keys 41) (env41 (.i n) (.imm .arg 2 lc) (.i x) (.imm .lit 1 []) (.sl 0 0 m (some m) m 1) (.i (j : Int)) .undef .undef .undef .undef .undef .undef) [.arr 1 els true 0] :=
  RunsTo.hin 0 60 [⟨3, 2, .bool false, [.arr 1 els true 0]⟩] fun kf hk => ⟨_, by kernel_rfl, (oB [.arr 1 els true 0] (decide_eq_false g0) .nil)⟩
theorem fa_d_0 (n : Int) (lc : List HV) (x : Int) (m : Nat) (els : List HV) (j : Nat) (el0 : List HV) (g0 : idxV Try.prog 24 (.sl 0 0 m (some m) m 1) (.i x) = some (.ptr 0 ((x).toNat) 0 m)) (g1 : storeV Try.prog [.arr 1 els true 0] 3 (.ptr 0 ((x).toNat) 0 m) (.i 0) = some [.arr 1 el0 true 0]) : RunsTo Try.prog polN 41 (sub [1, 1, 1, 0] B41) (env41 (.i n) (.imm .arg 2 lc) (.i x) (.imm .lit 1 []) (.sl 0 0 m (some m) m 1) (.i (j : Int)) .undef .undef .undef .undef .undef .undef) [.arr 1 els true 0] .normal (polN.keys 41) (env41 (.i n) (.imm .arg 2 lc) (.i x) (.imm .lit 1 []) (.sl 0 0 m (some m) m 1) (.i (j : Int)) .undef .undef .undef .undef .undef .undef) [.arr 1 el0 true 0] :=
  RunsTo.hin 0 60 [⟨6, 2, .ptr 0 ((x).toNat) 0 m, [.arr 1 els true 0]⟩, ⟨6, 3, .tuple [], [.arr 1 el0 true 0]⟩] fun kf hk => ⟨_, by kernel_rfl, (oP [.arr 1 els true 0] g0 (oS g1 .nil))⟩
theorem fa_e_0 (n : Int) (lc : List HV) (x : Int) (m : Nat) (els : List HV) (j : Nat) : RunsTo Try.prog polN 41 (sub [1, 1, 1, 1, 0] B41) (env41 (.i n) (.imm .arg 2 lc) (.i x) (.imm .lit 1 []) (.sl 0 0 m (some m) m 1) (.i (j : Int)) .undef .undef .undef .undef .undef .undef) [.arr 1 els true 0] .normal (polN.keys 41) (env41 (.i n) (.imm .arg 2 lc) (.i x) (.imm .lit 1 []) (.sl 0 0 m (some m) m 1) (.i (j : Int)) (.sl 1 0 1 (some 1) 1 1) .undef .undef .undef .undef .undef) [.arr 1 els true 0, .arr 1 [.i x] true 0] :=
  RunsTo.hin 0 60 [] fun kf hk => ⟨_, by kernel_rfl, .nil⟩
theorem fa_f_0 (n : Int) (lc : List HV) (x : Int) (m : Nat) (qv : HV) (H : Heap) (j : Nat) : RunsTo Try.prog polN 41 (sub [1, 1, 1, 1, 1, 0, 0] B41) (env41 (.i n) (.imm .arg 2 lc) (.i x) (.imm .lit 1 []) (.sl 0 0 m (some m) m 1) (.i (j : Int)) qv .undef .undef .undef .undef .undef) H .normal (polN.keys 41) (env41 (.i n) (.imm .arg 2 lc) (.i x) (.imm .lit 1 []) (.sl 0 0 m (some m) m 1) (.i (j : Int)) qv (.i 0) .undef .undef .undef .undef) H :=
  RunsTo.hin 0 60 [] fun kf hk => ⟨_, by kernel_rfl, .nil⟩
theorem fa_h_0 (n : Int) (lc : List HV) (x : Int) (m : Nat) (qv : HV) (H : Heap) (i : Nat) (n0 : Int) (g0 : lenV Try.prog H 24 qv = some (.i n0)) (g1 : (i : Int) < n0) : RunsTo Try.prog polN 41 (sub [1, 1, 1, 1, 1, 0, 1, 0, 0, 0] B41) (env41 (.i n) (.imm .arg 2 lc) (.i x) (.imm .lit 1 []) (.sl 0 0 m (some m) m 1) .undef qv (.i (i : Int)) .undef .undef .undef .undef) H .normal (polN.keys 41) (env41 (.i n) (.imm .arg 2 lc) (.i x) (.imm .lit 1 []) (.sl 0 0 m (some m) m 1) .undef qv (.i (i : Int)) .undef .undef .undef .undef) H :=
  RunsTo.hin 0 60 [⟨9, 2, .i n0, H⟩, ⟨9, 3, .bool true, H⟩] fun kf hk => ⟨_, by kernel_rfl, (oP H g0 (oB H (decide_eq_true g1) .nil))⟩
theorem fa_h_1 (n : Int) (lc : List HV) (x : Int) (m : Nat) (qv : HV) (H : Heap) (i : Nat) (n0 : Int) (g0 : lenV Try.prog H 24 qv = some (.i n0)) (g1 : ¬ ((i : Int) < n0)) : RunsTo Try.prog polN 41 (sub [1, 1, 1, 1, 1, 0, 1, 0, 0, 0] B41) (env41 (.i n) (.imm .arg 2 lc) (.i x) (.imm .lit 1 []) (.sl 0 0 m (some m) m 1) .undef qv (.i (i : Int)) .undef .undef .undef .undef) H (.exit 2) (polN.keys 41) (env41 (.i n) (.imm .arg 2 lc) (.i x) (.imm .lit 1 []) (.sl 0 0 m (some m) m 1) .undef qv (.i (i : Int)) .undef .undef .undef .undef) H :=
  RunsTo.hin 0 60 [⟨9, 2, .i n0, H⟩, ⟨9, 3, .bool false, H⟩] fun kf hk => ⟨_, by kernel_rfl, (oP H g0 (oB H (decide_eq_false g1) .nil))⟩
theorem fa_g_0 (n : Int) (lc : List HV) (x : Int) (m : Nat) (qv : HV) (H : Heap) (i : Nat) (a0 : HV) (x0 : Int) (g0 : idxV Try.prog 24 qv (.i (i : Int)) = some (a0)) (g1 : loadV Try.prog H 3 (a0) = some (.i x0)) : RunsTo Try.prog polN 41 (sub [1, 1, 1, 1, 1, 0, 1, 0, 0, 1, 0, 0, 0] B41) (env41 (.i n) (.imm .arg 2 lc) (.i x) (.imm .lit 1 []) (.sl 0 0 m (some m) m 1) .undef qv (.i (i : Int)) .undef .undef .undef .undef) H .normal (polN.keys 41) (env41 (.i n) (.imm .arg 2 lc) (.i x) (.imm .lit 1 []) (.sl 0 0 m (some m) m 1) .undef qv (.i (i : Int)) (.i x0) .undef .undef .undef) H :=
  RunsTo.hin 0 60 [⟨11, 2, a0, H⟩, ⟨11, 3, .i x0, H⟩] fun kf hk => ⟨_, by kernel_rfl, (oP H g0 (oP H g1 .nil))⟩
theorem fa_k_0 (n : Int) (lc : List HV) (x : Int) (m : Nat) (qv : HV) (H : Heap) (i : Nat) (y : Int) (v0 : HV) (H0 : Heap) (g0 : ∀ kf, callN Try.prog polN (kf + 1) 51 [.i n, .imm .arg 2 lc, .i y] H = some (v0, H0)) : RunsTo Try.prog polN 41 (sub [1, 1, 1, 1, 1, 0, 1, 0, 0, 1, 0, 0, 1, 0] B41) (env41 (.i n) (.imm .arg 2 lc) (.i x) (.imm .lit 1 []) (.sl 0 0 m (some m) m 1) .undef qv (.i (i : Int)) (.i y) .undef .undef .undef) H .normal (polN.keys 41) (env41 (.i n) (.imm .arg 2 lc) (.i x) (.imm .lit 1 []) (.sl 0 0 m (some m) m 1) .undef qv (.i (i : Int)) (.i y) v0 .undef .undef) H0 :=
  RunsTo.hin 0 60 [⟨12, 3, v0, H0⟩] fun kf hk => ⟨_, by kernel_rfl, (oC (g0 kf) .nil)⟩
theorem fa_m_0 (n : Int) (lc : List HV) (x : Int) (m : Nat) (qv : HV) (H : Heap) (i : Nat) (y : Int) (wv : HV) : RunsTo Try.prog polN 41 (sub [1, 1, 1, 1, 1, 0, 1, 0, 0, 1, 0, 0, 1, 1, 0] B41) (env41 (.i n) (.imm .arg 2 lc) (.i x) (.imm .lit 1 []) (.sl 0 0 m (some m) m 1) .undef qv (.i (i : Int)) (.i y) wv .undef .undef) H .normal (polN.keys 41) (env41 (.i n) (.imm .arg 2 lc) (.i x) (.imm .lit 1 []) (.sl 0 0 m (some m) m 1) .undef qv (.i (i : Int)) (.i y) wv (.i 0) .undef) H :=
  RunsTo.hin 0 60 [] fun kf hk => ⟨_, by kernel_rfl, .nil⟩
theorem fa_l2_0 (n : Int) (lc : List HV) (x : Int) (m : Nat) (qv : HV) (H : Heap) (i : Nat) (y : Int) (wv : HV) (j : Nat) (n0 : Int) (a0 : HV) (x0 : Int) (x1 : Int) (x2 : Int) (H0 : Heap) (H1 : Heap) (v0 : HV) (g0 : lenV Try.prog H 24 wv = some (.i n0)) (g1 : (j : Int) < n0) (g2 : idxV Try.prog 24 wv (.i (j : Int)) = some (a0)) (g3 : loadV Try.prog H 3 (a0) = some (.i x0)) (g4 : idxV Try.prog 24 (.sl 0 0 m (some m) m 1) (.i x0) = some (.ptr 0 ((x0).toNat) 0 m)) (g5 : loadV Try.prog H 3 (.ptr 0 ((x0).toNat) 0 m) = some (.i x1)) (g6 : x1 < 0) (g7 : idxV Try.prog 24 (.sl 0 0 m (some m) m 1) (.i y) = some (.ptr 0 ((y).toNat) 0 m)) (g8 : loadV Try.prog H 3 (.ptr 0 ((y).toNat) 0 m) = some (.i x2)) (g9 : idxV Try.prog 24 (.sl 0 0 m (some m) m 1) (.i x0) = some (.ptr 0 ((x0).toNat) 0 m)) (g10 : storeV Try.prog H 3 (.ptr 0 ((x0).toNat) 0 m) (.i (IntKind.i64.wrap (x2 + 1))) = some H0) (g11 : appV H0 1 8 (qv) [.i x0] = some (v0, H1)) : RunsTo Try.prog polN 41 (sub [1, 1, 1, 1, 1, 0, 1, 0, 0, 1, 0, 0, 1, 1, 1, 0, 0] B41) (env41 (.i n) (.imm .arg 2 lc) (.i x) (.imm .lit 1 []) (.sl 0 0 m (some m) m 1) .undef qv (.i (i : Int)) (.i y) wv (.i (j : Int)) .undef) H .normal (polN.keys 41) (env41 (.i n) (.imm .arg 2 lc) (.i x) (.imm .lit 1 []) (.sl 0 0 m (some m) m 1) .undef v0 (.i (i : Int)) (.i y) wv (.i (IntKind.i64.wrap ((j : Int) + 1))) (.i x0)) H1 :=
  RunsTo.hin 0 60 [⟨14, 2, .i n0, H⟩, ⟨14, 3, .bool true, H⟩, ⟨16, 2, a0, H⟩, ⟨16, 3, .i x0, H⟩, ⟨17, 2, .ptr 0 ((x0).toNat) 0 m, H⟩, ⟨17, 3, .i x1, H⟩, ⟨17, 4, .bool true, H⟩, ⟨18, 4, .ptr 0 ((y).toNat) 0 m, H⟩, ⟨18, 5, .i x2, H⟩, ⟨18, 7, .ptr 0 ((x0).toNat) 0 m, H⟩, ⟨18, 8, .tuple [], H0⟩, ⟨19, 3, v0, H1⟩] fun kf hk => ⟨_, by kernel_rfl, (oP H g0 (oB H (decide_eq_true g1) (oP H g2 (oP H g3 (oP H g4 (oP H g5 (oB H (decide_eq_true g6) (oP H g7 (oP H g8 (oP H g9 (oS g10 (oC (g11) .nil))))))))))))⟩
theorem fa_l2_1 (n : Int) (lc : List HV) (x : Int) (m : Nat) (qv : HV) (H : Heap) (i : Nat) (y : Int) (wv : HV) (j : Nat) (n0 : Int) (a0 : HV) (x0 : Int) (x1 : Int) (g0 : lenV Try.prog H 24 wv = some (.i n0)) (g1 : (j : Int) < n0) (g2 : idxV Try.prog 24 wv (.i (j : Int)) = some (a0)) (g3 : loadV Try.prog H 3 (a0) = some (.i x0)) (g4 : idxV Try.prog 24 (.sl 0 0 m (some m) m 1) (.i x0) = some (.ptr 0 ((x0).toNat) 0 m)) (g5 : loadV Try.prog H 3 (.ptr 0 ((x0).toNat) 0 m) = some (.i x1)) (g6 : ¬ (x1 < 0)) : RunsTo Try.prog polN 41 (sub [1, 1, 1, 1, 1, 0, 1, 0, 0, 1, 0, 0, 1, 1, 1, 0, 0] B41) (env41 (.i n) (.imm .arg 2 lc) (.i x) (.imm .lit 1 []) (.sl 0 0 m (some m) m 1) .undef qv (.i (i : Int)) (.i y) wv (.i (j : Int)) .undef) H .normal (polN.keys 41) (env41 (.i n) (.imm .arg 2 lc) (.i x) (.imm .lit 1 []) (.sl 0 0 m (some m) m 1) .undef qv (.i (i : Int)) (.i y) wv (.i (IntKind.i64.wrap ((j : Int) + 1))) (.i x0)) H :=
  RunsTo.hin 0 60 [⟨14, 2, .i n0, H⟩, ⟨14, 3, .bool true, H⟩, ⟨16, 2, a0, H⟩, ⟨16, 3, .i x0, H⟩, ⟨17, 2, .ptr 0 ((x0).toNat) 0 m, H⟩, ⟨17, 3, .i x1, H⟩, ⟨17, 4, .bool false, H⟩] fun kf hk => ⟨_, by kernel_rfl, (oP H g0 (oB H (decide_eq_true g1) (oP H g2 (oP H g3 (oP H g4 (oP H g5 (oB H (decide_eq_false g6) .nil)))))))⟩
theorem fa_l2_2 (n : Int) (lc : List HV) (x : Int) (m : Nat) (qv : HV) (H : Heap) (i : Nat) (y : Int) (wv : HV) (j : Nat) (n0 : Int) (g0 : lenV Try.prog H 24 wv = some (.i n0)) (g1 : ¬ ((j : Int) < n0)) : RunsTo Try.prog polN 41 (sub [1, 1, 1, 1, 1, 0, 1, 0, 0, 1, 0, 0, 1, 1, 1, 0, 0] B41) (env41 (.i n) (.imm .arg 2 lc) (.i x) (.imm .lit 1 []) (.sl 0 0 m (some m) m 1) .undef qv (.i (i : Int)) (.i y) wv (.i (j : Int)) .undef) H (.exit 4) (polN.keys 41) (env41 (.i n) (.imm .arg 2 lc) (.i x) (.imm .lit 1 []) (.sl 0 0 m (some m) m 1) .undef qv (.i (i : Int)) (.i y) wv (.i (j : Int)) .undef) H :=
  RunsTo.hin 0 60 [⟨14, 2, .i n0, H⟩, ⟨14, 3, .bool false, H⟩] fun kf hk => ⟨_, by kernel_rfl, (oP H g0 (oB H (decide_eq_false g1) .nil))⟩
theorem fa_n_0 (n : Int) (lc : List HV) (x : Int) (m : Nat) (qv : HV) (H : Heap) (i : Nat) (y : Int) (wv : HV) (j : Nat) (v14 : HV) : RunsTo Try.prog polN 41 (sub [1, 1, 1, 1, 1, 0, 1, 0, 0, 1, 1] B41) (env41 (.i n) (.imm .arg 2 lc) (.i x) (.imm .lit 1 []) (.sl 0 0 m (some m) m 1) .undef qv (.i (i : Int)) (.i y) wv (.i (j : Int)) v14) H .normal (polN.keys 41) (env41 (.i n) (.imm .arg 2 lc) (.i x) (.imm .lit 1 []) (.sl 0 0 m (some m) m 1) .undef qv (.i (IntKind.i64.wrap ((i : Int) + 1))) (.i y) wv (.i (j : Int)) v14) H :=
  RunsTo.hin 0 60 [] fun kf hk => ⟨_, by kernel_rfl, .nil⟩
theorem fa_z_0 (n : Int) (lc : List HV) (x : Int) (m : Nat) (qv : HV) (H : Heap) (i : Nat) : RunsTo Try.prog polN 41 (sub [1, 1, 1, 1, 1, 1] B41) (env41 (.i n) (.imm .arg 2 lc) (.i x) (.imm .lit 1 []) (.sl 0 0 m (some m) m 1) .undef qv (.i (i : Int)) .undef .undef .undef .undef) H .ret (polN.keys 41) (env41 (.i n) (.imm .arg 2 lc) (.i x) (.sl 0 0 m (some m) m 1) (.sl 0 0 m (some m) m 1) .undef qv (.i (i : Int)) .undef .undef .undef .undef) H :=
  RunsTo.hin 0 60 [] fun kf hk => ⟨_, by kernel_rfl, .nil⟩
end Go.Proofs.Ytmhfkhlamnapdaa
end
section
open Go Go.HL
namespace Go.Proofs.Ytmhfkhlamnapdaa
theorem trues_mem (r : List Bool) : ∀ (d j : Nat) (acc : List Int) (z : Int), z ∈ truesFrom r j d acc ↔ z ∈ acc ∨ ∃ k : Nat, z = (k : Int) ∧ j ≤ k ∧ k < j + d ∧ bitAt r k = true
  | 0, j, acc, z => by
    rw [truesFrom]
    constructor
    · exact .inl
    · rintro (h | ⟨k, _, h1, h2, _⟩)
      · exact h
      · omega
  | d + 1, j, acc, z => by
    rw [truesFrom, trues_mem r d (j + 1)]
    constructor
    · rintro (h | ⟨k, e, h1, h2, h3⟩)
      · split at h
        · rename_i hb
          rcases List.mem_append.1 h with h | h
          · exact .inl h
          · rw [List.mem_singleton] at h
            exact .inr ⟨j, h, Nat.le_refl _, by omega, hb⟩
        · exact .inl h
      · exact .inr ⟨k, e, by omega, by omega, h3⟩
    · rintro (h | ⟨k, e, h1, h2, h3⟩)
      · left
        split
        · exact List.mem_append_left _ h
        · exact h
      · by_cases hk : k = j
        · subst hk
          left
          rw [if_pos h3, e]
          simp
        · exact .inr ⟨k, e, by omega, by omega, h3⟩
theorem trues_len (r : List Bool) : ∀ (d j : Nat) (acc : List Int), (truesFrom r j d acc).length ≤ acc.length + d
  | 0, j, acc => by rw [truesFrom]; omega
  | d + 1, j, acc => by
    rw [truesFrom]
    have := trues_len r d (j + 1) (if bitAt r j = true then acc ++ [(j : Int)] else acc)
    have h2 : (if bitAt r j = true then acc ++ [(j : Int)] else acc).length ≤ acc.length + 1 := by split <;> simp
    omega
theorem mark_get (x : Int) : ∀ (l : List (Int × Int)) (F : List Bool) (y : Nat), (∀ p ∈ l, p.1.toNat < F.length ∧ p.2.toNat < F.length) →
    (bitAt (nbMark x l F) y = true ↔ bitAt F y = true ∨ ∃ p ∈ l, (p.1 = x ∧ p.2.toNat = y) ∨ (p.2 = x ∧ p.1.toNat = y))
  | [], F, y, _ => by simp [nbMark]
  | p :: l, F, y, hv => by
    have hp := hv p (by simp)
    have one : ∀ (G : List Bool) (c : Prop) [Decidable c] (i : Nat), i < G.length → (bitAt (if c then G.set i true else G) y = true ↔ bitAt G y = true ∨ (c ∧ i = y)) := by
      intro G c _ i hi
      split
      · rename_i hc
        rw [bitAt_set _ _ _ _ hi]
        split
        · rename_i e; simp [hc, e]
        · rename_i e; simp [e]
      · rename_i hc; simp [hc]
    have hlen : ∀ (G : List Bool) (c : Prop) [Decidable c] (i : Nat), (if c then G.set i true else G).length = G.length := by intro G c _ i; split <;> simp
    rw [nbMark]
    have e1 : (if p.2 = x then (if p.1 = x then F.set p.2.toNat true else F).set p.1.toNat true else (if p.1 = x then F.set p.2.toNat true else F)).length = F.length := by rw [hlen, hlen]
    rw [mark_get x l _ y (fun q hq => by rw [e1]; exact hv q (by simp [hq])), one _ _ _ (by rw [hlen]; exact hp.1), one _ _ _ hp.2]
    constructor
    · rintro (((h | h) | h) | ⟨q, hq, h⟩)
      · exact .inl h
      · exact .inr ⟨p, by simp, .inl h⟩
      · exact .inr ⟨p, by simp, .inr h⟩
      · exact .inr ⟨q, by simp [hq], h⟩
    · rintro (h | ⟨q, hq, h⟩)
      · exact .inl (.inl (.inl h))
      · rcases List.mem_cons.1 hq with rfl | hq
        · rcases h with h | h
          · exact .inl (.inl (.inr h))
          · exact .inl (.inr h)
        · exact .inr ⟨q, hq, h⟩
def nbN (m : Nat) (l : List (Int × Int)) (x : Nat) : List Nat := (nbrs m l (x : Int)).map Int.toNat
theorem nbN_mem {m : Nat} {l : List (Int × Int)} (hv : ∀ p ∈ l, inB m p) {x y : Nat} : y ∈ nbN m l x ↔ y < m ∧ ∃ p ∈ l, (p.1.toNat = x ∧ p.2.toNat = y) ∨ (p.2.toNat = x ∧ p.1.toNat = y) := by
  unfold nbN nbrs
  rw [List.mem_map]
  have hz : bitAt (List.replicate m false) y = false := by
    unfold bitAt
    rw [List.getElem?_replicate]
    split <;> rfl
  have hm := mark_get (x : Int) l (List.replicate m false) y (fun p hp => by
    obtain ⟨⟨_, h1⟩, _, h2⟩ := hv p hp
    simpa using ⟨h1, h2⟩)
  rw [hz] at hm
  simp only [Bool.false_eq_true, false_or] at hm
  have hpe : (∃ p ∈ l, (p.1 = (x : Int) ∧ p.2.toNat = y) ∨ (p.2 = (x : Int) ∧ p.1.toNat = y)) ↔ ∃ p ∈ l, (p.1.toNat = x ∧ p.2.toNat = y) ∨ (p.2.toNat = x ∧ p.1.toNat = y) := by
    constructor
    · rintro ⟨p, hp, h⟩
      exact ⟨p, hp, by omega⟩
    · rintro ⟨p, hp, h⟩
      obtain ⟨⟨a, _⟩, b, _⟩ := hv p hp
      exact ⟨p, hp, by omega⟩
  rw [hpe] at hm
  constructor
  · rintro ⟨z, hz1, rfl⟩
    rw [trues_mem] at hz1
    rcases hz1 with h | ⟨k, rfl, h1, h2, h3⟩
    · cases h
    · rw [Int.toNat_natCast] at hm ⊢
      exact ⟨by omega, hm.1 h3⟩
  · rintro ⟨h1, h2⟩
    exact ⟨(y : Int), (trues_mem _ _ _ _ _).2 (.inr ⟨y, rfl, Nat.zero_le _, by omega, hm.2 h2⟩), Int.toNat_natCast y⟩
theorem nbN_enc (m : Nat) (l : List (Int × Int)) (x : Nat) : (nbrs m l (x : Int)).map encI = (nbN m l x).map encN := by
  unfold nbN
  rw [List.map_map]
  refine List.map_congr_left fun z hz => ?_
  rw [nbrs, trues_mem] at hz
  rcases hz with h | ⟨k, rfl, _⟩
  · cases h
  · simp [encN]
theorem nbN_len (m : Nat) (l : List (Int × Int)) (x : Nat) : (nbN m l x).length ≤ m := by
  unfold nbN nbrs
  have := trues_len (nbMark (x : Int) l (List.replicate m false)) m 0 []
  simp at this ⊢; omega
end Go.Proofs.Ytmhfkhlamnapdaa
end
section
open Go Go.HL
namespace Go.Proofs.Ytmhfkhlamnapdaa
abbrev pE (n : Int) (lc : List HV) (x : Int) (m : Nat) (v8 v9 v10 v11 v12 v13 v14 : HV) : Env := env41 (.int .i64 n) (.imm .arg 2 lc) (.int .i64 x) (.imm .lit 1 []) (.sl 0 0 m (some m) m 1) v8 v9 v10 v11 v12 v13 v14
theorem rfar_in (n : Int) (lc : List HV) (x : Int) (m : Nat) (hm : m ≤ 1000) (i c k : Nat) (hck : c + 1 ≤ k) (w : Nat) (l : List Nat) (hl : ∀ y ∈ l, y < m) (hll : l.length ≤ 1000) (wv : HV) (wb : Nat) (hwb : 0 < wb) : ∀ (d j : Nat) (H : Heap) (b : Nat) (qv : HV) (s : List Int × List Nat), j + d = l.length → QOk H b qv s.2 → QOk H wb wv l → wb ≠ b → 0 < b → H[0]? = some (bI s.1) → BInv m k s → s.2[i]? = some w → s.1.getD w 0 = (c : Int) → c ≤ 1000 →
    ∃ H' b' qv', RunsTo Try.prog polN 41 (sub [1, 1, 1, 1, 1, 0, 1, 0, 0, 1, 0, 0, 1, 1, 1, 0] B41) (pE n lc x m .undef qv (.int .i64 (i : Int)) (.int .i64 (w : Int)) wv (.int .i64 (j : Int)) .undef) H
      (.exit 4) (polN.keys 41) (pE n lc x m .undef qv' (.int .i64 (i : Int)) (.int .i64 (w : Int)) wv (.int .i64 (l.length : Int)) .undef) H' ∧
      QOk H' b' qv' (bIn c (l.drop j) s).2 ∧ H'[0]? = some (bI (bIn c (l.drop j) s).1) ∧ Keep 0 b b' H H' := by
  intro d
  induction d with
  | zero =>
    intro j H b qv s hj hq hwq hne hb ho hinv hw hc hc2
    have hj : j = l.length := by omega
    subst hj
    rw [List.drop_length]
    refine ⟨H, b, qv, ?_, hq, ho, Keep.refl _ _ _⟩
    have s1 := fa_l2_2 n lc x m qv H i (w : Int) wv l.length _ hwq.lenq (by omega)
    exact RunsTo.loop_out s1 (by simp) (by kernel_rfl) (by kernel_rfl)
  | succ d ih =>
    intro j H b qv s hj hq hwq hne hb ho hinv hw hc hc2
    have hjl : j < l.length := by omega
    rw [List.drop_eq_getElem_cons hjl, bIn]
    have hy : l[j] < m := hl _ (List.getElem_mem hjl)
    have hwn : w < m := hinv.lt _ (List.mem_of_getElem? hw)
    have hlen := hinv.len
    have gi : ∀ y, y < m → idxV Try.prog 24 (.sl 0 0 m (some m) m 1) (.int .i64 ((y : Nat) : Int)) = some (.ptr 0 (((y : Nat) : Int).toNat) 0 m) := fun y hy => idx_sl u24b z3b (by omega) (by omega)
    have gl : ∀ y, y < m → loadV Try.prog H 3 (.ptr 0 (((y : Nat) : Int).toNat) 0 m) = some (.int .i64 (s.1.getD y 0)) := fun y hy => by
      have := load_out ho (y := y) (by omega)
      rw [hlen] at this
      rw [Int.toNat_natCast]; exact this
    have gw := hwq.loadq (i := j) (x := l[j]) (List.getElem?_eq_getElem hjl)
    by_cases hlt : s.1.getD l[j] 0 < 0
    · have hst := store_out ho (y := l[j]) (by omega) (IntKind.i64.wrap ((c : Int) + 1))
      rw [hlen] at hst
      have hq' : QOk (H.set 0 (bI (s.1.set l[j] (IntKind.i64.wrap ((c : Int) + 1))))) b qv s.2 := ⟨hq.val, by rw [List.getElem?_set_ne (by omega)]; exact hq.blk⟩
      obtain ⟨v, H', b', ha, hq2, hk, hsame, hle⟩ := hq'.appq (by have := hinv.qlen; omega) l[j] 0
      have s1 := fa_l2_0 n lc x m qv H i (w : Int) wv j _ _ _ _ _ _ _ _ hwq.lenq (by omega) (hwq.idxq hjl) gw (gi _ hy) (gl _ hy) hlt (gi _ hwn) (gl _ hwn) (gi _ hy) (by rw [Int.toNat_natCast, hc]; exact hst) ha
      have hwr : IntKind.i64.wrap ((c : Int) + 1) = (c : Int) + 1 := by rw [wrapI64]; omega
      rw [hwr] at hk hsame hle
      have h1 : 0 < H.length := lt_of_get ho
      have hwbl : wb < H.length := lt_of_get hwq.blk
      rw [if_pos hlt]
      have hinv' := hinv.step (c := (c : Int)) ⟨by omega, by omega⟩ hy
      rw [if_pos hlt] at hinv'
      have hnew := hk.new
      rw [List.length_set] at hnew
      have hb' : 0 < b' := by omega
      have hne' : wb ≠ b' := by omega
      have o1 : H'[0]? = some (bI (s.1.set l[j] ((c : Int) + 1))) := by
        rw [hsame 0 (by rw [List.length_set]; exact h1) (by omega), List.getElem?_set_self h1]
      have w1 : QOk H' wb wv l := ⟨hwq.val, by rw [hsame wb (by rw [List.length_set]; exact hwbl) hne, List.getElem?_set_ne (by omega)]; exact hwq.blk⟩
      obtain ⟨H2, b2, q2, r2, e1, e2, e3⟩ := ih (j + 1) H' b' v (s.1.set l[j] ((c : Int) + 1), s.2 ++ [l[j]]) (by omega) hq2 w1 hne' hb' o1 hinv' (by
          show (s.2 ++ [l[j]])[i]? = some w
          rw [List.getElem?_append_left (lt_of_get hw)]; exact hw) (by
          show (s.1.set l[j] ((c : Int) + 1)).getD w 0 = _
          rw [getD_set _ _ _ _ (by omega), if_neg (fun e => by rw [e, hc] at hlt; omega)]; exact hc) hc2
      refine ⟨H2, b2, q2, ?_, e1, e2, ?_⟩
      · rw [wrap_succ (by omega)] at s1
        refine RunsTo.loop s1 (by kernel_rfl) (gc_le ?_) r2 rfl (by kernel_rfl) (by kernel_rfl)
        have hb := bndE_mem (E := pE n lc x m .undef v (.int .i64 (i : Int)) (.int .i64 (w : Int)) wv (.int .i64 ((j + 1 : Nat) : Int)) .undef) (t := 9) (v := v) (by simp [pE, env41])
        rw [hq2.bnd_] at hb
        rw [List.length_set] at hle
        omega
      · refine Keep.trans ⟨?_, hnew, fun k hk1 h2 h3 => ?_⟩ e3
        · have := hk.len; rw [List.length_set] at this; exact this
        · rw [hsame k (by rw [List.length_set]; exact hk1) h3, List.getElem?_set_ne (fun e => h2 e.symm)]
    · have s1 := fa_l2_1 n lc x m qv H i (w : Int) wv j _ _ _ _ hwq.lenq (by omega) (hwq.idxq hjl) gw (gi _ hy) (gl _ hy) hlt
      rw [if_neg hlt]
      obtain ⟨H2, b2, q2, r2, e1, e2, e3⟩ := ih (j + 1) H b qv s (by omega) hq hwq hne hb ho hinv hw hc hc2
      rw [wrap_succ (by omega)] at s1
      exact ⟨H2, b2, q2, RunsTo.loop s1 (by kernel_rfl) (gc_same (Nat.le_refl _)) r2 rfl (by kernel_rfl) (by kernel_rfl), e1, e2, e3⟩
def inBb (n : Int) (p : Int × Int) : Bool := decide ((0 ≤ p.1 ∧ p.1 < n) ∧ (0 ≤ p.2 ∧ p.2 < n))
theorem inBb_iff {m : Nat} {l : List (Int × Int)} : l.all (inBb (m : Int)) = true ↔ ∀ p ∈ l, inB m p := by
  rw [List.all_eq_true]
  refine ⟨fun h p hp => ?_, fun h p hp => ?_⟩
  · have := h p hp
    rw [inBb, decide_eq_true_eq] at this
    unfold inB; omega
  · have := h p hp
    rw [inBb, decide_eq_true_eq]
    unfold inB at this; omega
theorem n51 {m : Nat} (hm : m ≤ 1000) {l : List (Int × Int)} (hl : l.length ≤ 1000) (hv : ∀ p ∈ l, inB m p) (w : Nat) (H : Heap) : ∀ kf, callN Try.prog polN (kf + 1) 51 [.int .i64 (m : Int), .imm .arg 2 (l.map encP), .int .i64 (w : Int)] H = some (.sl H.length 0 (nbN m l w).length none (nbN m l w).length 1, H ++ [bNs (nbN m l w)]) := fun kf => by
  rw [prim_call (pol := polN) (g := 51) (F := nbrs51) (by kernel_rfl) (rs := [.int .i64 (m : Int), .imm .arg 2 (l.map encP), .int .i64 (w : Int)]) (by simp only [mapO, arg_pairs']; rfl) (res := .own 1 ((nbN m l w).map encN)) (by
    simp only [nbrs51, mapO_map decP_enc]
    rw [if_pos ⟨⟨⟨by omega, by omega⟩, hl⟩, inBb_iff.2 hv⟩, Int.toNat_natCast, nbN_enc])]
  have hno : ((nbN m l w).map encN).any isOwn = false := by
    rw [List.any_eq_false]
    intro v hv
    obtain ⟨k, _, rfl⟩ := List.mem_map.1 hv
    simp [encN, encI, isOwn]
  simp only [recv, recvVal, recvCell, hno, List.length_map]
  rfl
theorem rfar_out (m : Nat) (hm : m ≤ 1000) (l : List (Int × Int)) (hl : l.length ≤ 1000) (hv : ∀ p ∈ l, inB m p) (x : Int) : ∀ (d i : Nat) (H : Heap) (b : Nat) (qv : HV) (s : List Int × List Nat), i + d = m → QOk H b qv s.2 → 0 < b → H[0]? = some (bI s.1) → BInv m i s → i ≤ s.2.length →
    ∃ i' H' qv', RunsTo Try.prog polN 41 (sub [1, 1, 1, 1, 1, 0, 1, 0] B41) (pE (m : Int) (l.map encP) x m .undef qv (.int .i64 (i : Int)) .undef .undef .undef .undef) H
      (.exit 2) (polN.keys 41) (pE (m : Int) (l.map encP) x m .undef qv' (.int .i64 ((i' : Nat) : Int)) .undef .undef .undef .undef) H' ∧
      H'[0]? = some (bI (bGo (nbN m l) d i s).1) ∧ (bGo (nbN m l) d i s).1.length = m := by
  intro d
  induction d with
  | zero =>
    intro i H b qv s hi hq hb ho hinv hle
    have := hinv.qlen
    have s1 := fa_h_1 (m : Int) (l.map encP) x m qv H i _ hq.lenq (by omega)
    exact ⟨i, H, qv, RunsTo.loop_out (RunsTo.seq_out s1 (by simp) (c := sub [1, 1, 1, 1, 1, 0, 1, 0, 0] B41) (b := sub [1, 1, 1, 1, 1, 0, 1, 0, 0, 1] B41) (by kernel_rfl)) (by simp) (by kernel_rfl) (by kernel_rfl), ho, hinv.len⟩
  | succ d ih =>
    intro i H b qv s hi hq hb ho hinv hle
    rw [bGo]
    cases hw : s.2[i]? with
    | none =>
      have s1 := fa_h_1 (m : Int) (l.map encP) x m qv H i _ hq.lenq (by have := List.getElem?_eq_none_iff.1 hw; omega)
      exact ⟨i, H, qv, RunsTo.loop_out (RunsTo.seq_out s1 (by simp) (c := sub [1, 1, 1, 1, 1, 0, 1, 0, 0] B41) (b := sub [1, 1, 1, 1, 1, 0, 1, 0, 0, 1] B41) (by kernel_rfl)) (by simp) (by kernel_rfl) (by kernel_rfl), ho, hinv.len⟩
    | some w =>
      have hil := lt_of_get hw
      have hwn : w < m := hinv.lt _ (List.mem_of_getElem? hw)
      have hc0 := (hinv.got w hwn).2 (List.mem_of_getElem? hw)
      have hci := hinv.le w hwn
      obtain ⟨c, hc⟩ : ∃ c : Nat, s.1.getD w 0 = (c : Int) := ⟨(s.1.getD w 0).toNat, by omega⟩
      have hrw : ∀ y ∈ nbN m l w, y < m := fun y hy => ((nbN_mem hv).1 hy).1
      have hrl : (nbN m l w).length ≤ 1000 := Nat.le_trans (nbN_len m l w) hm
      have h1 := fa_h_0 (m : Int) (l.map encP) x m qv H i _ hq.lenq (by omega)
      have g1 := fa_g_0 (m : Int) (l.map encP) x m qv H i _ _ (hq.idxq hil) (hq.loadq hw)
      have k1 := fa_k_0 (m : Int) (l.map encP) x m qv H i (w : Int) _ _ (n51 hm hl hv w H)
      generalize hnb : nbN m l w = nb at k1 hrw hrl
      have hH0 : 0 < H.length := lt_of_get ho
      have hbl : b < H.length := lt_of_get hq.blk
      have m1 := fa_m_0 (m : Int) (l.map encP) x m qv (H ++ [bNs nb]) i (w : Int) (.sl H.length 0 nb.length none nb.length 1)
      have hq' : QOk (H ++ [bNs nb]) b qv s.2 := ⟨hq.val, by rw [List.getElem?_append_left hbl]; exact hq.blk⟩
      have hwq : QOk (H ++ [bNs nb]) H.length (.sl H.length 0 nb.length none nb.length 1) nb := ⟨⟨none, rfl, .inl rfl⟩, by simp⟩
      obtain ⟨H', b', qv', r1, q1, o1, kk⟩ := rfar_in (m : Int) (l.map encP) x m hm i c (i + 1) (by omega) w nb hrw hrl _ H.length hH0 nb.length 0 (H ++ [bNs nb]) b qv s (by omega) hq' hwq (by omega) hb (by rw [List.getElem?_append_left hH0]; exact ho) (hinv.mono (by omega)) hw hc (by omega)
      rw [List.drop_zero] at q1 o1
      have hinv' := BInv.inn (c := (c : Int)) (k := i + 1) ⟨by omega, by omega⟩ nb s hrw (hinv.mono (by omega))
      dsimp only
      rw [hc, hnb]
      obtain ⟨t, ht⟩ := bIn_pre (c : Int) nb s
      have hnew := kk.new
      simp only [List.length_append, List.length_singleton] at hnew
      have hb' : 0 < b' := by omega
      have n1 := fa_n_0 (m : Int) (l.map encP) x m qv' H' i (w : Int) (.sl H.length 0 nb.length none nb.length 1) nb.length .undef
      rw [wrap_succ (by omega)] at n1
      have hbd := bndE_mem (E := pE (m : Int) (l.map encP) x m .undef qv' (.int .i64 ((i + 1 : Nat) : Int)) .undef .undef .undef .undef) (t := 9) (v := qv') (by simp [pE, env41])
      rw [q1.bnd_] at hbd
      have hg := fun k (hk : k < max H.length (bndE (pE (m : Int) (l.map encP) x m .undef qv' (.int .i64 ((i + 1 : Nat) : Int)) .undef .undef .undef .undef))) => gc_get (H := H') hk
      obtain ⟨i2, H2, q2, r2, o2, l2⟩ := ih (i + 1) (gc H.length (bndE (pE (m : Int) (l.map encP) x m .undef qv' (.int .i64 ((i + 1 : Nat) : Int)) .undef .undef .undef .undef)) H') b' qv' (bIn (c : Int) nb s) (by omega)
        ⟨q1.val, by rw [hg b' (by omega)]; exact q1.blk⟩ hb' (by rw [hg 0 (by omega)]; exact o1) hinv' (by rw [ht, List.length_append]; omega)
      refine ⟨i2, H2, q2, ?_, o2, l2⟩
      have t0 := RunsTo.seq m1 (RunsTo.block_exit (c := sub [1, 1, 1, 1, 1, 0, 1, 0, 0, 1, 0, 0, 1, 1, 1] B41) r1 (by kernel_rfl)) (c := sub [1, 1, 1, 1, 1, 0, 1, 0, 0, 1, 0, 0, 1, 1] B41) (by kernel_rfl) (by kernel_rfl)
      have t1 := RunsTo.seq k1 t0 (c := sub [1, 1, 1, 1, 1, 0, 1, 0, 0, 1, 0, 0, 1] B41) (by kernel_rfl) (by kernel_rfl)
      have t2 := RunsTo.seq g1 t1 (c := sub [1, 1, 1, 1, 1, 0, 1, 0, 0, 1, 0, 0] B41) (by kernel_rfl) (by kernel_rfl)
      have t3 := RunsTo.block_normal (i := 3) (c := sub [1, 1, 1, 1, 1, 0, 1, 0, 0, 1, 0] B41) t2 (by kernel_rfl)
      have t4 := RunsTo.seq t3 n1 (c := sub [1, 1, 1, 1, 1, 0, 1, 0, 0, 1] B41) (by kernel_rfl) (by kernel_rfl)
      have t5 := RunsTo.seq h1 t4 (c := sub [1, 1, 1, 1, 1, 0, 1, 0, 0] B41) (by kernel_rfl) (by kernel_rfl)
      exact RunsTo.loop t5 (by kernel_rfl) rfl r2 rfl (by kernel_rfl) (by kernel_rfl)
theorem rfar_fill (lc : List HV) (x : Int) (m : Nat) (hm : m ≤ 1000) : ∀ (d j : Nat), j + d = m →
    RunsTo Try.prog polN 41 (sub [1, 1, 0, 1, 0] B41) (pE (m : Int) lc x m (.int .i64 (j : Int)) .undef .undef .undef .undef .undef .undef) [bI (List.replicate j (-1) ++ List.replicate d 0)]
      (.exit 0) (polN.keys 41) (pE (m : Int) lc x m (.int .i64 (m : Int)) .undef .undef .undef .undef .undef .undef) [bI (List.replicate m (-1))] := by
  intro d
  induction d with
  | zero =>
    intro j hj
    have hj : j = m := by omega
    subst hj
    rw [List.replicate_zero, List.append_nil]
    exact RunsTo.loop_out (fa_l1_1 (j : Int) lc x j ((List.replicate j (-1)).map encI) j (by omega)) (by simp) (by kernel_rfl) (by kernel_rfl)
  | succ d ih =>
    intro j hj
    have h := ih (j + 1) (by omega)
    have g1 : idxV Try.prog 24 (.sl 0 0 m (some m) m 1) (.int .i64 (j : Int)) = some (.ptr 0 j 0 m) := by
      have := idx_sl (P := Try.prog) (t := 24) (b := 0) (tot := m) (cap := some m) (ik := .i64) (n := (j : Int)) u24b z3b (by omega) (len := m) (by omega)
      simpa using this
    have hlen : (List.replicate j (-1 : Int) ++ List.replicate (d + 1) 0).length = m := by simp; omega
    have hst := store_out (H := [bI (List.replicate j (-1) ++ List.replicate (d + 1) 0)]) (k := 0) rfl (y := j) (by omega) (-1)
    rw [hlen, fill_step] at hst
    have s1 := fa_l1_0 (m : Int) lc x m _ j _ (by omega) g1 hst
    rw [wrap_succ (by omega)] at s1
    exact RunsTo.loop s1 (by kernel_rfl) (gc_same (Nat.le_refl _)) h rfl (by kernel_rfl) (by kernel_rfl)
def rfarF (m : Nat) (l : List (Int × Int)) (x : Nat) : List Int := bfs (nbN m l) m x
def rfar41 : List HV → Option HV
  | [.int .i64 n, .imm .arg 2 lc, .int .i64 x] =>
    match mapO decP lc with
    | some l => if (((0 ≤ n ∧ n ≤ 1000) ∧ l.length ≤ 1000) ∧ l.all (inBb n) = true) ∧ 0 ≤ x ∧ x < n then some (.own 1 ((rfarF n.toNat l x.toNat).map encI)) else none
    | none => none
  | _ => none
theorem res41 : Try.f41.results.toList = [.tmp 6] := by kernel_rfl
theorem rfar_ok : PrimOk Try.prog 41 rfar41 := by
  refine primOk_pure (pol := polN) (fn := Try.f41) (cd := B41) follows_mixed soundN (by kernel_rfl) (by kernel_rfl) (fnok polN.prim _ _ (by kernel_rfl)) (by kernel_rfl) ?_
  intro args res h
  unfold rfar41 at h
  split at h
  · rename_i n lc x
    split at h
    · rename_i l hlc
      split at h
      · rename_i hg
        obtain ⟨⟨⟨hn, hl⟩, hall⟩, hx0, hx1⟩ := hg
        cases h
        rw [mapO_inv decP_inv hlc]
        obtain ⟨m, rfl⟩ : ∃ m : Nat, n = (m : Int) := ⟨n.toNat, by omega⟩
        obtain ⟨w, rfl⟩ : ∃ w : Nat, x = (w : Int) := ⟨x.toNat, by omega⟩
        rw [Int.toNat_natCast, Int.toNat_natCast]
        have hv := inBb_iff.1 hall
        have hw : w < m := by omega
        have a1 := fa_a_0 (m : Int) (l.map encP) (w : Int)
        have hmk := makeV_ok (P := Try.prog) (H := []) (t := 24) (e := 3) (k := 1) (bt := 8) (zv := .int .i64 0) (n := (m : Int)) u24b (by kernel_rfl) (by kernel_rfl) (by kernel_rfl) (by omega) (by omega) (by rw [show roomMax = 70368744177664 from rfl]; omega)
        rw [Int.toNat_natCast] at hmk
        have b1 := fa_b_0 (m : Int) (l.map encP) (w : Int) m hmk
        have c1 := fa_c_0 (m : Int) (l.map encP) (w : Int) m (List.replicate m (.int .i64 0))
        have l1 := rfar_fill (l.map encP) (w : Int) m (by omega) m 0 (by omega)
        have e0 : bI (List.replicate 0 (-1) ++ List.replicate m 0) = .arr 1 (List.replicate m (.int .i64 0)) true 0 := by simp [bI, encI]
        rw [e0] at l1
        have gi : idxV Try.prog 24 (.sl 0 0 m (some m) m 1) (.int .i64 (w : Int)) = some (.ptr 0 ((w : Int).toNat) 0 m) := idx_sl u24b z3b (by omega) (by omega)
        have hst := store_out (H := [bI (List.replicate m (-1))]) (k := 0) rfl (y := w) (by simpa using hw) 0
        rw [List.length_replicate] at hst
        have d1 := fa_d_0 (m : Int) (l.map encP) (w : Int) m _ m _ gi (by rw [Int.toNat_natCast]; exact hst)
        have e1 := fa_e_0 (m : Int) (l.map encP) (w : Int) m (((List.replicate m (-1)).set w 0).map encI) m
        have hq : QOk [bI ((List.replicate m (-1)).set w 0), bNs [w]] 1 (.sl 1 0 1 (some 1) 1 1) [w] := ⟨⟨some 1, rfl, .inr rfl⟩, rfl⟩
        have f1 := fa_f_0 (m : Int) (l.map encP) (w : Int) m (.sl 1 0 1 (some 1) 1 1) [bI ((List.replicate m (-1)).set w 0), bNs [w]] m
        obtain ⟨i', H', qv', r1, o1, hl1⟩ := rfar_out m (by omega) l hl hv (w : Int) m 0 _ 1 _ (bInit m w) (by omega) hq (by omega) rfl (bInit_inv hw) (Nat.zero_le _)
        have r1' := RunsTo.loop_in (e0 := pE (m : Int) (l.map encP) (w : Int) m (.int .i64 (m : Int)) (.sl 1 0 1 (some 1) 1 1) (.int .i64 0) .undef .undef .undef .undef) r1 (b := sub [1, 1, 1, 1, 1, 0, 1, 0, 0] B41) (by kernel_rfl) (by kernel_rfl) (by kernel_rfl)
        have z1 := fa_z_0 (m : Int) (l.map encP) (w : Int) m qv' H' i'
        have t1 := RunsTo.seq f1 (RunsTo.block_exit (c := sub [1, 1, 1, 1, 1, 0, 1] B41) r1' (by kernel_rfl)) (c := sub [1, 1, 1, 1, 1, 0] B41) (by kernel_rfl) (by kernel_rfl)
        have t2 := RunsTo.seq t1 z1 (c := sub [1, 1, 1, 1, 1] B41) (by kernel_rfl) (by kernel_rfl)
        have t3 := RunsTo.seq e1 t2 (c := sub [1, 1, 1, 1] B41) (by kernel_rfl) (by kernel_rfl)
        have t4 := RunsTo.seq d1 t3 (c := sub [1, 1, 1] B41) (by kernel_rfl) (by kernel_rfl)
        have t5 := RunsTo.seq c1 (RunsTo.block_exit (c := sub [1, 1, 0, 1] B41) l1 (by kernel_rfl)) (c := sub [1, 1, 0] B41) (by kernel_rfl) (by kernel_rfl)
        have t6 := RunsTo.seq t5 t4 (c := sub [1, 1] B41) (by kernel_rfl) (by kernel_rfl)
        have t7 := RunsTo.seq b1 t6 (c := sub [1] B41) (by kernel_rfl) (by kernel_rfl)
        have t8 := RunsTo.seq a1 t7 (c := B41) (by kernel_rfl) (by kernel_rfl)
        have hr2 := resCell_sl (H := H') (no := [0]) (b := 0) (k := 1) (m := m) (cap := some m) (els := (rfarF m l w).map encI) o1 (by rw [List.length_map]; exact hl1) (mapO_self (fun r => frz_int 4 r) _)
        have hown : ownedAll H' false (.sl 0 0 m (some m) m 1) = [0] := by
          simp only [ownedAll, cellsOf, List.flatMap_cons, List.flatMap_nil, owned, o1]; rfl
        refine ⟨_, _, _, .sl 0 0 m (some m) m 1, t8, by simp, by simp only [resultsV, res41]; rfl, ?_⟩
        show toRes _ false _ = _
        simp only [toRes, hown, List.nodup_cons, List.not_mem_nil, not_false_eq_true, List.nodup_nil, and_self, if_true, resVal, hr2]
      · cases h
    · cases h
  · cases h
end Go.Proofs.Ytmhfkhlamnapdaa
end
section
open Go Go.HL
namespace Go.Proofs.Ytmhfkhlamnapdaa
set_option maxRecDepth 100000
noncomputable def B59 : Code := Try.f59.body.getD .skip
abbrev env59 (v0 v1 v4 v5 v7 v8 : HV) : Env := [(0, v0), (1, v1), (4, v4), (5, v5), (7, v7), (8, v8)]
theorem ix_a_0 (la : List HV) (v : Int) : RunsTo Try.prog polB 59 (sub [0] B59) [(0, .imm .arg 1 la), (1, .i v)] [] .normal (polB.keys 59) (env59 (.imm .arg 1 la) (.i v) (.i 0) .undef .undef .undef) [] :=
  RunsTo.hin 0 60 [] fun kf hk => ⟨_, by kernel_rfl, .nil⟩
theorem ix_b_0 (la : List HV) (v : Int) : RunsTo Try.prog polB 59 (sub [1, 0, 0] B59) (env59 (.imm .arg 1 la) (.i v) (.i 0) .undef .undef .undef) [] .normal (polB.keys 59) (env59 (.imm .arg 1 la) (.i v) (.i 0) .undef (.i (la.length : Int)) (.i 0)) [] :=
  RunsTo.hin 0 60 [] fun kf hk => ⟨_, by kernel_rfl, .nil⟩
theorem ix_l_0 (la : List HV) (v : Int) (j : Nat) (x0 : Int) (g0 : (j : Int) < (la.length : Int)) (g1 : idxV Try.prog 24 (.imm .arg 1 la) (.i (j : Int)) = some (.vptr (.i x0))) (g2 : v = x0) : RunsTo Try.prog polB 59 (sub [1, 0, 1, 0, 0] B59) (env59 (.imm .arg 1 la) (.i v) (.i 0) .undef (.i (la.length : Int)) (.i (j : Int))) [] .ret (polB.keys 59) (env59 (.imm .arg 1 la) (.i v) (.i (j : Int)) (.i (j : Int)) (.i (la.length : Int)) (.i (j : Int))) [] :=
  RunsTo.hin 0 60 [⟨2, 0, .bool true, []⟩, ⟨4, 3, .vptr (.i x0), []⟩, ⟨4, 5, .bool true, []⟩] fun kf hk => ⟨_, by kernel_rfl, (oB [] (decide_eq_true g0) (oP [] g1 (oB [] (decide_eq_true g2) .nil)))⟩
theorem ix_l_1 (la : List HV) (v : Int) (j : Nat) (x0 : Int) (g0 : (j : Int) < (la.length : Int)) (g1 : idxV Try.prog 24 (.imm .arg 1 la) (.i (j : Int)) = some (.vptr (.i x0))) (g2 : ¬ (v = x0)) : RunsTo Try.prog polB 59 (sub [1, 0, 1, 0, 0] B59) (env59 (.imm .arg 1 la) (.i v) (.i 0) .undef (.i (la.length : Int)) (.i (j : Int))) [] .normal (polB.keys 59) (env59 (.imm .arg 1 la) (.i v) (.i 0) (.i (j : Int)) (.i (la.length : Int)) (.i (IntKind.i64.wrap ((j : Int) + 1)))) [] :=
  RunsTo.hin 0 60 [⟨2, 0, .bool true, []⟩, ⟨4, 3, .vptr (.i x0), []⟩, ⟨4, 5, .bool false, []⟩] fun kf hk => ⟨_, by kernel_rfl, (oB [] (decide_eq_true g0) (oP [] g1 (oB [] (decide_eq_false g2) .nil)))⟩
theorem ix_l_2 (la : List HV) (v : Int) (j : Nat)(g0 : ¬ ((j : Int) < (la.length : Int))) : RunsTo Try.prog polB 59 (sub [1, 0, 1, 0, 0] B59) (env59 (.imm .arg 1 la) (.i v) (.i 0) .undef (.i (la.length : Int)) (.i (j : Int))) [] (.exit 0) (polB.keys 59) (env59 (.imm .arg 1 la) (.i v) (.i 0) .undef (.i (la.length : Int)) (.i (j : Int))) [] :=
  RunsTo.hin 0 60 [⟨2, 0, .bool false, []⟩] fun kf hk => ⟨_, by kernel_rfl, (oB [] (decide_eq_false g0) .nil)⟩
theorem ix_z_0 (la : List HV) (v : Int) (j : Nat) : RunsTo Try.prog polB 59 (sub [1, 1] B59) (env59 (.imm .arg 1 la) (.i v) (.i 0) .undef (.i (la.length : Int)) (.i (j : Int))) [] .ret (polB.keys 59) (env59 (.imm .arg 1 la) (.i v) (.i (-1)) .undef (.i (la.length : Int)) (.i (j : Int))) [] :=
  RunsTo.hin 0 60 [] fun kf hk => ⟨_, by kernel_rfl, .nil⟩
end Go.Proofs.Ytmhfkhlamnapdaa
end
section
open Go Go.HL
namespace Go.Proofs.Ytmhfkhlamnapdaa
def idxFrom (v : Int) : Nat → List Int → Int
  | _, [] => -1
  | j, x :: l => if v = x then (j : Int) else idxFrom v (j + 1) l
def index59 : List HV → Option HV
  | [.imm .arg 1 la, .int .i64 v] => match mapO decI la with | some l => if l.length ≤ 1000 then some (.int .i64 (idxFrom v 0 l)) else none | none => none
  | _ => none
theorem res59 : Try.f59.results.toList = [.tmp 4] := by kernel_rfl
theorem u24x : Try.prog.underlying 24 = some (.slice 3) := by kernel_rfl
theorem z3x : tySize Try.prog 3 = some 1 := by kernel_rfl
abbrev ixE (la : List HV) (v : Int) (j : Nat) : Env := env59 (.imm .arg 1 la) (.int .i64 v) (.int .i64 0) .undef (.int .i64 (la.length : Int)) (.int .i64 (j : Int))
theorem index_loop (l : List Int) (v : Int) (hl : l.length ≤ 1000) : ∀ (d j : Nat), j + d = l.length →
    ∃ x E, RunsTo Try.prog polB 59 (sub [1, 0, 1, 0] B59) (ixE (l.map encI) v j) [] x (polB.keys 59) E [] ∧
      ((idxFrom v j (l.drop j) = -1 ∧ x = .exit 0 ∧ E = ixE (l.map encI) v l.length) ∨ (x = .ret ∧ E.get 4 = .int .i64 (idxFrom v j (l.drop j)))) := by
  intro d
  induction d with
  | zero =>
    intro j hj
    have hj : j = l.length := by omega
    subst hj
    exact ⟨_, _, RunsTo.loop_out (ix_l_2 (l.map encI) v l.length (by simp)) (by simp) (by kernel_rfl) (by kernel_rfl), .inl ⟨by rw [List.drop_length]; rfl, rfl, rfl⟩⟩
  | succ d ih =>
    intro j hj
    have hjl : j < l.length := by omega
    have ga : (l.map encI)[j]? = some (encI l[j]) := by rw [List.getElem?_map, List.getElem?_eq_getElem hjl]; rfl
    have g1 : idxV Try.prog 24 (.imm .arg 1 (l.map encI)) (.int .i64 (j : Int)) = some (.vptr (.int .i64 l[j])) := idx_imm u24x z3x (by omega) (by rw [Int.toNat_natCast]; exact ga)
    rw [List.drop_eq_getElem_cons hjl, idxFrom]
    by_cases he : v = l[j]
    · rw [if_pos he]
      have s1 := ix_l_0 (l.map encI) v j _ (by simp; omega) g1 he
      exact ⟨_, _, RunsTo.loop_out s1 (by simp) (by kernel_rfl) (by kernel_rfl), .inr ⟨rfl, rfl⟩⟩
    · rw [if_neg he]
      obtain ⟨x, E, h1, h2⟩ := ih (j + 1) (by omega)
      have s1 := ix_l_1 (l.map encI) v j _ (by simp; omega) g1 he
      rw [wrap_succ (by omega)] at s1
      exact ⟨x, E, RunsTo.loop s1 (by kernel_rfl) rfl h1 rfl (by kernel_rfl) (by kernel_rfl), h2⟩
theorem index_ok : PrimOk Try.prog 59 index59 := by
  refine primOk_pure (pol := polB) (fn := Try.f59) (cd := B59) follows_mixed soundB (by kernel_rfl) (by kernel_rfl) (fnok polB.prim _ _ (by kernel_rfl)) (by kernel_rfl) ?_
  intro args res h
  unfold index59 at h
  split at h
  · rename_i la v
    split at h
    · rename_i l hl
      split at h
      · rename_i hlen
        cases h
        rw [mapO_inv decI_inv hl]
        have a1 := ix_a_0 (l.map encI) v
        have b1 := ix_b_0 (l.map encI) v
        obtain ⟨x, E, h1, h2⟩ := index_loop l v hlen l.length 0 (by omega)
        rw [List.drop_zero] at h2
        rcases h2 with ⟨k1, rfl, rfl⟩ | ⟨rfl, k2⟩
        · have t1 := RunsTo.seq b1 (RunsTo.block_exit (c := sub [1, 0, 1] B59) h1 (by kernel_rfl)) (c := sub [1, 0] B59) (by kernel_rfl) (by kernel_rfl)
          have t2 := RunsTo.seq t1 (ix_z_0 (l.map encI) v l.length) (c := sub [1] B59) (by kernel_rfl) (by kernel_rfl)
          have t3 := RunsTo.seq a1 t2 (c := B59) (by kernel_rfl) (by kernel_rfl)
          exact ⟨_, _, _, .int .i64 (idxFrom v 0 l), t3, by simp, by rw [k1]; simp only [resultsV, res59]; rfl, rfl⟩
        · have t1 := RunsTo.seq b1 (RunsTo.block_ret (c := sub [1, 0, 1] B59) (i := 0) h1 (by kernel_rfl)) (c := sub [1, 0] B59) (by kernel_rfl) (by kernel_rfl)
          have t2 := RunsTo.seq_out t1 (by simp) (c := sub [1] B59) (b := sub [1, 1] B59) (by kernel_rfl)
          have t3 := RunsTo.seq a1 t2 (c := B59) (by kernel_rfl) (by kernel_rfl)
          exact ⟨_, _, _, .int .i64 (idxFrom v 0 l), t3, by simp, by simp only [resultsV, res59, mapO, resultV, k2], rfl⟩
      · cases h
    · cases h
  · cases h
end Go.Proofs.Ytmhfkhlamnapdaa
end
section
open Go Go.HL
namespace Go.Proofs.Ytmhfkhlamnapdaa
def primO (g : FuncId) : Option (List HV → Option HV) := if g == 41 then some rfar41 else if g == 59 then some index59 else none
def polO : Pol := { pol with prim := primO }
theorem primO_ok (g : FuncId) (f : List HV → Option HV) (h : primO g = some f) : PrimOk Try.prog g f := by
  unfold primO at h
  split at h
  · rename_i hg; cases h; rw [eq_of_beq hg]; exact rfar_ok
  split at h
  · rename_i hg; cases h; rw [eq_of_beq hg]; exact index_ok
  · cases h
theorem soundO (n : Nat) : CallSound Try.prog (callN Try.prog polO n) := sound_prim primO primO_ok n
end Go.Proofs.Ytmhfkhlamnapdaa
end
section
open Go Go.HL
namespace Go.Proofs.Ytmhfkhlamnapdaa
set_option maxRecDepth 100000
noncomputable def B52 : Code := Try.f52.body.getD .skip
abbrev env52 (v0 v1 v4 : HV) : Env := [(0, v0), (1, v1), (4, v4)]
theorem ct_0 (lc : List HV) (x : Int) (r : Int) (g0 : ∀ kf, callN Try.prog polO (kf + 1) 59 [.imm .arg 1 lc, .i x] [] = some (.i r, [])) (g1 : 0 ≤ r) : RunsTo Try.prog polO 52 (sub [] B52) [(0, .imm .arg 1 lc), (1, .i x)] [] .ret (polO.keys 52) (env52 (.imm .arg 1 lc) (.i x) (.bool true)) [] :=
  RunsTo.hin 0 60 [⟨1, 2, .i r, []⟩, ⟨1, 3, .bool true, []⟩] fun kf hk => ⟨_, by kernel_rfl, (oC (g0 kf) (oB [] (decide_eq_true g1) .nil))⟩
theorem ct_1 (lc : List HV) (x : Int) (r : Int) (g0 : ∀ kf, callN Try.prog polO (kf + 1) 59 [.imm .arg 1 lc, .i x] [] = some (.i r, [])) (g1 : ¬ (0 ≤ r)) : RunsTo Try.prog polO 52 (sub [] B52) [(0, .imm .arg 1 lc), (1, .i x)] [] .ret (polO.keys 52) (env52 (.imm .arg 1 lc) (.i x) (.bool false)) [] :=
  RunsTo.hin 0 60 [⟨1, 2, .i r, []⟩, ⟨1, 3, .bool false, []⟩] fun kf hk => ⟨_, by kernel_rfl, (oC (g0 kf) (oB [] (decide_eq_false g1) .nil))⟩
end Go.Proofs.Ytmhfkhlamnapdaa
end
section
open Go Go.HL
namespace Go.Proofs.Ytmhfkhlamnapdaa
theorem idxFrom_mem (v : Int) : ∀ (l : List Int) (j : Nat), 0 ≤ idxFrom v j l ↔ v ∈ l
  | [], j => by simp [idxFrom]
  | x :: l, j => by
    rw [idxFrom]
    by_cases h : v = x
    · subst h; simp
    · have h' : ¬ x = v := fun e => h e.symm
      simp [h, h', idxFrom_mem v l (j + 1)]
def contains52 : List HV → Option HV
  | [.imm .arg 1 la, .int .i64 v] => match mapO decI la with | some l => if l.length ≤ 1000 then some (.bool (decide (v ∈ l))) else none | none => none
  | _ => none
theorem res52 : Try.f52.results.toList = [.tmp 4] := by kernel_rfl
theorem argP_ints' : ∀ (l : List Int), argPL (l.map encI) = some (l.map encI)
  | [] => rfl
  | p :: l => by simp only [List.map_cons, argPL, argP_ints' l, encI, argP]
theorem contains_ok : PrimOk Try.prog 52 contains52 := by
  refine primOk_pure (pol := polO) (fn := Try.f52) (cd := B52) follows_mixed soundO (by kernel_rfl) (by kernel_rfl) (fnok polO.prim _ _ (by kernel_rfl)) (by kernel_rfl) ?_
  intro args res h
  unfold contains52 at h
  split at h
  · rename_i la v
    split at h
    · rename_i l hla
      split at h
      · rename_i hl
        cases h
        rw [mapO_inv decI_inv hla]
        have hc : ∀ k, callN Try.prog polO (k + 1) 59 [.imm .arg 1 (l.map encI), .int .i64 v] [] = some (.int .i64 (idxFrom v 0 l), []) := fun k => by
          rw [prim_call (pol := polO) (g := 59) (F := index59) (by kernel_rfl) (rs := [.imm .arg 1 (l.map encI), .int .i64 v]) (by
            have e : toArg [] 6 (.imm .arg 1 (l.map encI)) = some (.imm .arg 1 (l.map encI)) := by
              show argP (.imm .arg 1 (l.map encI)) = _
              simp only [argP, argP_ints']
            simp only [mapO, e]; rfl) (res := .int .i64 (idxFrom v 0 l)) (by simp only [index59, mapO_map decI_enc]; rw [if_pos hl])]; rfl
        by_cases hm : v ∈ l
        · rw [decide_eq_true hm]
          exact ⟨_, _, _, _, ct_0 (l.map encI) v _ hc ((idxFrom_mem v l 0).2 hm), by simp, by simp only [resultsV, res52]; rfl, rfl⟩
        · rw [decide_eq_false hm]
          exact ⟨_, _, _, _, ct_1 (l.map encI) v _ hc (fun h => hm ((idxFrom_mem v l 0).1 h)), by simp, by simp only [resultsV, res52]; rfl, rfl⟩
      · cases h
    · cases h
  · cases h
end Go.Proofs.Ytmhfkhlamnapdaa
end
section
open Go Go.HL
namespace Go.Proofs.Ytmhfkhlamnapdaa
def ints21 : List HV → Option HV
  | [.imm .arg 1 la, .imm .arg 1 lb] =>
    match mapO decI la, mapO decI lb with
    | some a, some b => if a.length ≤ 1000 then some (.bool (decide (a = b))) else none
    | _, _ => none
  | _ => none
theorem res21 : Try.f21.results.toList = [.tmp 4] := by kernel_rfl
theorem u24s : Try.prog.underlying 24 = some (.slice 3) := by kernel_rfl
theorem z3s : tySize Try.prog 3 = some 1 := by kernel_rfl
abbrev iE (la lb : List HV) (j : Nat) : Env := env21 (.imm .arg 1 la) (.imm .arg 1 lb) (.bool false) (.int .i64 (j : Int))
theorem ints_loop (a b : List Int) (hl : a.length = b.length) (hl2 : a.length ≤ 1000) : ∀ (d j : Nat), j + d = a.length →
    ∃ x E, RunsTo Try.prog pol 21 (sub [1, 1, 0, 1, 0] B21) (iE (a.map encI) (b.map encI) j) [] x (pol.keys 21) E [] ∧
      ((a.drop j = b.drop j ∧ x = .exit 0 ∧ E = iE (a.map encI) (b.map encI) a.length) ∨ (a.drop j ≠ b.drop j ∧ x = .ret ∧ E.get 4 = .bool false)) := by
  intro d
  induction d with
  | zero =>
    intro j hj
    have hj : j = a.length := by omega
    subst hj
    exact ⟨_, _, RunsTo.loop_out (r21_l_2 (a.map encI) (b.map encI) a.length (by simp)) (by simp) (by kernel_rfl) (by kernel_rfl), .inl ⟨by rw [List.drop_length, hl, List.drop_length], rfl, rfl⟩⟩
  | succ d ih =>
    intro j hj
    have hja : j < a.length := by omega
    have hjb : j < b.length := by omega
    have ga : (a.map encI)[j]? = some (encI a[j]) := by rw [List.getElem?_map, List.getElem?_eq_getElem hja]; rfl
    have gb : (b.map encI)[j]? = some (encI b[j]) := by rw [List.getElem?_map, List.getElem?_eq_getElem hjb]; rfl
    have g1 : idxV Try.prog 24 (.imm .arg 1 (a.map encI)) (.int .i64 (j : Int)) = some (.vptr (.int .i64 a[j])) := idx_imm u24s z3s (by omega) (by rw [Int.toNat_natCast]; exact ga)
    have g2 : idxV Try.prog 24 (.imm .arg 1 (b.map encI)) (.int .i64 (j : Int)) = some (.vptr (.int .i64 b[j])) := idx_imm u24s z3s (by omega) (by rw [Int.toNat_natCast]; exact gb)
    rw [List.drop_eq_getElem_cons hja, List.drop_eq_getElem_cons hjb]
    by_cases he : a[j] = b[j]
    · obtain ⟨x, E, h1, h2⟩ := ih (j + 1) (by omega)
      have s1 := r21_l_0 (a.map encI) (b.map encI) j _ _ (by simp; omega) g1 g2 he
      rw [wrap_succ (by omega)] at s1
      refine ⟨x, E, RunsTo.loop s1 (by kernel_rfl) rfl h1 rfl (by kernel_rfl) (by kernel_rfl), ?_⟩
      rw [he]
      simpa only [List.cons.injEq, true_and, ne_eq] using h2
    · have s1 := r21_l_1 (a.map encI) (b.map encI) j _ _ (by simp; omega) g1 g2 he
      exact ⟨_, _, RunsTo.loop_out s1 (by simp) (by kernel_rfl) (by kernel_rfl), .inr ⟨fun h => he (List.cons.inj h).1, rfl, rfl⟩⟩
theorem ints_ok : PrimOk Try.prog 21 ints21 := by
  refine primOk_pure (pol := pol) (fn := Try.f21) (cd := B21) follows_mixed sound (by kernel_rfl) (by kernel_rfl) (fnok pol.prim _ _ (by kernel_rfl)) (by kernel_rfl) ?_
  intro args res h
  unfold ints21 at h
  split at h
  · rename_i la lb
    split at h
    · rename_i a b ha hb
      split at h
      · rename_i hlen
        cases h
        rw [mapO_inv decI_inv ha, mapO_inv decI_inv hb]
        have a1 := r21_a_0 (a.map encI) (b.map encI)
        by_cases hl : a.length = b.length
        · have b1 := r21_b_0 (a.map encI) (b.map encI) (by simp [hl])
          have c1 := r21_c_0 (a.map encI) (b.map encI)
          obtain ⟨x, E, h1, h2⟩ := ints_loop a b hl hlen a.length 0 (by omega)
          rw [List.drop_zero, List.drop_zero] at h2
          rcases h2 with ⟨k1, rfl, rfl⟩ | ⟨k1, rfl, k2⟩
          · have t1 := RunsTo.seq c1 (RunsTo.block_exit (c := sub [1, 1, 0, 1] B21) h1 (by kernel_rfl)) (c := sub [1, 1, 0] B21) (by kernel_rfl) (by kernel_rfl)
            have t2 := RunsTo.seq t1 (r21_z_0 (a.map encI) (b.map encI) a.length) (c := sub [1, 1] B21) (by kernel_rfl) (by kernel_rfl)
            have t3 := RunsTo.seq b1 t2 (c := sub [1] B21) (by kernel_rfl) (by kernel_rfl)
            have t4 := RunsTo.seq a1 t3 (c := B21) (by kernel_rfl) (by kernel_rfl)
            exact ⟨_, _, _, .bool (decide (a = b)), t4, by simp, by rw [decide_eq_true k1]; simp only [resultsV, res21]; rfl, rfl⟩
          · have t1 := RunsTo.seq c1 (RunsTo.block_ret (c := sub [1, 1, 0, 1] B21) (i := 0) h1 (by kernel_rfl)) (c := sub [1, 1, 0] B21) (by kernel_rfl) (by kernel_rfl)
            have t2 := RunsTo.seq_out t1 (by simp) (c := sub [1, 1] B21) (b := sub [1, 1, 1] B21) (by kernel_rfl)
            have t3 := RunsTo.seq b1 t2 (c := sub [1] B21) (by kernel_rfl) (by kernel_rfl)
            have t4 := RunsTo.seq a1 t3 (c := B21) (by kernel_rfl) (by kernel_rfl)
            exact ⟨_, _, _, .bool (decide (a = b)), t4, by simp, by rw [decide_eq_false k1]; simp only [resultsV, res21, mapO, resultV, k2], rfl⟩
        · have b1 := r21_b_1 (a.map encI) (b.map encI) (by simp; omega)
          have t3 := RunsTo.seq_out b1 (by simp) (c := sub [1] B21) (b := sub [1, 1] B21) (by kernel_rfl)
          have t4 := RunsTo.seq a1 t3 (c := B21) (by kernel_rfl) (by kernel_rfl)
          exact ⟨_, _, _, .bool (decide (a = b)), t4, by simp, by rw [decide_eq_false (fun h => hl (by rw [h]))]; simp only [resultsV, res21]; rfl, rfl⟩
      · cases h
    · cases h
  · cases h
end Go.Proofs.Ytmhfkhlamnapdaa
end
section
open Go Go.HL
namespace Go.Proofs.Ytmhfkhlamnapdaa
def encPs (l : List (Int × Int)) : HV := .imm .own 2 (l.map encP)
theorem pairs_res : ∀ (l : List (Int × Int)), resPL (l.map encP) = true
  | [] => rfl
  | b :: r => by simp only [List.map_cons, resPL, encP, resP, pairs_res r]; rfl
abbrev bPs (l : List (Int × Int)) : Blk := .arr 2 (l.map encP) true 0
end Go.Proofs.Ytmhfkhlamnapdaa
end
section
open Go Go.HL
namespace Go.Proofs.Ytmhfkhlamnapdaa
def recL (x x' : Option (HV × Heap)) (H H' : Heap) : Bool :=
  match x, x' with
  | some (v, H1), some (v', H1') => same v v' && sameH H1 H && sameH H1' H'
  | _, _ => false
end Go.Proofs.Ytmhfkhlamnapdaa
end
section
open Go Go.HL
namespace Go.Proofs.Ytmhfkhlamnapdaa
def primM (g : FuncId) : Option (List HV → Option HV) := if g == 49 then some withinF else if g == 50 then some far50 else if g == 52 then some contains52 else none
def polM : Pol := { pol with prim := primM }
theorem primM_ok (g : FuncId) (f : List HV → Option HV) (h : primM g = some f) : PrimOk Try.prog g f := by
  unfold primM at h
  split at h
  · rename_i hg; cases h; rw [eq_of_beq hg]; exact within_ok
  split at h
  · rename_i hg; cases h; rw [eq_of_beq hg]; exact far_ok
  split at h
  · rename_i hg; cases h; rw [eq_of_beq hg]; exact contains_ok
  · cases h
theorem soundM (n : Nat) : CallSound Try.prog (callN Try.prog polM n) := sound_prim primM primM_ok n
end Go.Proofs.Ytmhfkhlamnapdaa
end
section
open Go Go.HL
namespace Go.Proofs.Ytmhfkhlamnapdaa
set_option maxRecDepth 100000
noncomputable def B46 : Code := Try.f46.body.getD .skip
abbrev env46 (v0 v1 v4 v5 v6 v8 v24 v25 v26 : HV) : Env := [(0, v0), (1, v1), (4, v4), (5, v5), (6, v6), (8, v8), (24, v24), (25, v25), (26, v26)]
theorem nt_a_0 (n : Int) (lc : List HV) : RunsTo Try.prog polM 46 (sub [0] B46) [(0, .i n), (1, .imm .arg 2 lc)] [] .normal (polM.keys 46) (env46 (.i n) (.imm .arg 2 lc) (.ptr 0 0 0 1) (.bool false) .undef .undef .undef .undef .undef) [.arr 2 [.agg [.imm .lit 0 [], .nilmap]] true 0] :=
  RunsTo.hin 0 60 [] fun kf hk => ⟨_, by kernel_rfl, .nil⟩
theorem nt_b_0 (n : Int) (lc : List HV)(g0 : ∀ kf, callN Try.prog polM (kf + 1) 49 [.i n, .i 1, .i 30] [.arr 2 [.agg [.imm .lit 0 [], .nilmap]] true 0] = some (.bool true, [.arr 2 [.agg [.imm .lit 0 [], .nilmap]] true 0])) (g1 : (lc.length : Int) = IntKind.i64.wrap (n - 1)) : RunsTo Try.prog polM 46 (sub [1, 0] B46) (env46 (.i n) (.imm .arg 2 lc) (.ptr 0 0 0 1) (.bool false) .undef .undef .undef .undef .undef) [.arr 2 [.agg [.imm .lit 0 [], .nilmap]] true 0] .normal (polM.keys 46) (env46 (.i n) (.imm .arg 2 lc) (.ptr 0 0 0 1) (.bool false) .undef .undef .undef .undef .undef) [.arr 2 [.agg [.imm .lit 0 [], .nilmap]] true 0] :=
  RunsTo.hin 0 60 [⟨1, 1, .bool true, [.arr 2 [.agg [.imm .lit 0 [], .nilmap]] true 0]⟩, ⟨1, 8, .bool false, [.arr 2 [.agg [.imm .lit 0 [], .nilmap]] true 0]⟩] fun kf hk => ⟨_, by kernel_rfl, (oC (g0 kf) (oB [.arr 2 [.agg [.imm .lit 0 [], .nilmap]] true 0] (congrArg not (decide_eq_true g1)) .nil))⟩
theorem nt_b_1 (n : Int) (lc : List HV)(g0 : ∀ kf, callN Try.prog polM (kf + 1) 49 [.i n, .i 1, .i 30] [.arr 2 [.agg [.imm .lit 0 [], .nilmap]] true 0] = some (.bool true, [.arr 2 [.agg [.imm .lit 0 [], .nilmap]] true 0])) (g1 : ¬ ((lc.length : Int) = IntKind.i64.wrap (n - 1))) : RunsTo Try.prog polM 46 (sub [1, 0] B46) (env46 (.i n) (.imm .arg 2 lc) (.ptr 0 0 0 1) (.bool false) .undef .undef .undef .undef .undef) [.arr 2 [.agg [.imm .lit 0 [], .nilmap]] true 0] .ret (polM.keys 46) (env46 (.i n) (.imm .arg 2 lc) (.ptr 0 0 0 1) (.bool false) .undef .undef .undef .undef .undef) [.arr 2 [.agg [.imm .lit 0 [], .nilmap]] true 0] :=
  RunsTo.hin 0 60 [⟨1, 1, .bool true, [.arr 2 [.agg [.imm .lit 0 [], .nilmap]] true 0]⟩, ⟨1, 8, .bool true, [.arr 2 [.agg [.imm .lit 0 [], .nilmap]] true 0]⟩] fun kf hk => ⟨_, by kernel_rfl, (oC (g0 kf) (oB [.arr 2 [.agg [.imm .lit 0 [], .nilmap]] true 0] (congrArg not (decide_eq_false g1)) .nil))⟩
theorem nt_b_2 (n : Int) (lc : List HV)(g0 : ∀ kf, callN Try.prog polM (kf + 1) 49 [.i n, .i 1, .i 30] [.arr 2 [.agg [.imm .lit 0 [], .nilmap]] true 0] = some (.bool false, [.arr 2 [.agg [.imm .lit 0 [], .nilmap]] true 0])) : RunsTo Try.prog polM 46 (sub [1, 0] B46) (env46 (.i n) (.imm .arg 2 lc) (.ptr 0 0 0 1) (.bool false) .undef .undef .undef .undef .undef) [.arr 2 [.agg [.imm .lit 0 [], .nilmap]] true 0] .ret (polM.keys 46) (env46 (.i n) (.imm .arg 2 lc) (.ptr 0 0 0 1) (.bool false) .undef .undef .undef .undef .undef) [.arr 2 [.agg [.imm .lit 0 [], .nilmap]] true 0] :=
  RunsTo.hin 0 60 [⟨1, 1, .bool false, [.arr 2 [.agg [.imm .lit 0 [], .nilmap]] true 0]⟩] fun kf hk => ⟨_, by kernel_rfl, (oC (g0 kf) .nil)⟩
theorem nt_c_0 (n : Int) (lc : List HV) (m : Nat) (H : Heap) (H0 : Heap) (H1 : Heap) (H2 : Heap) (H3 : Heap) (g0 : makeV Try.prog true 55 (.i n) (.i n) H = some (.sl 1 0 m (some m) m 1, H0)) (g1 : some (HV.map H0.length, H0 ++ [Blk.map [] [] 0]) = some (.map (m + 2), H1)) (g2 : some (newV (.agg [.imm .lit 0 [], .nilmap]) H1) = some (.ptr (m + 3) 0 0 1, H2)) (g3 : storeV Try.prog H2 72 (.ptr (m + 3) 0 0 1) (.agg [.sl 1 0 m (some m) m 1, .map (m + 2)]) = some H3) : RunsTo Try.prog polM 46 (sub [1, 1, 0] B46) (env46 (.i n) (.imm .arg 2 lc) (.ptr 0 0 0 1) (.bool false) .undef .undef .undef .undef .undef) H .normal (polM.keys 46) (env46 (.i n) (.imm .arg 2 lc) (.ptr 0 0 0 1) (.bool false) (.ptr (m + 3) 0 0 1) .undef .undef .undef .undef) H3 :=
  RunsTo.hin 0 60 [⟨3, 1, .sl 1 0 m (some m) m 1, H0⟩, ⟨3, 2, .map (m + 2), H1⟩, ⟨3, 4, .ptr (m + 3) 0 0 1, H2⟩, ⟨3, 5, .tuple [], H3⟩] fun kf hk => ⟨_, by kernel_rfl, (oC (g0) (oC (g1) (oC (g2) (oS g3 .nil))))⟩
theorem nt_d_0 (n : Int) (lc : List HV) (m : Nat) (H : Heap) : RunsTo Try.prog polM 46 (sub [1, 1, 1, 0, 0] B46) (env46 (.i n) (.imm .arg 2 lc) (.ptr 0 0 0 1) (.bool false) (.ptr (m + 3) 0 0 1) .undef .undef .undef .undef) H .normal (polM.keys 46) (env46 (.i n) (.imm .arg 2 lc) (.ptr 0 0 0 1) (.bool false) (.ptr (m + 3) 0 0 1) .undef (.imm .arg 2 lc) (.i (lc.length : Int)) (.i 0)) H :=
  RunsTo.hin 0 60 [] fun kf hk => ⟨_, by kernel_rfl, .nil⟩
theorem nt_l_0 (n : Int) (lc : List HV) (m : Nat) (H : Heap) (j : Nat) (x0 : Int) (x1 : Int) (a0 : HV) (H0 : Heap) (H1 : Heap) (a1 : HV) (x2 : Int) (H2 : Heap) (a2 : HV) (x3 : Int) (H3 : Heap) (a3 : HV) (x4 : Int) (a4 : HV) (x5 : Int) (H4 : Heap) (g0 : (j : Int) < (lc.length : Int)) (g1 : idxV Try.prog 22 (.imm .arg 2 lc) (.i (j : Int)) = some (.vptr (.agg [.i x0, .i x1]))) (g2 : some (newV (.agg [.i 0, .i 0]) H) = some (a0, H0)) (g3 : storeV Try.prog H0 33 (a0) (.agg [.i x0, .i x1]) = some H1) (g4 : idxV Try.prog 33 a0 (.i 0) = some (a1)) (g5 : loadV Try.prog H1 3 (a1) = some (.i x2)) (g6 : ∀ kf, callN Try.prog polM (kf + 1) 49 [.i x2, .i 0, .i (IntKind.i64.wrap (n - 1))] H1 = some (.bool true, H2)) (g7 : idxV Try.prog 33 a0 (.i 1) = some (a2)) (g8 : loadV Try.prog H2 3 (a2) = some (.i x3)) (g9 : ∀ kf, callN Try.prog polM (kf + 1) 49 [.i x3, .i 0, .i (IntKind.i64.wrap (n - 1))] H2 = some (.bool true, H3)) (g10 : idxV Try.prog 33 a0 (.i 0) = some (a3)) (g11 : loadV Try.prog H3 3 (a3) = some (.i x4)) (g12 : idxV Try.prog 33 a0 (.i 1) = some (a4)) (g13 : loadV Try.prog H3 3 (a4) = some (.i x5)) (g14 : x4 = x5) (g15 : storeV Try.prog H3 72 (.ptr 0 0 0 1) (.agg [.imm .lit 0 [], .nilmap]) = some H4) : RunsTo Try.prog polM 46 (sub [1, 1, 1, 0, 1, 0, 0] B46) (env46 (.i n) (.imm .arg 2 lc) (.ptr 0 0 0 1) (.bool false) (.ptr (m + 3) 0 0 1) .undef (.imm .arg 2 lc) (.i (lc.length : Int)) (.i (j : Int))) H .ret (polM.keys 46) (env46 (.i n) (.imm .arg 2 lc) (.ptr 0 0 0 1) (.bool false) (.ptr (m + 3) 0 0 1) a0 (.imm .arg 2 lc) (.i (lc.length : Int)) (.i (j : Int))) H4 :=
  RunsTo.hin 0 60 [⟨5, 0, .bool true, H⟩, ⟨6, 0, .vptr (.agg [.i x0, .i x1]), H⟩, ⟨6, 2, a0, H0⟩, ⟨6, 3, .tuple [], H1⟩, ⟨7, 0, a1, H1⟩, ⟨7, 1, .i x2, H1⟩, ⟨7, 4, .bool true, H2⟩, ⟨7, 7, a2, H2⟩, ⟨7, 8, .i x3, H2⟩, ⟨7, 11, .bool true, H3⟩, ⟨7, 15, a3, H3⟩, ⟨7, 16, .i x4, H3⟩, ⟨7, 17, a4, H3⟩, ⟨7, 18, .i x5, H3⟩, ⟨7, 19, .bool true, H3⟩, ⟨8, 1, .tuple [], H4⟩] fun kf hk => ⟨_, by kernel_rfl, (oB H (decide_eq_true g0) (oP H g1 (oC (g2) (oS g3 (oP H1 g4 (oP H1 g5 (oC (g6 kf) (oP H2 g7 (oP H2 g8 (oC (g9 kf) (oP H3 g10 (oP H3 g11 (oP H3 g12 (oP H3 g13 (oB H3 (decide_eq_true g14) (oS g15 .nil))))))))))))))))⟩
theorem nt_l_1 (n : Int) (lc : List HV) (m : Nat) (H : Heap) (j : Nat) (x0 : Int) (x1 : Int) (a0 : HV) (H0 : Heap) (H1 : Heap) (a1 : HV) (x2 : Int) (H2 : Heap) (a2 : HV) (x3 : Int) (H3 : Heap) (a3 : HV) (x4 : Int) (a4 : HV) (x5 : Int) (a5 : HV) (x6 : Int) (a6 : HV) (x7 : Int) (v0 : HV) (a7 : HV) (x8 : Int) (H4 : Heap) (v1 : HV) (H5 : Heap) (a8 : HV) (x9 : Int) (a9 : HV) (x10 : Int) (v2 : HV) (a10 : HV) (x11 : Int) (H6 : Heap) (v3 : HV) (H7 : Heap) (g0 : (j : Int) < (lc.length : Int)) (g1 : idxV Try.prog 22 (.imm .arg 2 lc) (.i (j : Int)) = some (.vptr (.agg [.i x0, .i x1]))) (g2 : some (newV (.agg [.i 0, .i 0]) H) = some (a0, H0)) (g3 : storeV Try.prog H0 33 (a0) (.agg [.i x0, .i x1]) = some H1) (g4 : idxV Try.prog 33 a0 (.i 0) = some (a1)) (g5 : loadV Try.prog H1 3 (a1) = some (.i x2)) (g6 : ∀ kf, callN Try.prog polM (kf + 1) 49 [.i x2, .i 0, .i (IntKind.i64.wrap (n - 1))] H1 = some (.bool true, H2)) (g7 : idxV Try.prog 33 a0 (.i 1) = some (a2)) (g8 : loadV Try.prog H2 3 (a2) = some (.i x3)) (g9 : ∀ kf, callN Try.prog polM (kf + 1) 49 [.i x3, .i 0, .i (IntKind.i64.wrap (n - 1))] H2 = some (.bool true, H3)) (g10 : idxV Try.prog 33 a0 (.i 0) = some (a3)) (g11 : loadV Try.prog H3 3 (a3) = some (.i x4)) (g12 : idxV Try.prog 33 a0 (.i 1) = some (a4)) (g13 : loadV Try.prog H3 3 (a4) = some (.i x5)) (g14 : ¬ (x4 = x5)) (g15 : loadV Try.prog H3 55 (.ptr (m + 3) 0 0 1) = some (.sl 1 0 m (some m) m 1)) (g16 : idxV Try.prog 33 a0 (.i 0) = some (a5)) (g17 : loadV Try.prog H3 3 (a5) = some (.i x6)) (g18 : loadV Try.prog H3 55 (.ptr (m + 3) 0 0 1) = some (.sl 1 0 m (some m) m 1)) (g19 : idxV Try.prog 33 a0 (.i 0) = some (a6)) (g20 : loadV Try.prog H3 3 (a6) = some (.i x7)) (g21 : idxV Try.prog 55 (.sl 1 0 m (some m) m 1) (.i x7) = some (.ptr 1 ((x7).toNat) 0 m)) (g22 : loadV Try.prog H3 24 (.ptr 1 ((x7).toNat) 0 m) = some (v0)) (g23 : idxV Try.prog 33 a0 (.i 1) = some (a7)) (g24 : loadV Try.prog H3 3 (a7) = some (.i x8)) (g25 : appV H3 1 8 (v0) [.i x8] = some (v1, H4)) (g26 : idxV Try.prog 55 (.sl 1 0 m (some m) m 1) (.i x6) = some (.ptr 1 ((x6).toNat) 0 m)) (g27 : storeV Try.prog H4 24 (.ptr 1 ((x6).toNat) 0 m) (v1) = some H5) (gS9 : (recL ((loadV Try.prog H3 55 (.ptr (m + 3) 0 0 1)).map (fun v => (v, (H3 : Heap)))) ((loadV Try.prog H3 55 (.ptr (m + 3) 0 0 1)).map (fun v => (v, (H3 : Heap)))) H3 H3 && (recL ((loadV Try.prog H3 55 (.ptr (m + 3) 0 0 1)).map (fun v => (v, (H3 : Heap)))) ((loadV Try.prog H4 55 (.ptr (m + 3) 0 0 1)).map (fun v => (v, (H4 : Heap)))) H3 H4 && (recL ((loadV Try.prog H3 3 (a5)).map (fun v => (v, (H3 : Heap)))) ((loadV Try.prog H3 3 (a5)).map (fun v => (v, (H3 : Heap)))) H3 H3 && (recL ((loadV Try.prog H3 3 (a5)).map (fun v => (v, (H3 : Heap)))) ((loadV Try.prog H4 3 (a5)).map (fun v => (v, (H4 : Heap)))) H3 H4 && (recL ((loadV Try.prog H3 55 (.ptr (m + 3) 0 0 1)).map (fun v => (v, (H3 : Heap)))) ((loadV Try.prog H3 55 (.ptr (m + 3) 0 0 1)).map (fun v => (v, (H3 : Heap)))) H3 H3 && (recL ((loadV Try.prog H3 3 (a6)).map (fun v => (v, (H3 : Heap)))) ((loadV Try.prog H3 3 (a6)).map (fun v => (v, (H3 : Heap)))) H3 H3 && (recL ((loadV Try.prog H3 24 (.ptr 1 ((x7).toNat) 0 m)).map (fun v => (v, (H3 : Heap)))) ((loadV Try.prog H3 24 (.ptr 1 ((x7).toNat) 0 m)).map (fun v => (v, (H3 : Heap)))) H3 H3 && true))))))) = true) (g29 : loadV Try.prog H5 55 (.ptr (m + 3) 0 0 1) = some (.sl 1 0 m (some m) m 1)) (g30 : idxV Try.prog 33 a0 (.i 1) = some (a8)) (g31 : loadV Try.prog H5 3 (a8) = some (.i x9)) (g32 : loadV Try.prog H5 55 (.ptr (m + 3) 0 0 1) = some (.sl 1 0 m (some m) m 1)) (g33 : idxV Try.prog 33 a0 (.i 1) = some (a9)) (g34 : loadV Try.prog H5 3 (a9) = some (.i x10)) (g35 : idxV Try.prog 55 (.sl 1 0 m (some m) m 1) (.i x10) = some (.ptr 1 ((x10).toNat) 0 m)) (g36 : loadV Try.prog H5 24 (.ptr 1 ((x10).toNat) 0 m) = some (v2)) (g37 : idxV Try.prog 33 a0 (.i 0) = some (a10)) (g38 : loadV Try.prog H5 3 (a10) = some (.i x11)) (g39 : appV H5 1 8 (v2) [.i x11] = some (v3, H6)) (g40 : idxV Try.prog 55 (.sl 1 0 m (some m) m 1) (.i x9) = some (.ptr 1 ((x9).toNat) 0 m)) (g41 : storeV Try.prog H6 24 (.ptr 1 ((x9).toNat) 0 m) (v3) = some H7) (gS10 : (recL ((loadV Try.prog H5 55 (.ptr (m + 3) 0 0 1)).map (fun v => (v, (H5 : Heap)))) ((loadV Try.prog H5 55 (.ptr (m + 3) 0 0 1)).map (fun v => (v, (H5 : Heap)))) H5 H5 && (recL ((loadV Try.prog H5 55 (.ptr (m + 3) 0 0 1)).map (fun v => (v, (H5 : Heap)))) ((loadV Try.prog H6 55 (.ptr (m + 3) 0 0 1)).map (fun v => (v, (H6 : Heap)))) H5 H6 && (recL ((loadV Try.prog H5 3 (a8)).map (fun v => (v, (H5 : Heap)))) ((loadV Try.prog H5 3 (a8)).map (fun v => (v, (H5 : Heap)))) H5 H5 && (recL ((loadV Try.prog H5 3 (a8)).map (fun v => (v, (H5 : Heap)))) ((loadV Try.prog H6 3 (a8)).map (fun v => (v, (H6 : Heap)))) H5 H6 && (recL ((loadV Try.prog H5 55 (.ptr (m + 3) 0 0 1)).map (fun v => (v, (H5 : Heap)))) ((loadV Try.prog H5 55 (.ptr (m + 3) 0 0 1)).map (fun v => (v, (H5 : Heap)))) H5 H5 && (recL ((loadV Try.prog H5 3 (a9)).map (fun v => (v, (H5 : Heap)))) ((loadV Try.prog H5 3 (a9)).map (fun v => (v, (H5 : Heap)))) H5 H5 && (recL ((loadV Try.prog H5 24 (.ptr 1 ((x10).toNat) 0 m)).map (fun v => (v, (H5 : Heap)))) ((loadV Try.prog H5 24 (.ptr 1 ((x10).toNat) 0 m)).map (fun v => (v, (H5 : Heap)))) H5 H5 && true))))))) = true) : RunsTo Try.prog polM 46 (sub [1, 1, 1, 0, 1, 0, 0] B46) (env46 (.i n) (.imm .arg 2 lc) (.ptr 0 0 0 1) (.bool false) (.ptr (m + 3) 0 0 1) .undef (.imm .arg 2 lc) (.i (lc.length : Int)) (.i (j : Int))) H .normal (polM.keys 46) (env46 (.i n) (.imm .arg 2 lc) (.ptr 0 0 0 1) (.bool false) (.ptr (m + 3) 0 0 1) a0 (.imm .arg 2 lc) (.i (lc.length : Int)) (.i (IntKind.i64.wrap ((j : Int) + 1)))) H7 :=
  RunsTo.hin 0 60 [⟨5, 0, .bool true, H⟩, ⟨6, 0, .vptr (.agg [.i x0, .i x1]), H⟩, ⟨6, 2, a0, H0⟩, ⟨6, 3, .tuple [], H1⟩, ⟨7, 0, a1, H1⟩, ⟨7, 1, .i x2, H1⟩, ⟨7, 4, .bool true, H2⟩, ⟨7, 7, a2, H2⟩, ⟨7, 8, .i x3, H2⟩, ⟨7, 11, .bool true, H3⟩, ⟨7, 15, a3, H3⟩, ⟨7, 16, .i x4, H3⟩, ⟨7, 17, a4, H3⟩, ⟨7, 18, .i x5, H3⟩, ⟨7, 19, .bool false, H3⟩, ⟨9, 1, .sl 1 0 m (some m) m 1, H3⟩, ⟨9, 2, a5, H3⟩, ⟨9, 3, .i x6, H3⟩, ⟨9, 5, .sl 1 0 m (some m) m 1, H3⟩, ⟨9, 6, a6, H3⟩, ⟨9, 7, .i x7, H3⟩, ⟨9, 8, .ptr 1 ((x7).toNat) 0 m, H3⟩, ⟨9, 9, v0, H3⟩, ⟨9, 10, a7, H3⟩, ⟨9, 11, .i x8, H3⟩, ⟨9, 13, v1, H4⟩, ⟨9, 14, .ptr 1 ((x6).toNat) 0 m, H4⟩, ⟨9, 15, .tuple [], H5⟩, ⟨10, 1, .sl 1 0 m (some m) m 1, H5⟩, ⟨10, 2, a8, H5⟩, ⟨10, 3, .i x9, H5⟩, ⟨10, 5, .sl 1 0 m (some m) m 1, H5⟩, ⟨10, 6, a9, H5⟩, ⟨10, 7, .i x10, H5⟩, ⟨10, 8, .ptr 1 ((x10).toNat) 0 m, H5⟩, ⟨10, 9, v2, H5⟩, ⟨10, 10, a10, H5⟩, ⟨10, 11, .i x11, H5⟩, ⟨10, 13, v3, H6⟩, ⟨10, 14, .ptr 1 ((x9).toNat) 0 m, H6⟩, ⟨10, 15, .tuple [], H7⟩] fun kf hk => ⟨_, by kernel_rfl, (oB H (decide_eq_true g0) (oP H g1 (oC (g2) (oS g3 (oP H1 g4 (oP H1 g5 (oC (g6 kf) (oP H2 g7 (oP H2 g8 (oC (g9 kf) (oP H3 g10 (oP H3 g11 (oP H3 g12 (oP H3 g13 (oB H3 (decide_eq_false g14) (oC (gS9) (oP H3 g15 (oP H3 g16 (oP H3 g17 (oP H3 g18 (oP H3 g19 (oP H3 g20 (oP H3 g21 (oP H3 g22 (oP H3 g23 (oP H3 g24 (oC (g25) (oP H4 g26 (oS g27 (oC (gS10) (oP H5 g29 (oP H5 g30 (oP H5 g31 (oP H5 g32 (oP H5 g33 (oP H5 g34 (oP H5 g35 (oP H5 g36 (oP H5 g37 (oP H5 g38 (oC (g39) (oP H6 g40 (oS g41 .nil)))))))))))))))))))))))))))))))))))))))))))⟩
theorem nt_l_2 (n : Int) (lc : List HV) (m : Nat) (H : Heap) (j : Nat) (x0 : Int) (x1 : Int) (a0 : HV) (H0 : Heap) (H1 : Heap) (a1 : HV) (x2 : Int) (H2 : Heap) (a2 : HV) (x3 : Int) (H3 : Heap) (H4 : Heap) (g0 : (j : Int) < (lc.length : Int)) (g1 : idxV Try.prog 22 (.imm .arg 2 lc) (.i (j : Int)) = some (.vptr (.agg [.i x0, .i x1]))) (g2 : some (newV (.agg [.i 0, .i 0]) H) = some (a0, H0)) (g3 : storeV Try.prog H0 33 (a0) (.agg [.i x0, .i x1]) = some H1) (g4 : idxV Try.prog 33 a0 (.i 0) = some (a1)) (g5 : loadV Try.prog H1 3 (a1) = some (.i x2)) (g6 : ∀ kf, callN Try.prog polM (kf + 1) 49 [.i x2, .i 0, .i (IntKind.i64.wrap (n - 1))] H1 = some (.bool true, H2)) (g7 : idxV Try.prog 33 a0 (.i 1) = some (a2)) (g8 : loadV Try.prog H2 3 (a2) = some (.i x3)) (g9 : ∀ kf, callN Try.prog polM (kf + 1) 49 [.i x3, .i 0, .i (IntKind.i64.wrap (n - 1))] H2 = some (.bool false, H3)) (g10 : storeV Try.prog H3 72 (.ptr 0 0 0 1) (.agg [.imm .lit 0 [], .nilmap]) = some H4) : RunsTo Try.prog polM 46 (sub [1, 1, 1, 0, 1, 0, 0] B46) (env46 (.i n) (.imm .arg 2 lc) (.ptr 0 0 0 1) (.bool false) (.ptr (m + 3) 0 0 1) .undef (.imm .arg 2 lc) (.i (lc.length : Int)) (.i (j : Int))) H .ret (polM.keys 46) (env46 (.i n) (.imm .arg 2 lc) (.ptr 0 0 0 1) (.bool false) (.ptr (m + 3) 0 0 1) a0 (.imm .arg 2 lc) (.i (lc.length : Int)) (.i (j : Int))) H4 :=
  RunsTo.hin 0 60 [⟨5, 0, .bool true, H⟩, ⟨6, 0, .vptr (.agg [.i x0, .i x1]), H⟩, ⟨6, 2, a0, H0⟩, ⟨6, 3, .tuple [], H1⟩, ⟨7, 0, a1, H1⟩, ⟨7, 1, .i x2, H1⟩, ⟨7, 4, .bool true, H2⟩, ⟨7, 7, a2, H2⟩, ⟨7, 8, .i x3, H2⟩, ⟨7, 11, .bool false, H3⟩, ⟨8, 1, .tuple [], H4⟩] fun kf hk => ⟨_, by kernel_rfl, (oB H (decide_eq_true g0) (oP H g1 (oC (g2) (oS g3 (oP H1 g4 (oP H1 g5 (oC (g6 kf) (oP H2 g7 (oP H2 g8 (oC (g9 kf) (oS g10 .nil)))))))))))⟩
theorem nt_l_3 (n : Int) (lc : List HV) (m : Nat) (H : Heap) (j : Nat) (x0 : Int) (x1 : Int) (a0 : HV) (H0 : Heap) (H1 : Heap) (a1 : HV) (x2 : Int) (H2 : Heap) (H3 : Heap) (g0 : (j : Int) < (lc.length : Int)) (g1 : idxV Try.prog 22 (.imm .arg 2 lc) (.i (j : Int)) = some (.vptr (.agg [.i x0, .i x1]))) (g2 : some (newV (.agg [.i 0, .i 0]) H) = some (a0, H0)) (g3 : storeV Try.prog H0 33 (a0) (.agg [.i x0, .i x1]) = some H1) (g4 : idxV Try.prog 33 a0 (.i 0) = some (a1)) (g5 : loadV Try.prog H1 3 (a1) = some (.i x2)) (g6 : ∀ kf, callN Try.prog polM (kf + 1) 49 [.i x2, .i 0, .i (IntKind.i64.wrap (n - 1))] H1 = some (.bool false, H2)) (g7 : storeV Try.prog H2 72 (.ptr 0 0 0 1) (.agg [.imm .lit 0 [], .nilmap]) = some H3) : RunsTo Try.prog polM 46 (sub [1, 1, 1, 0, 1, 0, 0] B46) (env46 (.i n) (.imm .arg 2 lc) (.ptr 0 0 0 1) (.bool false) (.ptr (m + 3) 0 0 1) .undef (.imm .arg 2 lc) (.i (lc.length : Int)) (.i (j : Int))) H .ret (polM.keys 46) (env46 (.i n) (.imm .arg 2 lc) (.ptr 0 0 0 1) (.bool false) (.ptr (m + 3) 0 0 1) a0 (.imm .arg 2 lc) (.i (lc.length : Int)) (.i (j : Int))) H3 :=
  RunsTo.hin 0 60 [⟨5, 0, .bool true, H⟩, ⟨6, 0, .vptr (.agg [.i x0, .i x1]), H⟩, ⟨6, 2, a0, H0⟩, ⟨6, 3, .tuple [], H1⟩, ⟨7, 0, a1, H1⟩, ⟨7, 1, .i x2, H1⟩, ⟨7, 4, .bool false, H2⟩, ⟨8, 1, .tuple [], H3⟩] fun kf hk => ⟨_, by kernel_rfl, (oB H (decide_eq_true g0) (oP H g1 (oC (g2) (oS g3 (oP H1 g4 (oP H1 g5 (oC (g6 kf) (oS g7 .nil))))))))⟩
theorem nt_l_4 (n : Int) (lc : List HV) (m : Nat) (H : Heap) (j : Nat)(g0 : ¬ ((j : Int) < (lc.length : Int))) : RunsTo Try.prog polM 46 (sub [1, 1, 1, 0, 1, 0, 0] B46) (env46 (.i n) (.imm .arg 2 lc) (.ptr 0 0 0 1) (.bool false) (.ptr (m + 3) 0 0 1) .undef (.imm .arg 2 lc) (.i (lc.length : Int)) (.i (j : Int))) H (.exit 0) (polM.keys 46) (env46 (.i n) (.imm .arg 2 lc) (.ptr 0 0 0 1) (.bool false) (.ptr (m + 3) 0 0 1) .undef (.imm .arg 2 lc) (.i (lc.length : Int)) (.i (j : Int))) H :=
  RunsTo.hin 0 60 [⟨5, 0, .bool false, H⟩] fun kf hk => ⟨_, by kernel_rfl, (oB H (decide_eq_false g0) .nil)⟩
theorem nt_z_0 (n : Int) (lc : List HV) (m : Nat) (H : Heap) (j : Nat) (v50 : HV) (H0 : Heap) (H1 : Heap) (H2 : Heap) (g0 : loadV Try.prog H 72 (.ptr (m + 3) 0 0 1) = some (.agg [.sl 1 0 m (some m) m 1, .map (m + 2)])) (g1 : loadV Try.prog H 72 (.ptr (m + 3) 0 0 1) = some (.agg [.sl 1 0 m (some m) m 1, .map (m + 2)])) (g2 : ∀ kf, callN Try.prog polM (kf + 1) 50 [.agg [.sl 1 0 m (some m) m 1, .map (m + 2)], .i 0] H = some (v50, H0)) (g3 : ∀ kf, callN Try.prog polM (kf + 1) 52 [v50, .i (-1)] H0 = some (.bool true, H1)) (g4 : storeV Try.prog H1 72 (.ptr 0 0 0 1) (.agg [.sl 1 0 m (some m) m 1, .map (m + 2)]) = some H2) (gS12 : (recL ((loadV Try.prog H 72 (.ptr (m + 3) 0 0 1)).map (fun v => (v, (H : Heap)))) ((loadV Try.prog H0 72 (.ptr (m + 3) 0 0 1)).map (fun v => (v, (H0 : Heap)))) H H0 && (recL ((loadV Try.prog H 72 (.ptr (m + 3) 0 0 1)).map (fun v => (v, (H : Heap)))) ((loadV Try.prog H1 72 (.ptr (m + 3) 0 0 1)).map (fun v => (v, (H1 : Heap)))) H H1 && true)) = true) : RunsTo Try.prog polM 46 (sub [1, 1, 1, 1] B46) (env46 (.i n) (.imm .arg 2 lc) (.ptr 0 0 0 1) (.bool false) (.ptr (m + 3) 0 0 1) .undef (.imm .arg 2 lc) (.i (lc.length : Int)) (.i (j : Int))) H .ret (polM.keys 46) (env46 (.i n) (.imm .arg 2 lc) (.ptr 0 0 0 1) (.bool false) (.ptr (m + 3) 0 0 1) .undef (.imm .arg 2 lc) (.i (lc.length : Int)) (.i (j : Int))) H2 :=
  RunsTo.hin 0 60 [⟨12, 0, .agg [.sl 1 0 m (some m) m 1, .map (m + 2)], H⟩, ⟨12, 1, .agg [.sl 1 0 m (some m) m 1, .map (m + 2)], H⟩, ⟨12, 2, v50, H0⟩, ⟨12, 3, .bool true, H1⟩, ⟨12, 5, .tuple [], H2⟩] fun kf hk => ⟨_, by kernel_rfl, (oC (gS12) (oP H g0 (oP H g1 (oC (g2 kf) (oC (g3 kf) (oS g4 .nil))))))⟩
theorem nt_z_1 (n : Int) (lc : List HV) (m : Nat) (H : Heap) (j : Nat) (v50 : HV) (H0 : Heap) (H1 : Heap) (H2 : Heap) (g0 : loadV Try.prog H 72 (.ptr (m + 3) 0 0 1) = some (.agg [.sl 1 0 m (some m) m 1, .map (m + 2)])) (g1 : loadV Try.prog H 72 (.ptr (m + 3) 0 0 1) = some (.agg [.sl 1 0 m (some m) m 1, .map (m + 2)])) (g2 : ∀ kf, callN Try.prog polM (kf + 1) 50 [.agg [.sl 1 0 m (some m) m 1, .map (m + 2)], .i 0] H = some (v50, H0)) (g3 : ∀ kf, callN Try.prog polM (kf + 1) 52 [v50, .i (-1)] H0 = some (.bool false, H1)) (g4 : storeV Try.prog H1 72 (.ptr 0 0 0 1) (.agg [.sl 1 0 m (some m) m 1, .map (m + 2)]) = some H2) (gS12 : (recL ((loadV Try.prog H 72 (.ptr (m + 3) 0 0 1)).map (fun v => (v, (H : Heap)))) ((loadV Try.prog H0 72 (.ptr (m + 3) 0 0 1)).map (fun v => (v, (H0 : Heap)))) H H0 && (recL ((loadV Try.prog H 72 (.ptr (m + 3) 0 0 1)).map (fun v => (v, (H : Heap)))) ((loadV Try.prog H1 72 (.ptr (m + 3) 0 0 1)).map (fun v => (v, (H1 : Heap)))) H H1 && true)) = true) : RunsTo Try.prog polM 46 (sub [1, 1, 1, 1] B46) (env46 (.i n) (.imm .arg 2 lc) (.ptr 0 0 0 1) (.bool false) (.ptr (m + 3) 0 0 1) .undef (.imm .arg 2 lc) (.i (lc.length : Int)) (.i (j : Int))) H .ret (polM.keys 46) (env46 (.i n) (.imm .arg 2 lc) (.ptr 0 0 0 1) (.bool true) (.ptr (m + 3) 0 0 1) .undef (.imm .arg 2 lc) (.i (lc.length : Int)) (.i (j : Int))) H2 :=
  RunsTo.hin 0 60 [⟨12, 0, .agg [.sl 1 0 m (some m) m 1, .map (m + 2)], H⟩, ⟨12, 1, .agg [.sl 1 0 m (some m) m 1, .map (m + 2)], H⟩, ⟨12, 2, v50, H0⟩, ⟨12, 3, .bool false, H1⟩, ⟨12, 5, .tuple [], H2⟩] fun kf hk => ⟨_, by kernel_rfl, (oC (gS12) (oP H g0 (oP H g1 (oC (g2 kf) (oC (g3 kf) (oS g4 .nil))))))⟩
end Go.Proofs.Ytmhfkhlamnapdaa
end
section
open Go Go.HL
namespace Go.Proofs.Ytmhfkhlamnapdaa
def adjAdd (adj : List (List Nat)) (a b : Nat) : List (List Nat) := adj.set a ((adj.getD a []) ++ [b])
def adjStep (adj : List (List Nat)) (p : Int × Int) : List (List Nat) := adjAdd (adjAdd adj p.1.toNat p.2.toNat) p.2.toNat p.1.toNat
def adjGo (l : List (Int × Int)) (adj : List (List Nat)) : List (List Nat) := l.foldl adjStep adj
def adjOf (n : Nat) (l : List (Int × Int)) : List (List Nat) := adjGo l (List.replicate n [])
structure AInv (n k : Nat) (adj : List (List Nat)) : Prop where
  len : adj.length = n
  row : ∀ r ∈ adj, r.length ≤ k ∧ ∀ y ∈ r, y < n
theorem AInv.add {n k : Nat} {adj : List (List Nat)} (h : AInv n k adj) {a b : Nat} (ha : a < n) (hb : b < n) : AInv n (k + 1) (adjAdd adj a b) := by
  refine ⟨by simp [adjAdd, h.len], fun r hr => ?_⟩
  rcases List.mem_or_eq_of_mem_set hr with hr | rfl
  · have := h.row r hr
    exact ⟨by omega, this.2⟩
  · have hal : a < adj.length := by rw [h.len]; exact ha
    have hg : adj.getD a [] = adj[a] := by simp [List.getD, List.getElem?_eq_getElem hal]
    have := h.row _ (List.getElem_mem hal)
    rw [hg]
    refine ⟨by simp; exact this.1, fun y hy => ?_⟩
    rcases List.mem_append.1 hy with hy | hy
    · exact this.2 y hy
    · rw [List.mem_singleton] at hy; rw [hy]; exact hb
theorem AInv.init (n : Nat) : AInv n 0 (List.replicate n []) := by
  refine ⟨by simp, fun r hr => ?_⟩
  rw [(List.mem_replicate.1 hr).2]
  simp
def slOf (j : Nat) (r : List Nat) : HV := .sl (2 + j) 0 r.length none r.length 1
def slsF (adj : List (List Nat)) : List HV := adj.mapIdx slOf
theorem slsF_get (adj : List (List Nat)) (j : Nat) : (slsF adj)[j]? = (adj[j]?).map (slOf j) := by simp [slsF, List.getElem?_mapIdx]
theorem slsF_len (adj : List (List Nat)) : (slsF adj).length = adj.length := by simp [slsF]
theorem slsF_set (adj : List (List Nat)) (a : Nat) (r : List Nat) : (slsF adj).set a (slOf a r) = slsF (adj.set a r) := by
  apply List.ext_getElem?
  intro i
  rw [slsF_get, List.getElem?_set, List.getElem?_set, slsF_get, slsF_len]
  by_cases e : a = i
  · subst e
    by_cases h : a < adj.length
    · simp [h]
    · simp [h]
  · simp [e]
abbrev Zt : HV := .agg [.imm .lit 0 [], .nilmap]
abbrev trV (n : Nat) : HV := .agg [.sl 1 0 n (some n) n 1, .map (n + 2)]
structure TS (n : Nat) (adj : List (List Nat)) (H : Heap) : Prop where
  len : n + 4 ≤ H.length
  z : H[0]? = some (.arr 2 [Zt] true 0)
  near : ∃ mx, H[1]? = some (.arr 1 (slsF adj) true mx)
  rows : ∀ j r, adj[j]? = some r → H[2 + j]? = some (bNs r)
  mp : H[n + 2]? = some (.map [] [] 0)
  tr : ∃ mx, H[n + 3]? = some (.arr 2 [trV n] true mx)
  al : adj.length = n
  rf : sameH H H = true
theorem sameH_iff : ∀ {H : Heap}, sameH H H = true ↔ ∀ B ∈ H, sameH [B] [B] = true
  | [] => by simp [sameH]
  | B :: H => by
    have ih := sameH_iff (H := H)
    cases B with
    | arr k els w m => simp only [sameH, List.forall_mem_cons, ← ih, Bool.and_eq_true, and_true, Bool.and_true]
    | map ks vs m => simp only [sameH, List.forall_mem_cons, ← ih, Bool.and_eq_true, and_true, Bool.and_true]
    | dead => simp only [sameH, List.forall_mem_cons, ← ih, true_and]
theorem sameH_set {H : Heap} {B : Blk} {i : Nat} (h : sameH H H = true) (hB : sameH [B] [B] = true) : sameH (H.set i B) (H.set i B) = true := by
  rw [sameH_iff] at h ⊢
  intro C hC
  rcases List.mem_or_eq_of_mem_set hC with hC | rfl
  · exact h C hC
  · exact hB
theorem sameH_app {H : Heap} {B : Blk} (h : sameH H H = true) (hB : sameH [B] [B] = true) : sameH (H ++ [B]) (H ++ [B]) = true := by
  rw [sameH_iff] at h ⊢
  intro C hC
  rcases List.mem_append.1 hC with hC | hC
  · exact h C hC
  · rw [List.mem_singleton] at hC; rw [hC]; exact hB
theorem sameH_take {H : Heap} {k : Nat} (h : sameH H H = true) : sameH (H.take k) (H.take k) = true := by
  rw [sameH_iff] at h ⊢
  exact fun C hC => h C (List.mem_of_mem_take hC)
theorem sameL_all : ∀ {l : List HV}, (∀ v ∈ l, same v v = true) → sameL l l = true
  | [], _ => rfl
  | v :: l, h => by simp only [sameL, h v (by simp), sameL_all (l := l) (fun w hw => h w (by simp [hw])), Bool.and_self]
theorem same_arr {k m : Nat} {l : List HV} {w : Bool} (h : ∀ v ∈ l, same v v = true) : sameH [.arr k l w m] [.arr k l w m] = true := by
  simp [sameH, sameL_all h]
theorem same_N (q : List Nat) : sameH [bNs q] [bNs q] = true := same_arr fun v hv => by
  obtain ⟨k, _, rfl⟩ := List.mem_map.1 hv
  simp [encN, encI, same]
theorem same_sls (adj : List (List Nat)) (w : Bool) (m : Nat) : sameH [.arr 1 (slsF adj) w m] [.arr 1 (slsF adj) w m] = true := same_arr fun v hv => by
  obtain ⟨i, hi⟩ := List.getElem?_of_mem hv
  rw [slsF_get] at hi
  cases h : adj[i]? with
  | none => rw [h] at hi; cases hi
  | some r => rw [h] at hi; cases hi; simp [slOf, same]
theorem TS.ext {n : Nat} {adj : List (List Nat)} {H H' : Heap} (h : TS n adj H) (hk : ∀ k, k < n + 4 → H'[k]? = H[k]?) (hl : n + 4 ≤ H'.length) (hr : sameH H' H' = true) : TS n adj H' := by
  obtain ⟨mx, h1⟩ := h.near
  obtain ⟨mx', h2⟩ := h.tr
  refine ⟨hl, by rw [hk 0 (by omega)]; exact h.z, ⟨mx, by rw [hk 1 (by omega)]; exact h1⟩, fun j r hj => ?_, by rw [hk _ (by omega)]; exact h.mp, ⟨mx', by rw [hk _ (by omega)]; exact h2⟩, h.al, hr⟩
  have := lt_of_get hj
  rw [h.al] at this
  rw [hk _ (by omega)]; exact h.rows j r hj
theorem z24c : tySize Try.prog 24 = some 1 := by kernel_rfl
theorem a24c : tyAgg Try.prog 24 = false := by kernel_rfl
theorem i24c : (Try.prog.underlying 24).isSome = true := by kernel_rfl
theorem u33c' : Try.prog.underlying 33 = some (.array 2 3) := by kernel_rfl
theorem i55c : (Try.prog.underlying 55).isSome = true := by kernel_rfl
theorem a55c : tyAgg Try.prog 55 = false := by kernel_rfl
theorem TS.lnear {n : Nat} {adj : List (List Nat)} {H : Heap} (h : TS n adj H) : loadV Try.prog H 55 (.ptr (n + 3) 0 0 1) = some (.sl 1 0 n (some n) n 1) := by
  obtain ⟨mx, h2⟩ := h.tr
  exact load_cell (b := n + 3) (off := 0) h2 rfl rfl a55c i55c rfl
theorem TS.lrow {n : Nat} {adj : List (List Nat)} {H : Heap} (h : TS n adj H) {a : Nat} {r : List Nat} (ha : adj[a]? = some r) : loadV Try.prog H 24 (.ptr 1 a 0 n) = some (slOf a r) := by
  obtain ⟨mx, h1⟩ := h.near
  exact load_elem (b := 1) h1 (by rw [slsF_len]; exact h.al.symm) (by rw [slsF_get, ha]; rfl) rfl a24c i24c
theorem TS.addq {n : Nat} {adj : List (List Nat)} {H : Heap} (h : TS n adj H) {a : Nat} {r : List Nat} (ha : adj[a]? = some r) (hr : r.length ≤ 1000) (b : Nat) :
    ∃ H4 H5, appV H 1 8 (slOf a r) [.int .i64 (b : Int)] = some (slOf a (r ++ [b]), H4) ∧ storeV Try.prog H4 24 (.ptr 1 a 0 n) (slOf a (r ++ [b])) = some H5 ∧ TS n (adjAdd adj a b) H5 ∧
      H4.length = H.length ∧ H5.length = H.length ∧ (∀ k, k ≠ 2 + a → H4[k]? = H[k]?) ∧ (∀ k, k ≠ 2 + a → k ≠ 1 → H5[k]? = H[k]?) ∧ sameH H4 H4 = true := by
  have han : a < n := by have := lt_of_get ha; rw [h.al] at this; exact this
  obtain ⟨mx, hn⟩ := h.near
  obtain ⟨mx', ht⟩ := h.tr
  have hb := h.rows a r ha
  have hlt : 2 + a < H.length := lt_of_get hb
  have h1 : 1 < H.length := lt_of_get hn
  have hap := app_sl (H := H) (k := 1) (bytes := 8) (b := 2 + a) (n := r.length) (mx := 0) (els := r.map encN) (xs := [.int .i64 (b : Int)]) hb (by simp) (by simp) (by simp only [List.length_singleton, roomMax]; omega) rfl
  have e1 : slOf a (r ++ [b]) = .sl (2 + a) 0 (r.length + 1) none (r.length + 1) 1 := by simp [slOf]
  have e2 : r.map encN ++ [.int .i64 (b : Int)] = (r ++ [b]).map encN := by simp [encN, encI]
  have hn4 : (H.set (2 + a) (bNs (r ++ [b])))[1]? = some (.arr 1 (slsF adj) true mx) := by rw [List.getElem?_set_ne (by omega)]; exact hn
  have hg : (slsF adj)[a]? = some (slOf a r) := by rw [slsF_get, ha]; rfl
  have hset : adjAdd adj a b = adj.set a (r ++ [b]) := by simp [adjAdd, List.getD, ha]
  have hst : storeV Try.prog (H.set (2 + a) (bNs (r ++ [b]))) 24 (.ptr 1 a 0 n) (slOf a (r ++ [b])) = some ((H.set (2 + a) (bNs (r ++ [b]))).set 1 (.arr 1 (slsF (adjAdd adj a b)) true (max mx (2 + a + 1)))) := by
    have hc : cellsOf (slOf a r) = [slOf a r] := rfl
    have hc2 : cellsOf (slOf a (r ++ [b])) = [slOf a (r ++ [b])] := rfl
    have hcv : [slOf a (r ++ [b])].all cellV = true := rfl
    have hz := z24c
    simp only [storeV, hn4, hg, hc, hc2, hcv, hz, slsF_len, h.al, List.length_singleton]
    rw [if_pos ⟨trivial, trivial⟩, if_pos ⟨by omega, trivial, by omega⟩, hset, ← slsF_set]
    rfl
  have rf4 : sameH (H.set (2 + a) (bNs (r ++ [b]))) (H.set (2 + a) (bNs (r ++ [b]))) = true := sameH_set h.rf (same_N _)
  refine ⟨_, _, by rw [e1]; rw [e2] at hap; exact hap, hst, ?_, by simp, by simp, fun k hk => by rw [List.getElem?_set_ne (fun e => hk e.symm)], fun k hk hk1 => by rw [List.getElem?_set_ne (fun e => hk1 e.symm), List.getElem?_set_ne (fun e => hk e.symm)], rf4⟩
  refine ⟨by simp [h.len], ?_, ⟨max mx (2 + a + 1), ?_⟩, fun j s hj => ?_, ?_, ⟨mx', ?_⟩, by simp [adjAdd, h.al], sameH_set rf4 (same_sls _ _ _)⟩
  · rw [List.getElem?_set_ne (by omega), List.getElem?_set_ne (by omega)]; exact h.z
  · rw [List.getElem?_set_self (by simpa using h1)]
  · rw [List.getElem?_set_ne (by omega)]
    rw [hset, List.getElem?_set] at hj
    by_cases e : a = j
    · subst e
      rw [if_pos rfl, if_pos (lt_of_get ha)] at hj
      cases hj
      rw [List.getElem?_set_self hlt]
    · rw [if_neg e] at hj
      rw [List.getElem?_set_ne (by omega)]
      exact h.rows j s hj
  · rw [List.getElem?_set_ne (by omega), List.getElem?_set_ne (by omega)]; exact h.mp
  · rw [List.getElem?_set_ne (by omega), List.getElem?_set_ne (by omega)]; exact ht
end Go.Proofs.Ytmhfkhlamnapdaa
end
section
open Go Go.HL
namespace Go.Proofs.Ytmhfkhlamnapdaa
abbrev ntE (n : Int) (lc : List HV) (m : Nat) (v24 v25 v26 : HV) : Env := env46 (.int .i64 n) (.imm .arg 2 lc) (.ptr 0 0 0 1) (.bool false) (.ptr (m + 3) 0 0 1) .undef v24 v25 v26
theorem res46 : Try.f46.results.toList = [.cell 4 72, .tmp 5] := by kernel_rfl
theorem a72 : tyAgg Try.prog 72 = true := by kernel_rfl
theorem s72 : tySize Try.prog 72 = some 2 := by kernel_rfl
theorem a33c : tyAgg Try.prog 33 = true := by kernel_rfl
theorem s33c : tySize Try.prog 33 = some 2 := by kernel_rfl
abbrev bE (a b : Int) : Blk := .arr 2 [.agg [.int .i64 a, .int .i64 b]] true 0
theorem same_E (a b : Int) : sameH [bE a b] [bE a b] = true := by simp [sameH, sameL, same]
theorem e_new {n : Nat} {adj : List (List Nat)} {H : Heap} (h : TS n adj H) (a b : Int) : ∃ H0 H1, some (newV (.agg [.int .i64 0, .int .i64 0]) H) = some (HV.ptr H.length 0 0 1, H0) ∧ storeV Try.prog H0 33 (.ptr H.length 0 0 1) (.agg [.int .i64 a, .int .i64 b]) = some H1 ∧ TS n adj H1 ∧ H1[H.length]? = some (bE a b) ∧ H1.length = H.length + 1 ∧ (∀ k, k < H.length → H1[k]? = H[k]?) := by
  have hb : (H ++ [bE 0 0])[H.length]? = some (bE 0 0) := by simp
  have hst := store_agg (P := Try.prog) (t := 33) (i := 0) (tot := 1) (new := [.int .i64 a, .int .i64 b]) hb rfl rfl s33c rfl (by simp) rfl rfl
  have hk : ∀ k, k < H.length → ((H ++ [bE 0 0]).set H.length (bE a b))[k]? = H[k]? := fun k hk => by
    rw [List.getElem?_set_ne (by omega), List.getElem?_append_left hk]
  refine ⟨_, _, rfl, hst, ?_, by rw [List.set_cons_zero, List.getElem?_set_self (by simp)], by simp, hk⟩
  have hl := h.len
  exact h.ext (fun k hk2 => hk k (by omega)) (by simp; omega) (sameH_set (sameH_app h.rf (same_E 0 0)) (same_E a b))
theorem e_load {H : Heap} {q : Nat} {a b : Int} (h : H[q]? = some (bE a b)) : loadV Try.prog H 3 (.ptr q 0 0 1) = some (.int .i64 a) ∧ loadV Try.prog H 3 (.ptr q 0 1 1) = some (.int .i64 b) :=
  ⟨load_cell (b := q) (off := 0) h rfl rfl a3b i3b rfl, load_cell (b := q) (off := 1) h rfl rfl a3b i3b rfl⟩
theorem e_idx (q : Nat) : idxV Try.prog 33 (.ptr q 0 0 1) (.int .i64 0) = some (.ptr q 0 0 1) ∧ idxV Try.prog 33 (.ptr q 0 0 1) (.int .i64 1) = some (.ptr q 0 1 1) :=
  ⟨idx_arr (n := 0) u33c' z3b (by omega) (by decide), idx_arr (n := 1) u33c' z3b (by omega) (by decide)⟩
theorem m49 (x lo hi : Int) (b : Bool) (hb : decide (lo ≤ x ∧ x ≤ hi) = b) (H : Heap) : ∀ k, callN Try.prog polM (k + 1) 49 [.int .i64 x, .int .i64 lo, .int .i64 hi] H = some (.bool b, H) := fun k => by
  rw [prim_call (pol := polM) (g := 49) (F := withinF) (by kernel_rfl) (rs := [.int .i64 x, .int .i64 lo, .int .i64 hi]) rfl (res := .bool b) (by simp only [withinF, hb])]; rfl
theorem z_store {H : Heap} (h : H[0]? = some (.arr 2 [Zt] true 0)) : ∃ H', storeV Try.prog H 72 (.ptr 0 0 0 1) Zt = some H' ∧ loadV Try.prog H' 72 (.ptr 0 0 0 1) = some Zt := by
  have hst := store_agg (P := Try.prog) (t := 72) (i := 0) (tot := 1) (new := [.imm .lit 0 [], .nilmap]) h rfl rfl s72 rfl (by simp) rfl rfl
  exact ⟨_, hst, load_agg (b := 0) (by rw [List.getElem?_set_self (lt_of_get h)]) rfl rfl a72 s72⟩
theorem bad_res {E : Env} {H : Heap} (h4 : E.get 4 = .ptr 0 0 0 1) (h5 : E.get 5 = .bool false) (h : loadV Try.prog H 72 (.ptr 0 0 0 1) = some Zt) : resultsV Try.prog Try.f46 E H = some (.tuple [Zt, .bool false]) := by
  simp only [resultsV, res46, mapO, resultV, h4, h5, h]
theorem nt_loop (n : Nat) (hn : n ≤ 1000) (l : List (Int × Int)) (hl : l.length ≤ 100) : ∀ (d j : Nat) (adj : List (List Nat)) (H : Heap), j + d = l.length → TS n adj H → AInv n (2 * j) adj →
    ∃ x E H', RunsTo Try.prog polM 46 (sub [1, 1, 1, 0, 1, 0] B46) (ntE (n : Int) (l.map encP) n (.imm .arg 2 (l.map encP)) (.int .i64 (l.length : Int)) (.int .i64 (j : Int))) H x (polM.keys 46) E H' ∧
      (((l.drop j).all (validB (n : Int)) = true ∧ x = .exit 0 ∧ E = ntE (n : Int) (l.map encP) n (.imm .arg 2 (l.map encP)) (.int .i64 (l.length : Int)) (.int .i64 (l.length : Int)) ∧ TS n (adjGo (l.drop j) adj) H' ∧ AInv n (2 * l.length) (adjGo (l.drop j) adj)) ∨
       ((l.drop j).all (validB (n : Int)) = false ∧ x = .ret ∧ resultsV Try.prog Try.f46 E H' = some (.tuple [Zt, .bool false]))) := by
  intro d
  induction d with
  | zero =>
    intro j adj H hj hT hA
    have hj : j = l.length := by omega
    subst hj
    have s1 := nt_l_4 (n : Int) (l.map encP) n H l.length (by simp)
    rw [List.length_map] at s1
    exact ⟨_, _, _, RunsTo.loop_out s1 (by simp) (by kernel_rfl) (by kernel_rfl), .inl ⟨by simp, rfl, rfl, by simpa [adjGo] using hT, by simpa [adjGo] using hA⟩⟩
  | succ d ih =>
    intro j adj H hj hT hA
    have hjl : j < l.length := by omega
    rw [List.drop_eq_getElem_cons hjl, List.all_cons]
    generalize hp : l[j] = p
    obtain ⟨a, b⟩ := p
    have g1 : idxV Try.prog 22 (.imm .arg 2 (l.map encP)) (.int .i64 (j : Int)) = some (.vptr (.agg [.int .i64 a, .int .i64 b])) := idx_imm u22 z33 (by omega) (by rw [Int.toNat_natCast, List.getElem?_map, List.getElem?_eq_getElem hjl, hp]; rfl)
    have g0 : (j : Int) < ((l.map encP).length : Int) := by simp; omega
    have hml : ((l.map encP).length : Int) = (l.length : Int) := by simp
    obtain ⟨H0, H1, g2, g3, hT1, hq1, hl1, hk1⟩ := e_new hT a b
    have hqn : n + 4 ≤ H.length := hT.len
    obtain ⟨i0, i1⟩ := e_idx H.length
    obtain ⟨la, lb⟩ := e_load hq1
    have hwn : IntKind.i64.wrap ((n : Int) - 1) = (n : Int) - 1 := by rw [wrapI64]; omega
    by_cases ca : 0 ≤ a ∧ a ≤ IntKind.i64.wrap ((n : Int) - 1)
    · by_cases cb : 0 ≤ b ∧ b ≤ IntKind.i64.wrap ((n : Int) - 1)
      · by_cases cab : a = b
        · have hvb : validB (n : Int) (a, b) = false := by rw [validB]; exact decide_eq_false (fun h => h.2.2 cab)
          obtain ⟨H2, k1, k2⟩ := z_store hT1.z
          rw [hvb, Bool.false_and]
          have s1 := nt_l_0 (n : Int) (l.map encP) n H j a b _ H0 H1 _ a H1 _ b H1 _ a _ b H2 g0 g1 g2 g3 i0 la (m49 a 0 _ true (decide_eq_true ca) H1) i1 lb (m49 b 0 _ true (decide_eq_true cb) H1) i0 la i1 lb cab k1
          rw [hml] at s1
          exact ⟨_, _, _, RunsTo.loop_out s1 (by simp) (by kernel_rfl) (by kernel_rfl), .inr ⟨rfl, rfl, bad_res rfl rfl k2⟩⟩
        · have hvb : validB (n : Int) (a, b) = true := by rw [validB]; exact decide_eq_true ⟨by omega, by omega, cab⟩
          rw [hvb, Bool.true_and]
          obtain ⟨x, rfl⟩ : ∃ x : Nat, a = (x : Int) := ⟨a.toNat, by omega⟩
          obtain ⟨y, rfl⟩ : ∃ y : Nat, b = (y : Int) := ⟨b.toNat, by omega⟩
          have hx : x < n := by omega
          have hy : y < n := by omega
          -- the first end
          obtain ⟨rowx, rx⟩ : ∃ r, adj[x]? = some r := ⟨_, List.getElem?_eq_getElem (by rw [hA.len]; exact hx)⟩
          obtain ⟨H4, H5, ap4, st5, hT5, l4, l5, k4, k5, rf4⟩ := hT1.addq rx (by have := (hA.row _ (List.mem_of_getElem? rx)).1; omega) y
          have hA5 := hA.add hx hy
          have q4 : H4[H.length]? = some (bE (x : Int) (y : Int)) := by rw [k4 _ (by omega)]; exact hq1
          have q5 : H5[H.length]? = some (bE (x : Int) (y : Int)) := by rw [k5 _ (by omega) (by omega)]; exact hq1
          -- the other end
          obtain ⟨rowy, ry⟩ : ∃ r, (adjAdd adj x y)[y]? = some r := ⟨_, List.getElem?_eq_getElem (by rw [hA5.len]; exact hy)⟩
          obtain ⟨H6, H7, ap6, st7, hT7, l6, l7, k6, k7, rf6⟩ := hT5.addq ry (by have := (hA5.row _ (List.mem_of_getElem? ry)).1; omega) x
          have q6 : H6[H.length]? = some (bE (x : Int) (y : Int)) := by rw [k6 _ (by omega)]; exact q5
          have hA7 := hA5.add hy hx
          obtain ⟨la4, lb4⟩ := e_load q4
          obtain ⟨la5, lb5⟩ := e_load q5
          obtain ⟨la6, lb6⟩ := e_load q6
          have ln4 : loadV Try.prog H4 55 (.ptr (n + 3) 0 0 1) = some (.sl 1 0 n (some n) n 1) := by
            obtain ⟨mx, h2⟩ := hT1.tr
            exact load_cell (b := n + 3) (off := 0) (by rw [k4 _ (by omega)]; exact h2) rfl rfl a55c i55c rfl
          have ln6 : loadV Try.prog H6 55 (.ptr (n + 3) 0 0 1) = some (.sl 1 0 n (some n) n 1) := by
            obtain ⟨mx, h2⟩ := hT5.tr
            exact load_cell (b := n + 3) (off := 0) (by rw [k6 _ (by omega)]; exact h2) rfl rfl a55c i55c rfl
          have ix : ∀ w, w < n → idxV Try.prog 55 (.sl 1 0 n (some n) n 1) (.int .i64 ((w : Nat) : Int)) = some (.ptr 1 (((w : Nat) : Int).toNat) 0 n) := fun w hw => idx_sl u55b z24b (by omega) (by omega)
          have lr3 := hT1.lrow rx
          have lr5 := hT5.lrow ry
          have s1 := nt_l_1 (n : Int) (l.map encP) n H j (x : Int) (y : Int) _ H0 H1 _ _ H1 _ _ H1 _ _ _ _ _ _ _ _ _ _ _ H4 _ H5 _ _ _ _ _ _ _ H6 _ H7 g0 g1 g2 g3 i0 la (m49 _ 0 _ true (decide_eq_true ca) H1) i1 lb (m49 _ 0 _ true (decide_eq_true cb) H1) i0 la i1 lb cab
            hT1.lnear i0 la hT1.lnear i0 la (ix x hx) (by rw [Int.toNat_natCast]; exact lr3) i1 lb ap4 (ix x hx) (by rw [Int.toNat_natCast]; exact st5)
            (by
              have l1 := hT1.lnear
              have r1 := hT1.rf
              have sm : same (slOf x rowx) (slOf x rowx) = true := by simp [slOf, same]
              simp only [Int.toNat_natCast, l1, la, ln4, la4, lr3, Option.map, recL, r1, rf4, sm]
              simp [same])
            hT5.lnear i1 lb5 hT5.lnear i1 lb5 (ix y hy) (by rw [Int.toNat_natCast]; exact lr5) i0 la5 ap6 (ix y hy) (by rw [Int.toNat_natCast]; exact st7)
            (by
              have l1 := hT5.lnear
              have r1 := hT5.rf
              have sm : same (slOf y rowy) (slOf y rowy) = true := by simp [slOf, same]
              simp only [Int.toNat_natCast, l1, lb5, ln6, lb6, lr5, Option.map, recL, r1, rf6, sm]
              simp [same])
          rw [hml, wrap_succ (by omega)] at s1
          have hg := fun (r k : Nat) (hk : k < n + 4) => gc_get (base := H.length) (r := r) (H := H7) (k := k) (by omega)
          have hT8 : ∀ r, TS n (adjAdd (adjAdd adj x y) y x) (gc H.length r H7) := fun r => hT7.ext (fun k hk => hg r k hk) (by unfold gc; rw [List.length_take]; omega) (sameH_take hT7.rf)
          obtain ⟨x2, E, H', r2, h2⟩ := ih (j + 1) (adjAdd (adjAdd adj x y) y x) _ (by omega) (hT8 _) (by
            have : 2 * (j + 1) = 2 * j + 1 + 1 := by omega
            rw [this]; exact hA7)
          refine ⟨x2, E, H', RunsTo.loop s1 (by kernel_rfl) rfl r2 rfl (by kernel_rfl) (by kernel_rfl), ?_⟩
          have hgo : adjGo ((((x : Int), (y : Int)) : Int × Int) :: l.drop (j + 1)) adj = adjGo (l.drop (j + 1)) (adjAdd (adjAdd adj x y) y x) := by
            simp [adjGo, adjStep]
          rw [hgo]
          exact h2
      · have hvb : validB (n : Int) (a, b) = false := by rw [validB]; exact decide_eq_false (fun h => cb (by omega))
        obtain ⟨H2, k1, k2⟩ := z_store hT1.z
        rw [hvb, Bool.false_and]
        have s1 := nt_l_2 (n : Int) (l.map encP) n H j a b _ H0 H1 _ a H1 _ b H1 H2 g0 g1 g2 g3 i0 la (m49 a 0 _ true (decide_eq_true ca) H1) i1 lb (m49 b 0 _ false (decide_eq_false cb) H1) k1
        rw [hml] at s1
        exact ⟨_, _, _, RunsTo.loop_out s1 (by simp) (by kernel_rfl) (by kernel_rfl), .inr ⟨rfl, rfl, bad_res rfl rfl k2⟩⟩
    · have hvb : validB (n : Int) (a, b) = false := by rw [validB]; exact decide_eq_false (fun h => ca (by omega))
      obtain ⟨H2, k1, k2⟩ := z_store hT1.z
      rw [hvb, Bool.false_and]
      have s1 := nt_l_3 (n : Int) (l.map encP) n H j a b _ H0 H1 _ a H1 H2 g0 g1 g2 g3 i0 la (m49 a 0 _ false (decide_eq_false ca) H1) k1
      rw [hml] at s1
      exact ⟨_, _, _, RunsTo.loop_out s1 (by simp) (by kernel_rfl) (by kernel_rfl), .inr ⟨rfl, rfl, bad_res rfl rfl k2⟩⟩
end Go.Proofs.Ytmhfkhlamnapdaa
end
section
open Go Go.HL
namespace Go.Proofs.Ytmhfkhlamnapdaa
theorem info24n : (Try.prog.info? 24).map (fun i => (i.size, i.bytes, nilZero i)) = some (1, 24, true) := by kernel_rfl
theorem sls_init (n : Nat) : (List.range n).map (fun j => HV.sl (1 + 1 + j) 0 0 none 0 1) = slsF (List.replicate n []) := by
  apply List.ext_getElem?
  intro i
  rw [slsF_get, List.getElem?_map, List.getElem?_replicate]
  by_cases h : i < n
  · rw [List.getElem?_range h, if_pos h]; rfl
  · rw [List.getElem?_eq_none (by simp; omega), if_neg h]; rfl
theorem makeRows {n : Nat} (hn : n ≤ 1000) (B0 : Blk) : makeV Try.prog true 55 (.int .i64 (n : Int)) (.int .i64 (n : Int)) [B0] = some (.sl 1 0 n (some n) n 1, [B0] ++ [.arr 1 (slsF (List.replicate n [])) true (1 + 1 + n)] ++ List.replicate n (bNs [])) := by
  have hu : Try.prog.underlying 55 = some (.slice 24) := u55b
  have hi := info24n
  cases hi2 : Try.prog.info? 24 with
  | none => rw [hi2] at hi; cases hi
  | some i =>
    rw [hi2] at hi
    simp only [Option.map_some, Option.some.injEq, Prod.mk.injEq] at hi
    obtain ⟨h1, h2, h3⟩ := hi
    have hz : tySize Try.prog 3 = some 1 := z3b
    have hu2 : Try.prog.underlying 24 = some (.slice 3) := u24b
    simp only [makeV, hu, hi2, hu2, hz, h1, h2, h3, Int.toNat_natCast, List.length_singleton, sls_init]
    rw [if_pos ⟨by omega, by omega, by rw [show roomMax = 70368744177664 from rfl]; omega⟩, if_pos ⟨trivial, trivial⟩]
    rfl
theorem ts_init {n : Nat} (hn : n ≤ 1000) : ∃ H0 H1 H2 H3, makeV Try.prog true 55 (.int .i64 (n : Int)) (.int .i64 (n : Int)) [Blk.arr 2 [Zt] true 0] = some (.sl 1 0 n (some n) n 1, H0) ∧ some (HV.map H0.length, H0 ++ [Blk.map [] [] 0]) = some (HV.map (n + 2), H1) ∧ some (newV Zt H1) = some (HV.ptr (n + 3) 0 0 1, H2) ∧ storeV Try.prog H2 72 (.ptr (n + 3) 0 0 1) (trV n) = some H3 ∧ TS n (List.replicate n []) H3 := by
  have l0 : ([Blk.arr 2 [Zt] true 0] ++ [Blk.arr 1 (slsF (List.replicate n [])) true (1 + 1 + n)] ++ List.replicate n (bNs [])).length = n + 2 := by rw [List.length_append, List.length_append, List.length_replicate]; simp only [List.length_singleton]; omega
  generalize hH0 : [Blk.arr 2 [Zt] true 0] ++ [Blk.arr 1 (slsF (List.replicate n [])) true (1 + 1 + n)] ++ List.replicate n (bNs []) = H0 at l0
  have k0 : H0[0]? = some (Blk.arr 2 [Zt] true 0) := by rw [← hH0]; rfl
  have k1 : H0[1]? = some (Blk.arr 1 (slsF (List.replicate n [])) true (1 + 1 + n)) := by rw [← hH0]; rfl
  have kr : ∀ j, j < n → H0[2 + j]? = some (bNs []) := fun j hj => by
    rw [← hH0, List.getElem?_append_right (by simp)]
    simp only [List.length_append, List.length_singleton]
    rw [List.getElem?_replicate, if_pos (by omega)]
  have rf0 : sameH H0 H0 = true := by
    rw [sameH_iff, ← hH0]
    intro B hB
    simp only [List.mem_append, List.mem_singleton, List.mem_replicate] at hB
    rcases hB with (rfl | rfl) | ⟨_, rfl⟩
    · rfl
    · exact same_sls _ _ _
    · exact same_N []
  have lH1 : (H0 ++ [Blk.map [] [] 0]).length = n + 3 := by simp [l0]
  have hb : ((H0 ++ [Blk.map [] [] 0]) ++ [Blk.arr 2 [Zt] true 0])[n + 3]? = some (Blk.arr 2 [Zt] true 0) := by rw [List.getElem?_append_right (by omega), lH1]; simp
  have hst : storeV Try.prog ((H0 ++ [Blk.map [] [] 0]) ++ [Blk.arr 2 [Zt] true 0]) 72 (.ptr (n + 3) 0 0 1) (trV n) = some (((H0 ++ [Blk.map [] [] 0]) ++ [Blk.arr 2 [Zt] true 0]).set (n + 3) (Blk.arr 2 [trV n] true (max 0 (bnd (trV n))))) := by
    have hz := s72
    simp only [storeV, hb, cellsOf, hz, List.length_singleton, List.length_cons, List.length_nil]
    rw [if_pos ⟨trivial, trivial⟩]
    rfl
  refine ⟨_, _, _, _, by rw [makeRows hn, hH0], by rw [l0], by rw [newV, lH1]; rfl, hst, ?_⟩
  have gk : ∀ k, k < n + 3 → (((H0 ++ [Blk.map [] [] 0]) ++ [Blk.arr 2 [Zt] true 0]).set (n + 3) (Blk.arr 2 [trV n] true (max 0 (bnd (trV n)))))[k]? = (H0 ++ [Blk.map [] [] 0])[k]? := fun k hk => by
    rw [List.getElem?_set_ne (by omega), List.getElem?_append_left (by omega)]
  have gk2 : ∀ k, k < n + 2 → (((H0 ++ [Blk.map [] [] 0]) ++ [Blk.arr 2 [Zt] true 0]).set (n + 3) (Blk.arr 2 [trV n] true (max 0 (bnd (trV n)))))[k]? = H0[k]? := fun k hk => by
    rw [gk k (by omega), List.getElem?_append_left (by omega)]
  refine ⟨by simp [l0], by rw [gk2 0 (by omega)]; exact k0, ⟨_, by rw [gk2 1 (by omega)]; exact k1⟩, fun j r hj => ?_, by rw [gk _ (by omega), List.getElem?_append_right (by omega), l0]; simp, ⟨_, by rw [List.getElem?_set_self (by simp [l0])]⟩, by simp, ?_⟩
  · rw [List.getElem?_replicate] at hj
    split at hj
    · rename_i h
      cases hj
      rw [gk2 _ (by omega)]; exact kr j h
    · cases hj
  · refine sameH_set (sameH_app (sameH_app rf0 rfl) rfl) ?_
    simp [sameH, sameL, same]
def rowO (r : List Nat) : HV := .imm .own 1 (r.map encN)
def treeV (adj : List (List Nat)) : HV := .agg [.own 1 (adj.map rowO), .omap [] []]
theorem toArg_nats (H : Heap) (d : Nat) : ∀ (q : List Nat), mapO (toArg H (d + 1)) (q.map encN) = some (q.map encN)
  | [] => rfl
  | a :: q => by
    have e : toArg H (d + 1) (encN a) = some (encN a) := rfl
    simp only [List.map_cons, mapO, e, toArg_nats H d q]
theorem toArg_row {n : Nat} {adj : List (List Nat)} {H : Heap} (h : TS n adj H) {j : Nat} {r : List Nat} (hj : adj[j]? = some r) (d : Nat) : toArg H (d + 2) (slOf j r) = some (encR r) := by
  have e : toArg H (d + 2) (slOf j r) = if r.length = 0 then some (.imm .arg 1 []) else match view H (2 + j) 0 r.length r.length 1 with | some l => (match mapO (toArg H (d + 1)) l with | some l => some (.imm .arg 1 l) | none => none) | none => none := rfl
  rw [e]
  split
  · rename_i h0
    rw [List.length_eq_zero_iff.1 h0]; rfl
  · have hv : view H (2 + j) 0 r.length r.length 1 = some (r.map encN) := by
      simp only [view, h.rows j r hj, List.length_map]
      rw [if_pos ⟨trivial, by omega, trivial⟩]
      simp [List.take_of_length_le]
    rw [hv]
    simp only [toArg_nats]
    rfl
theorem mapO_all {f : HV → Option HV} {g : List Nat → HV} : ∀ {l : List HV} {adj : List (List Nat)}, l.length = adj.length → (∀ (j : Nat) v r, l[j]? = some v → adj[j]? = some r → f v = some (g r)) → mapO f l = some (adj.map g)
  | [], [], _, _ => rfl
  | v :: l, r :: adj, hl, h => by
    have h0 := h 0 v r rfl rfl
    have ih := mapO_all (f := f) (g := g) (l := l) (adj := adj) (by simpa using hl) (fun j v r hv hr => h (j + 1) v r hv hr)
    simp only [mapO, h0, ih, List.map_cons]
structure TR (n : Nat) (adj : List (List Nat)) (H : Heap) : Prop where
  near : ∃ mx, H[1]? = some (.arr 1 (slsF adj) true mx)
  rows : ∀ j r, adj[j]? = some r → H[2 + j]? = some (bNs r)
  mp : H[n + 2]? = some (.map [] [] 0)
  al : adj.length = n
theorem TS.tr' {n : Nat} {adj : List (List Nat)} {H : Heap} (h : TS n adj H) : TR n adj H := ⟨h.near, h.rows, h.mp, h.al⟩
theorem TR.set0 {n : Nat} {adj : List (List Nat)} {H : Heap} (h : TR n adj H) (B : Blk) : TR n adj (H.set 0 B) := by
  obtain ⟨mx, h1⟩ := h.near
  exact ⟨⟨mx, by rw [List.getElem?_set_ne (by omega)]; exact h1⟩, fun j r hj => by rw [List.getElem?_set_ne (by omega)]; exact h.rows j r hj, by rw [List.getElem?_set_ne (by omega)]; exact h.mp, h.al⟩
theorem view_near {n : Nat} {adj : List (List Nat)} {H : Heap} (h : TR n adj H) : view H 1 0 n n 1 = some (slsF adj) := by
  obtain ⟨mx, h1⟩ := h.near
  simp only [view, h1, slsF_len, h.al]
  rw [if_pos ⟨trivial, by omega, trivial⟩, List.drop_zero, List.take_of_length_le (by rw [slsF_len, h.al]; omega)]
theorem toArg_tree {n : Nat} (h0 : 0 < n) {adj : List (List Nat)} {H : Heap} (h : TS n adj H) : toArg H 6 (trV n) = some (.agg [.imm .arg 1 (adj.map encR), .imap .arg [] []]) := by
  have e : toArg H 6 (trV n) = match mapO (toArg H 5) [.sl 1 0 n (some n) n 1, .map (n + 2)] with | some l => some (.agg l) | none => none := rfl
  have e1 : toArg H 5 (.sl 1 0 n (some n) n 1) = some (.imm .arg 1 (adj.map encR)) := by
    have e : toArg H 5 (.sl 1 0 n (some n) n 1) = if n = 0 then some (.imm .arg 1 []) else match view H 1 0 n n 1 with | some l => (match mapO (toArg H 4) l with | some l => some (.imm .arg 1 l) | none => none) | none => none := rfl
    rw [e, if_neg (by omega), view_near h.tr']
    have := mapO_all (f := toArg H 4) (g := encR) (l := slsF adj) (adj := adj) (slsF_len adj) (fun j v r hv hr => by
      rw [slsF_get, hr] at hv
      cases hv
      exact toArg_row h hr 2)
    simp only [this]
  have e2 : toArg H 5 (.map (n + 2)) = some (.imap .arg [] []) := by
    have e : toArg H 5 (.map (n + 2)) = match H[n + 2]? with | some (.map ks vs _) => (match mapO (toArg H 4) ks, mapO (toArg H 4) vs with | some ks, some vs => some (.imap .arg ks vs) | _, _ => none) | _ => none := rfl
    rw [e, h.mp]; rfl
  rw [e]
  simp only [mapO, e1, e2]
theorem toRes_tree {n : Nat} (h0 : 0 < n) {adj : List (List Nat)} {H : Heap} (h : TR n adj H) (b : Bool) : toRes H false (.tuple [trV n, .bool b]) = some (.tuple [treeV adj, .bool b]) := by
  obtain ⟨mx, h1⟩ := h.near
  have ho : ownedAll H false (.tuple [trV n, .bool b]) = [1, n + 2] := by
    simp only [ownedAll, List.flatMap_cons, List.flatMap_nil, cellsOf, owned, h1, h.mp]
    rfl
  have hr : resCell H [1, n + 2] false (.sl 1 0 n (some n) n 1) = some (.own 1 (adj.map rowO)) := by
    simp only [resCell, h1, if_true, view_near h]
    have := mapO_all (f := resElem H [1, n + 2] false) (g := rowO) (l := slsF adj) (adj := adj) (slsF_len adj) (fun j v r hv hr => by
      rw [slsF_get, hr] at hv
      cases hv
      have hjn : j < n := by have := lt_of_get hr; rw [h.al] at this; exact this
      have e : resElem H [1, n + 2] false (slOf j r) = if r.length = 0 then some (.imm .own 1 []) else if [1, n + 2].contains (2 + j) then none else match view H (2 + j) 0 r.length r.length 1 with | some l => (match mapO (frz H [1, n + 2] 3) l with | some l => some (.imm .own 1 l) | none => none) | none => none := rfl
      rw [e]
      split
      · rename_i h0
        rw [List.length_eq_zero_iff.1 h0]; rfl
      · have hc : [1, n + 2].contains (2 + j) = false := by simp; omega
        have hv : view H (2 + j) 0 r.length r.length 1 = some (r.map encN) := by
          simp only [view, h.rows j r hr, List.length_map]
          rw [if_pos ⟨trivial, by omega, trivial⟩]
          simp [List.take_of_length_le]
        rw [if_neg (by rw [hc]; simp), hv]
        have hf : mapO (frz H [1, n + 2] 3) (r.map encN) = some (r.map encN) := mapO_self (f := frz H [1, n + 2] 3) (g := encN) (fun k => frz_int 3 (k : Int)) r
        simp only [hf]
        rfl)
    simp only [this]
  have hm : resCell H [1, n + 2] false (.map (n + 2)) = some (.omap [] []) := by
    simp only [resCell, h.mp]; rfl
  have hnd : ([1, n + 2] : List Nat).Nodup := by simp
  simp only [toRes, ho, hnd, if_true]
  have e1 : resVal H [1, n + 2] false (trV n) = some (treeV adj) := by
    simp only [resVal, mapO, hr, hm]; rfl
  have e2 : resVal H [1, n + 2] false (.bool b) = some (.bool b) := rfl
  simp only [mapO, e1, e2]
end Go.Proofs.Ytmhfkhlamnapdaa
end
section
open Go Go.HL
namespace Go.Proofs.Ytmhfkhlamnapdaa
def reached (o : List Int) : Bool := o.all fun v => decide (0 ≤ v)
def rTree (n : Int) (l : List (Int × Int)) : Bool := decide ((1 ≤ n ∧ n ≤ 30) ∧ (l.length : Int) = n - 1) && (l.all (validB n) && reached (rfarF n.toNat l 0))
def tree18 : List HV → Option HV
  | [.int .i64 n, .imm .arg 2 lc] => match mapO decP lc with | some l => some (.bool (rTree n l)) | none => none
  | _ => none
theorem bIn_len (c : Int) : ∀ (l : List Nat) (s : List Int × List Nat), (bIn c l s).1.length = s.1.length
  | [], _ => rfl
  | y :: l, s => by
    rw [bIn, bIn_len c l]
    split <;> simp
theorem bGo_len (nb : Nat → List Nat) : ∀ (d i : Nat) (s : List Int × List Nat), (bGo nb d i s).1.length = s.1.length
  | 0, _, _ => rfl
  | d + 1, i, s => by
    rw [bGo]
    split
    · rw [bGo_len nb d, bIn_len]
    · rfl
theorem bfs_len (nb : Nat → List Nat) (n x : Nat) : (bfs nb n x).length = n := by
  rw [bfs, bGo_len]; simp [bInit]
end Go.Proofs.Ytmhfkhlamnapdaa
end
section
open Go Go.HL
namespace Go.Proofs.Ytmhfkhlamnapdaa
theorem good_res {E : Env} {H : Heap} {b : Bool} {v : HV} (h4 : E.get 4 = .ptr 0 0 0 1) (h5 : E.get 5 = .bool b) (h : loadV Try.prog H 72 (.ptr 0 0 0 1) = some v) : resultsV Try.prog Try.f46 E H = some (.tuple [v, .bool b]) := by
  simp only [resultsV, res46, mapO, resultV, h4, h5, h]
def farOk (adj : List (List Nat)) : Bool := decide ((-1 : Int) ∉ farF adj 0)
def newTreeF (n : Int) (l : List (Int × Int)) : HV :=
  if ((1 ≤ n ∧ n ≤ 30) ∧ (l.length : Int) = n - 1) ∧ l.all (validB n) = true then .tuple [treeV (adjOf n.toNat l), .bool (farOk (adjOf n.toNat l))] else .tuple [.agg [.own 0 [], .nilmap], .bool false]
def newTree46 : List HV → Option HV
  | [.int .i64 n, .imm .arg 2 lc] => match mapO decP lc with | some l => some (newTreeF n l) | none => none
  | _ => none
theorem ainv_ok {n k : Nat} (hk : k ≤ 1000) {adj : List (List Nat)} (h : AInv n k adj) : rowsOk adj = true := rowsOk_iff.2 fun r hr => by
  have := h.row r hr
  rw [h.len]
  exact ⟨by omega, this.2⟩
theorem m50 {n k : Nat} (h0 : 0 < n) (hn : n ≤ 1000) (hk : k ≤ 1000) {adj : List (List Nat)} {H : Heap} (hT : TS n adj H) (hA : AInv n k adj) : ∀ kf, callN Try.prog polM (kf + 1) 50 [trV n, .int .i64 0] H = some (.sl H.length 0 n none n 1, H ++ [bI (farF adj 0)]) := fun kf => by
  rw [prim_call (pol := polM) (g := 50) (F := far50) (by kernel_rfl) (rs := [.agg [.imm .arg 1 (adj.map encR), .imap .arg [] []], .int .i64 0]) (by simp only [mapO, toArg_tree h0 hT]; rfl) (res := .own 1 ((farF adj 0).map encI)) (by
    simp only [far50, mapO_map decR_enc]
    rw [if_pos ⟨⟨by rw [hA.len]; exact hn, ainv_ok hk hA⟩, by omega, by rw [hA.len]; omega⟩]; rfl)]
  have hno : ((farF adj 0).map encI).any isOwn = false := by
    rw [List.any_eq_false]
    intro v hv
    obtain ⟨k, _, rfl⟩ := List.mem_map.1 hv
    simp [encI, isOwn]
  have hlen : (farF adj 0).length = n := by rw [farF, bfs_len]; exact hA.len
  simp only [recv, recvVal, recvCell, hno, List.length_map, hlen]
  rfl
theorem m52 {n : Nat} (hn : n ≤ 1000) (o : List Int) (ho : o.length = n) (H : Heap) (q : Nat) (hq : H[q]? = some (bI o)) : ∀ kf, callN Try.prog polM (kf + 1) 52 [.sl q 0 n none n 1, .int .i64 (-1)] H = some (.bool (decide ((-1 : Int) ∈ o)), H) := fun kf => by
  have e : toArg H 6 (.sl q 0 n none n 1) = some (.imm .arg 1 (o.map encI)) := by
    have e : toArg H 6 (.sl q 0 n none n 1) = if n = 0 then some (.imm .arg 1 []) else match view H q 0 n n 1 with | some l => (match mapO (toArg H 5) l with | some l => some (.imm .arg 1 l) | none => none) | none => none := rfl
    rw [e]
    split
    · rename_i h0
      rw [h0] at ho
      rw [List.length_eq_zero_iff.1 ho]; rfl
    · have hv : view H q 0 n n 1 = some (o.map encI) := by
        simp only [view, hq, List.length_map, ho]
        rw [if_pos ⟨trivial, by omega, trivial⟩, List.drop_zero, List.take_of_length_le (by rw [List.length_map]; omega)]
      have hm : mapO (toArg H 5) (o.map encI) = some (o.map encI) := mapO_self (f := toArg H 5) (g := encI) (fun _ => rfl) o
      rw [hv]
      simp only [hm]
  rw [prim_call (pol := polM) (g := 52) (F := contains52) (by kernel_rfl) (rs := [.imm .arg 1 (o.map encI), .int .i64 (-1)]) (by simp only [mapO, e]; rfl) (res := .bool (decide ((-1 : Int) ∈ o))) (by simp only [contains52, mapO_map decI_enc]; rw [if_pos (by omega)])]; rfl
theorem newTree_ok : PrimOk Try.prog 46 newTree46 := by
  refine primOk_pure (pol := polM) (fn := Try.f46) (cd := B46) follows_mixed soundM (by kernel_rfl) (by kernel_rfl) (fnok polM.prim _ _ (by kernel_rfl)) (by kernel_rfl) ?_
  intro args res h
  unfold newTree46 at h
  split at h
  · rename_i n lc
    split at h
    · rename_i l hlc
      cases h
      rw [mapO_inv decP_inv hlc]
      have a1 := nt_a_0 n (l.map encP)
      have hml : ((l.map encP).length : Int) = (l.length : Int) := by simp
      have bad : ∀ E H, RunsTo Try.prog polM 46 (sub [1] B46) (env46 (.int .i64 n) (.imm .arg 2 (l.map encP)) (.ptr 0 0 0 1) (.bool false) .undef .undef .undef .undef .undef) [.arr 2 [Zt] true 0] .ret (polM.keys 46) E H → resultsV Try.prog Try.f46 E H = some (.tuple [Zt, .bool false]) →
          ¬ (((1 ≤ n ∧ n ≤ 30) ∧ (l.length : Int) = n - 1) ∧ l.all (validB n) = true) → ∃ x E H' v, RunsTo Try.prog polM 46 B46 (args0 [.int .i64 n, .imm .arg 2 (l.map encP)]) [] x (polM.keys 46) E H' ∧ (∀ i, x ≠ .exit i) ∧ resultsV Try.prog Try.f46 E H' = some v ∧ toRes H' (polM.deep 46) v = some (newTreeF n l) := by
        intro E H t hr hc
        refine ⟨_, _, _, _, RunsTo.seq a1 t (c := B46) (by kernel_rfl) (by kernel_rfl), by simp, hr, ?_⟩
        rw [newTreeF, if_neg hc]; rfl
      have lz : loadV Try.prog [.arr 2 [Zt] true 0] 72 (.ptr 0 0 0 1) = some Zt := load_agg (b := 0) rfl rfl rfl a72 s72
      by_cases c1 : 1 ≤ n ∧ n ≤ 30
      · by_cases c2 : (l.length : Int) = n - 1
        · obtain ⟨m, rfl⟩ : ∃ m : Nat, n = (m : Int) := ⟨n.toNat, by omega⟩
          have hw : IntKind.i64.wrap ((m : Int) - 1) = (m : Int) - 1 := by rw [wrapI64]; omega
          have b1 := nt_b_0 (m : Int) (l.map encP) (m49 _ _ _ true (decide_eq_true c1) _) (by rw [hml, hw]; exact c2)
          obtain ⟨H0, H1, H2, H3, g0, g1, g2, g3, hT⟩ := ts_init (n := m) (by omega)
          have d1 := nt_c_0 (m : Int) (l.map encP) m [.arr 2 [Zt] true 0] H0 H1 H2 H3 g0 g1 g2 g3
          have e1 := nt_d_0 (m : Int) (l.map encP) m H3
          rw [hml] at e1
          obtain ⟨x, E, H', r1, h1⟩ := nt_loop m (by omega) l (by omega) l.length 0 (List.replicate m []) H3 (by omega) hT (AInv.init m)
          rw [List.drop_zero] at h1
          rcases h1 with ⟨hv, rfl, rfl, hT2, hA2⟩ | ⟨hv, rfl, hres⟩
          · have t1 := RunsTo.seq e1 (RunsTo.block_exit (c := sub [1, 1, 1, 0, 1] B46) r1 (by kernel_rfl)) (c := sub [1, 1, 1, 0] B46) (by kernel_rfl) (by kernel_rfl)
            have hfl : (farF (adjGo l (List.replicate m [])) 0).length = m := by rw [farF, bfs_len]; exact hA2.len
            have c50 := m50 (by omega) (by omega) (by omega) hT2 hA2
            generalize hadj : adjGo l (List.replicate m []) = adj at hT2 hA2 hfl c50
            have hq : (H' ++ [bI (farF adj 0)])[H'.length]? = some (bI (farF adj 0)) := by simp
            have c52 := m52 (n := m) (by omega) (farF adj 0) hfl (H' ++ [bI (farF adj 0)]) H'.length hq
            have hlt : m + 4 ≤ H'.length := hT2.len
            have hT3 : TS m adj (H' ++ [bI (farF adj 0)]) := hT2.ext (fun k hk => by rw [List.getElem?_append_left (by omega)]) (by simp; omega) (sameH_app hT2.rf (same_arr fun v hv => by
              obtain ⟨k, _, rfl⟩ := List.mem_map.1 hv
              simp [encI, same]))
            have lt2 : ∀ {H : Heap}, TS m adj H → loadV Try.prog H 72 (.ptr (m + 3) 0 0 1) = some (trV m) := fun hT => by
              obtain ⟨mx, h2⟩ := hT.tr
              exact load_agg (b := m + 3) h2 rfl rfl a72 s72
            have hst : storeV Try.prog (H' ++ [bI (farF adj 0)]) 72 (.ptr 0 0 0 1) (trV m) = some ((H' ++ [bI (farF adj 0)]).set 0 (.arr 2 [trV m] true (max 0 (bnd (trV m))))) := by
              have hz := s72
              simp only [storeV, hT3.z, cellsOf, hz, List.length_singleton, List.length_cons, List.length_nil]
              rw [if_pos ⟨trivial, trivial⟩]
              rfl
            have l1 := lt2 hT2
            have l2 := lt2 hT3
            have sm : same (trV m) (trV m) = true := by simp [same, sameL]
            have gS : (recL ((loadV Try.prog H' 72 (.ptr (m + 3) 0 0 1)).map (fun v => (v, (H' : Heap)))) ((loadV Try.prog (H' ++ [bI (farF adj 0)]) 72 (.ptr (m + 3) 0 0 1)).map (fun v => (v, ((H' ++ [bI (farF adj 0)]) : Heap)))) H' (H' ++ [bI (farF adj 0)]) && (recL ((loadV Try.prog H' 72 (.ptr (m + 3) 0 0 1)).map (fun v => (v, (H' : Heap)))) ((loadV Try.prog (H' ++ [bI (farF adj 0)]) 72 (.ptr (m + 3) 0 0 1)).map (fun v => (v, ((H' ++ [bI (farF adj 0)]) : Heap)))) H' (H' ++ [bI (farF adj 0)]) && true)) = true := by
              have r1 := hT2.rf
              have r2 := hT3.rf
              simp only [l1, l2, Option.map, recL, sm, r1, r2, Bool.and_self]
            have up : ∀ E H, RunsTo Try.prog polM 46 (sub [1, 1, 1, 1] B46) (ntE (m : Int) (l.map encP) m (.imm .arg 2 (l.map encP)) (.int .i64 (l.length : Int)) (.int .i64 (l.length : Int))) H' .ret (polM.keys 46) E H → RunsTo Try.prog polM 46 B46 (args0 [.int .i64 (m : Int), .imm .arg 2 (l.map encP)]) [] .ret (polM.keys 46) E H := by
              intro E H t
              have t2 := RunsTo.seq t1 t (c := sub [1, 1, 1] B46) (by kernel_rfl) (by kernel_rfl)
              have t3 := RunsTo.seq d1 t2 (c := sub [1, 1] B46) (by kernel_rfl) (by kernel_rfl)
              have t4 := RunsTo.seq b1 t3 (c := sub [1] B46) (by kernel_rfl) (by kernel_rfl)
              exact RunsTo.seq a1 t4 (c := B46) (by kernel_rfl) (by kernel_rfl)
            have hF : newTreeF (m : Int) l = .tuple [treeV adj, .bool (farOk adj)] := by
              rw [newTreeF, if_pos ⟨⟨c1, c2⟩, hv⟩, Int.toNat_natCast, adjOf, hadj]
            have lz2 : loadV Try.prog ((H' ++ [bI (farF adj 0)]).set 0 (.arr 2 [trV m] true (max 0 (bnd (trV m))))) 72 (.ptr 0 0 0 1) = some (trV m) :=
              load_agg (b := 0) (by rw [List.getElem?_set_self (by simp)]) rfl rfl a72 s72
            have hTR := toRes_tree (by omega) (hT3.tr'.set0 (.arr 2 [trV m] true (max 0 (bnd (trV m)))))
            by_cases hin : (-1 : Int) ∈ farF adj 0
            · have z1 := nt_z_0 (m : Int) (l.map encP) m H' l.length _ _ _ _ l1 l1 c50 (by rw [decide_eq_true hin] at c52; exact c52) hst gS
              rw [hml] at z1
              refine ⟨_, _, _, _, up _ _ z1, by simp, good_res rfl rfl lz2, ?_⟩
              rw [hF, farOk, decide_eq_false (fun h => h hin)]
              exact hTR false
            · have z1 := nt_z_1 (m : Int) (l.map encP) m H' l.length _ _ _ _ l1 l1 c50 (by rw [decide_eq_false hin] at c52; exact c52) hst gS
              rw [hml] at z1
              refine ⟨_, _, _, _, up _ _ z1, by simp, good_res rfl rfl lz2, ?_⟩
              rw [hF, farOk, decide_eq_true hin]
              exact hTR true
          · have t1 := RunsTo.seq e1 (RunsTo.block_ret (i := 0) (c := sub [1, 1, 1, 0, 1] B46) r1 (by kernel_rfl)) (c := sub [1, 1, 1, 0] B46) (by kernel_rfl) (by kernel_rfl)
            have t2 := RunsTo.seq_out t1 (by simp) (c := sub [1, 1, 1] B46) (b := sub [1, 1, 1, 1] B46) (by kernel_rfl)
            have t3 := RunsTo.seq d1 t2 (c := sub [1, 1] B46) (by kernel_rfl) (by kernel_rfl)
            have t4 := RunsTo.seq b1 t3 (c := sub [1] B46) (by kernel_rfl) (by kernel_rfl)
            exact bad _ _ t4 hres (fun h => by rw [hv] at h; exact absurd h.2 (by simp))
        · have hw : IntKind.i64.wrap (n - 1) = n - 1 := by rw [wrapI64]; omega
          have b1 := nt_b_1 n (l.map encP) (m49 _ _ _ true (decide_eq_true c1) _) (by rw [hml, hw]; exact c2)
          exact bad _ _ (RunsTo.seq_out b1 (by simp) (c := sub [1] B46) (b := sub [1, 1] B46) (by kernel_rfl)) (bad_res rfl rfl lz) (fun h => c2 h.1.2)
      · have b1 := nt_b_2 n (l.map encP) (m49 _ _ _ false (decide_eq_false c1) _)
        exact bad _ _ (RunsTo.seq_out b1 (by simp) (c := sub [1] B46) (b := sub [1, 1] B46) (by kernel_rfl)) (bad_res rfl rfl lz) (fun h => c1 h.1.1)
    · cases h
  · cases h
end Go.Proofs.Ytmhfkhlamnapdaa
end
section
open Go Go.HL
namespace Go.Proofs.Ytmhfkhlamnapdaa
def ins (x : Int) (s : List Int) : List Int := if x ∈ s then s else s ++ [x]
def okC (nr : Int → Int → Bool) (kn bz : List Int) (p : Int × Int) : Bool := nr p.1 p.2 && (decide (p.1 ∈ kn) && (decide (p.2 ∉ kn) && (decide (p.1 ∉ bz) && decide (p.2 ∉ bz))))
def rdGo (nr : Int → Int → Bool) (kn : List Int) : List (Int × Int) → List Int → Bool
  | [], _ => true
  | p :: l, bz => okC nr kn bz p && rdGo nr kn l (ins p.2 (ins p.1 bz))
def learn (l : List (Int × Int)) (kn : List Int) : List Int := l.foldl (fun k p => ins p.2 k) kn
def ckGo (nr : Int → Int → Bool) : List (List (Int × Int)) → List Int → Option (List Int)
  | [], kn => some kn
  | r :: R, kn => if rdGo nr kn r [] = true then ckGo nr R (learn r kn) else none
def spOk (nr : Int → Int → Bool) (n : Int) (x : Int) (R : List (List (Int × Int))) : Bool := match ckGo nr R [x] with | some kn => decide (n ≤ (kn.length : Int)) | none => false
abbrev mapB (ks : List Int) (mx : Nat) : Blk := .map (ks.map encI) (ks.map fun _ => .bool true) mx
end Go.Proofs.Ytmhfkhlamnapdaa
end
section
open Go Go.HL
namespace Go.Proofs.Ytmhfkhlamnapdaa
def rowI (r : List Nat) : List Int := r.map fun k : Nat => (k : Int)
theorem rowI_enc (r : List Nat) : r.map encN = (rowI r).map encI := by simp [rowI, encN]
def nrA (n : Nat) (adj : List (List Nat)) (a b : Int) : Bool := decide (0 ≤ a ∧ a ≤ (n : Int) - 1) && decide (b ∈ rowI (adj.getD a.toNat []))
structure CS (n : Nat) (adj : List (List Nat)) (kn : List Int) (H : Heap) : Prop where
  near : H[0]? = some (.arr 1 (adj.map rowO) true 0)
  tree : H[2]? = some (.arr 2 [.agg [.sl 0 0 n none n 1, .map 1]] true 2)
  known : ∃ mx, H[3]? = some (mapB kn mx)
theorem CS.ext {n : Nat} {adj : List (List Nat)} {kn : List Int} {H H' : Heap} (h : CS n adj kn H) (hk : ∀ k, k < 4 → H'[k]? = H[k]?) : CS n adj kn H' := by
  obtain ⟨mx, h1⟩ := h.known
  exact ⟨by rw [hk 0 (by omega)]; exact h.near, by rw [hk 2 (by omega)]; exact h.tree, ⟨mx, by rw [hk 3 (by omega)]; exact h1⟩⟩
theorem CS.four {n : Nat} {adj : List (List Nat)} {kn : List Int} {H : Heap} (h : CS n adj kn H) : 4 ≤ H.length := by
  obtain ⟨mx, h1⟩ := h.known
  have := lt_of_get h1; omega
def encRd (r : List (Int × Int)) : HV := .imm .arg 2 (r.map encP)
def decRd : HV → Option (List (Int × Int)) | .imm .arg 2 l => mapO decP l | _ => none
theorem decRd_enc (r : List (Int × Int)) : decRd (encRd r) = some r := mapO_map decP_enc r
theorem decRd_inv (b : HV) (a : List (Int × Int)) (h : decRd b = some a) : b = encRd a := by
  unfold decRd at h
  split at h
  · rw [mapO_inv decP_inv h]; rfl
  · cases h
theorem u44b : Try.prog.underlying 44 = some (.slice 22) := by kernel_rfl
theorem z22b : tySize Try.prog 22 = some 1 := by kernel_rfl
end Go.Proofs.Ytmhfkhlamnapdaa
end
section
open Go Go.HL
namespace Go.Proofs.Ytmhfkhlamnapdaa
theorem adjGo_inv {n : Nat} : ∀ (l : List (Int × Int)) (k : Nat) (adj : List (List Nat)), (∀ p ∈ l, validB (n : Int) p = true) → AInv n k adj → AInv n (k + 2 * l.length) (adjGo l adj)
  | [], k, adj, _, h => by simpa [adjGo] using h
  | p :: l, k, adj, hv, h => by
    have h1 := hv p (by simp)
    rw [validB, decide_eq_true_eq] at h1
    have hA := (h.add (a := p.1.toNat) (b := p.2.toNat) (by omega) (by omega)).add (a := p.2.toNat) (b := p.1.toNat) (by omega) (by omega)
    have := adjGo_inv l (k + 1 + 1) (adjStep adj p) (fun q hq => hv q (by simp [hq])) hA
    have e : k + 1 + 1 + 2 * l.length = k + 2 * (p :: l).length := by simp; omega
    rw [e] at this
    exact this
theorem AInv.mono {n k k' : Nat} {adj : List (List Nat)} (h : AInv n k adj) (hk : k ≤ k') : AInv n k' adj := ⟨h.len, fun r hr => ⟨by have := (h.row r hr).1; omega, (h.row r hr).2⟩⟩
theorem adjOf_inv {n : Nat} {l : List (Int × Int)} (hv : ∀ p ∈ l, validB (n : Int) p = true) : AInv n (2 * l.length) (adjOf n l) := by
  have := adjGo_inv l 0 _ hv (AInv.init n)
  rw [Nat.zero_add] at this
  exact this
def treeOk (n : Int) (l : List (Int × Int)) : Bool := decide (((1 ≤ n ∧ n ≤ 30) ∧ (l.length : Int) = n - 1) ∧ l.all (validB n) = true) && farOk (adjOf n.toNat l)
def checkF (n : Int) (l : List (Int × Int)) (x : Int) (R : List (List (Int × Int))) : Int :=
  if treeOk n l = true ∧ (0 ≤ x ∧ x ≤ n - 1) then (if spOk (nrA n.toNat (adjOf n.toNat l)) n x R = true then 0 else 10) else 2
def check29 : List HV → Option HV
  | [.int .i64 n, .imm .arg 2 lc, .int .i64 x, .imm .arg 1 rv] =>
    match mapO decP lc, mapO decRd rv with
    | some l, some R => if R.length ≤ 1000 ∧ (R.all fun r => decide (r.length ≤ 1000)) = true then some (.int .i64 (checkF n l x R)) else none
    | _, _ => none
  | _ => none
theorem rowO_any (adj : List (List Nat)) : (adj.map rowO).any isOwn = false := by
  rw [List.any_eq_false]
  intro v hv
  obtain ⟨k, _, rfl⟩ := List.mem_map.1 hv
  simp [rowO, isOwn]
end Go.Proofs.Ytmhfkhlamnapdaa
end
section
open Go Go.HL
namespace Go.Proofs.Ytmhfkhlamnapdaa
set_option maxRecDepth 100000
noncomputable def B53 : Code := Try.f53.body.getD .skip
abbrev env53 (v0 v1 v2 v6 v7 : HV) : Env := [(0, v0), (1, v1), (2, v2), (6, v6), (7, v7)]
theorem nr_a_0 (lc : List HV) (a b : Int) : RunsTo Try.prog pol 53 (sub [0] B53) [(0, .imm .arg 2 lc), (1, .i a), (2, .i b)] [] .normal (pol.keys 53) (env53 (.imm .arg 2 lc) (.i a) (.i b) (.bool false) .undef) [] :=
  RunsTo.hin 0 60 [] fun kf hk => ⟨_, by kernel_rfl, .nil⟩
theorem nr_b_0 (lc : List HV) (a b : Int) : RunsTo Try.prog pol 53 (sub [1, 0, 0] B53) (env53 (.imm .arg 2 lc) (.i a) (.i b) (.bool false) .undef) [] .normal (pol.keys 53) (env53 (.imm .arg 2 lc) (.i a) (.i b) (.bool false) (.i 0)) [] :=
  RunsTo.hin 0 60 [] fun kf hk => ⟨_, by kernel_rfl, .nil⟩
theorem nr_l_0 (lc : List HV) (a b : Int) (j : Nat) (x0 : Int) (x1 : Int) (g0 : (j : Int) < (lc.length : Int)) (g1 : idxV Try.prog 22 (.imm .arg 2 lc) (.i (j : Int)) = some (.vptr (.agg [.i x0, .i x1]))) (g2 : binV Try.prog .eql 33 (.agg [.i x0, .i x1]) (.agg [.i a, .i b]) = some (.bool true)) : RunsTo Try.prog pol 53 (sub [1, 0, 1, 0, 0] B53) (env53 (.imm .arg 2 lc) (.i a) (.i b) (.bool false) (.i (j : Int))) [] .ret (pol.keys 53) (env53 (.imm .arg 2 lc) (.i a) (.i b) (.bool true) (.i (j : Int))) [] :=
  RunsTo.hin 0 60 [⟨2, 3, .bool true, []⟩, ⟨4, 2, .vptr (.agg [.i x0, .i x1]), []⟩, ⟨4, 7, .bool true, []⟩] fun kf hk => ⟨_, by kernel_rfl, (oB [] (decide_eq_true g0) (oP [] g1 (oP [] g2 .nil)))⟩
theorem nr_l_1 (lc : List HV) (a b : Int) (j : Nat) (x0 : Int) (x1 : Int) (x2 : Int) (x3 : Int) (g0 : (j : Int) < (lc.length : Int)) (g1 : idxV Try.prog 22 (.imm .arg 2 lc) (.i (j : Int)) = some (.vptr (.agg [.i x0, .i x1]))) (g2 : binV Try.prog .eql 33 (.agg [.i x0, .i x1]) (.agg [.i a, .i b]) = some (.bool false)) (g3 : idxV Try.prog 22 (.imm .arg 2 lc) (.i (j : Int)) = some (.vptr (.agg [.i x2, .i x3]))) (g4 : binV Try.prog .eql 33 (.agg [.i x2, .i x3]) (.agg [.i b, .i a]) = some (.bool true)) : RunsTo Try.prog pol 53 (sub [1, 0, 1, 0, 0] B53) (env53 (.imm .arg 2 lc) (.i a) (.i b) (.bool false) (.i (j : Int))) [] .ret (pol.keys 53) (env53 (.imm .arg 2 lc) (.i a) (.i b) (.bool true) (.i (j : Int))) [] :=
  RunsTo.hin 0 60 [⟨2, 3, .bool true, []⟩, ⟨4, 2, .vptr (.agg [.i x0, .i x1]), []⟩, ⟨4, 7, .bool false, []⟩, ⟨4, 11, .vptr (.agg [.i x2, .i x3]), []⟩, ⟨4, 16, .bool true, []⟩] fun kf hk => ⟨_, by kernel_rfl, (oB [] (decide_eq_true g0) (oP [] g1 (oP [] g2 (oP [] g3 (oP [] g4 .nil)))))⟩
theorem nr_l_2 (lc : List HV) (a b : Int) (j : Nat) (x0 : Int) (x1 : Int) (x2 : Int) (x3 : Int) (g0 : (j : Int) < (lc.length : Int)) (g1 : idxV Try.prog 22 (.imm .arg 2 lc) (.i (j : Int)) = some (.vptr (.agg [.i x0, .i x1]))) (g2 : binV Try.prog .eql 33 (.agg [.i x0, .i x1]) (.agg [.i a, .i b]) = some (.bool false)) (g3 : idxV Try.prog 22 (.imm .arg 2 lc) (.i (j : Int)) = some (.vptr (.agg [.i x2, .i x3]))) (g4 : binV Try.prog .eql 33 (.agg [.i x2, .i x3]) (.agg [.i b, .i a]) = some (.bool false)) : RunsTo Try.prog pol 53 (sub [1, 0, 1, 0, 0] B53) (env53 (.imm .arg 2 lc) (.i a) (.i b) (.bool false) (.i (j : Int))) [] .normal (pol.keys 53) (env53 (.imm .arg 2 lc) (.i a) (.i b) (.bool false) (.i (IntKind.i64.wrap ((j : Int) + 1)))) [] :=
  RunsTo.hin 0 60 [⟨2, 3, .bool true, []⟩, ⟨4, 2, .vptr (.agg [.i x0, .i x1]), []⟩, ⟨4, 7, .bool false, []⟩, ⟨4, 11, .vptr (.agg [.i x2, .i x3]), []⟩, ⟨4, 16, .bool false, []⟩] fun kf hk => ⟨_, by kernel_rfl, (oB [] (decide_eq_true g0) (oP [] g1 (oP [] g2 (oP [] g3 (oP [] g4 .nil)))))⟩
theorem nr_l_3 (lc : List HV) (a b : Int) (j : Nat)(g0 : ¬ ((j : Int) < (lc.length : Int))) : RunsTo Try.prog pol 53 (sub [1, 0, 1, 0, 0] B53) (env53 (.imm .arg 2 lc) (.i a) (.i b) (.bool false) (.i (j : Int))) [] (.exit 0) (pol.keys 53) (env53 (.imm .arg 2 lc) (.i a) (.i b) (.bool false) (.i (j : Int))) [] :=
  RunsTo.hin 0 60 [⟨2, 3, .bool false, []⟩] fun kf hk => ⟨_, by kernel_rfl, (oB [] (decide_eq_false g0) .nil)⟩
theorem nr_z_0 (lc : List HV) (a b : Int) (j : Nat) : RunsTo Try.prog pol 53 (sub [1, 1] B53) (env53 (.imm .arg 2 lc) (.i a) (.i b) (.bool false) (.i (j : Int))) [] .ret (pol.keys 53) (env53 (.imm .arg 2 lc) (.i a) (.i b) (.bool false) (.i (j : Int))) [] :=
  RunsTo.hin 0 60 [] fun kf hk => ⟨_, by kernel_rfl, .nil⟩
end Go.Proofs.Ytmhfkhlamnapdaa
end
section
open Go Go.HL
namespace Go.Proofs.Ytmhfkhlamnapdaa
def isNear (a b : Int) (p : Int × Int) : Bool := decide (p = (a, b) ∨ p = (b, a))
theorem pair_eql (a b c d : Int) : binV Try.prog .eql 33 (.agg [.int .i64 a, .int .i64 b]) (.agg [.int .i64 c, .int .i64 d]) = some (.bool (decide ((a, b) = (c, d)))) := by
  have h1 : plainCells Try.prog 33 [.int .i64 a, .int .i64 b] = true := by kernel_rfl
  have h2 : Try.prog.eqGuardType Try.prog.depth 33 = false := by kernel_rfl
  have h3 : tyAgg Try.prog 33 = true := by kernel_rfl
  simp only [binV, h1, h2, h3, aggEq, scEq]
  simp only [Bool.not_false, Bool.and_self, if_true, Bool.and_true, Prod.mk.injEq]
  by_cases e1 : a = c <;> by_cases e2 : b = d <;> simp [e1, e2]
theorem near_loop (l : List (Int × Int)) (hl : l.length ≤ 1000) (a b : Int) : ∀ (d j : Nat), j + d = l.length →
    ∃ x E, RunsTo Try.prog pol 53 (sub [1, 0, 1, 0] B53) (env53 (.imm .arg 2 (l.map encP)) (.int .i64 a) (.int .i64 b) (.bool false) (.int .i64 (j : Int))) [] x (pol.keys 53) E [] ∧
      (((l.drop j).any (isNear a b) = false ∧ x = .exit 0 ∧ E = env53 (.imm .arg 2 (l.map encP)) (.int .i64 a) (.int .i64 b) (.bool false) (.int .i64 (l.length : Int))) ∨ ((l.drop j).any (isNear a b) = true ∧ x = .ret ∧ E.get 6 = .bool true)) := by
  intro d
  induction d with
  | zero =>
    intro j hj
    have hj : j = l.length := by omega
    subst hj
    exact ⟨_, _, RunsTo.loop_out (nr_l_3 (l.map encP) a b l.length (by simp)) (by simp) (by kernel_rfl) (by kernel_rfl), .inl ⟨by simp, rfl, rfl⟩⟩
  | succ d ih =>
    intro j hj
    have hjl : j < l.length := by omega
    rw [List.drop_eq_getElem_cons hjl, List.any_cons]
    have g1 : idxV Try.prog 22 (.imm .arg 2 (l.map encP)) (.int .i64 (j : Int)) = some (.vptr (.agg [.int .i64 l[j].1, .int .i64 l[j].2])) := idx_imm u22 z33 (by omega) (by rw [Int.toNat_natCast, List.getElem?_map, List.getElem?_eq_getElem hjl]; rfl)
    have g0 : (j : Int) < ((l.map encP).length : Int) := by simp; omega
    by_cases h1 : (l[j].1, l[j].2) = (a, b)
    · have e : isNear a b l[j] = true := decide_eq_true (.inl h1)
      rw [e, Bool.true_or]
      exact ⟨_, _, RunsTo.loop_out (nr_l_0 (l.map encP) a b j _ _ g0 g1 (by rw [pair_eql, decide_eq_true h1])) (by simp) (by kernel_rfl) (by kernel_rfl), .inr ⟨rfl, rfl, rfl⟩⟩
    · by_cases h2 : (l[j].1, l[j].2) = (b, a)
      · have e : isNear a b l[j] = true := decide_eq_true (.inr h2)
        rw [e, Bool.true_or]
        exact ⟨_, _, RunsTo.loop_out (nr_l_1 (l.map encP) a b j _ _ _ _ g0 g1 (by rw [pair_eql, decide_eq_false h1]) g1 (by rw [pair_eql, decide_eq_true h2])) (by simp) (by kernel_rfl) (by kernel_rfl), .inr ⟨rfl, rfl, rfl⟩⟩
      · have e : isNear a b l[j] = false := decide_eq_false (fun h => h.elim h1 h2)
        rw [e, Bool.false_or]
        obtain ⟨x, E, r, h⟩ := ih (j + 1) (by omega)
        have s1 := nr_l_2 (l.map encP) a b j _ _ _ _ g0 g1 (by rw [pair_eql, decide_eq_false h1]) g1 (by rw [pair_eql, decide_eq_false h2])
        rw [wrap_succ (by omega)] at s1
        exact ⟨x, E, RunsTo.loop s1 (by kernel_rfl) rfl r rfl (by kernel_rfl) (by kernel_rfl), h⟩
def near53 : List HV → Option HV
  | [.imm .arg 2 lc, .int .i64 a, .int .i64 b] => match mapO decP lc with | some l => if l.length ≤ 1000 then some (.bool (l.any (isNear a b))) else none | none => none
  | _ => none
theorem res53 : Try.f53.results.toList = [.tmp 6] := by kernel_rfl
theorem near_ok : PrimOk Try.prog 53 near53 := by
  refine primOk_pure (pol := pol) (fn := Try.f53) (cd := B53) follows_mixed sound (by kernel_rfl) (by kernel_rfl) (fnok pol.prim _ _ (by kernel_rfl)) (by kernel_rfl) ?_
  intro args res h
  unfold near53 at h
  split at h
  · rename_i lc a b
    split at h
    · rename_i l hlc
      split at h
      · rename_i hl
        cases h
        rw [mapO_inv decP_inv hlc]
        have a1 := nr_a_0 (l.map encP) a b
        have b1 := nr_b_0 (l.map encP) a b
        obtain ⟨x, E, r, h⟩ := near_loop l hl a b l.length 0 (by omega)
        rw [List.drop_zero] at h
        rcases h with ⟨e, rfl, rfl⟩ | ⟨e, rfl, hE⟩
        · have t1 := RunsTo.seq b1 (RunsTo.block_exit (c := sub [1, 0, 1] B53) r (by kernel_rfl)) (c := sub [1, 0] B53) (by kernel_rfl) (by kernel_rfl)
          have t2 := RunsTo.seq t1 (nr_z_0 (l.map encP) a b l.length) (c := sub [1] B53) (by kernel_rfl) (by kernel_rfl)
          have t3 := RunsTo.seq a1 t2 (c := B53) (by kernel_rfl) (by kernel_rfl)
          rw [e]
          exact ⟨_, _, _, _, t3, by simp, by simp only [resultsV, res53]; rfl, rfl⟩
        · have t1 := RunsTo.seq b1 (RunsTo.block_ret (i := 0) (c := sub [1, 0, 1] B53) r (by kernel_rfl)) (c := sub [1, 0] B53) (by kernel_rfl) (by kernel_rfl)
          have t2 := RunsTo.seq_out t1 (by simp) (c := sub [1] B53) (b := sub [1, 1] B53) (by kernel_rfl)
          have t3 := RunsTo.seq a1 t2 (c := B53) (by kernel_rfl) (by kernel_rfl)
          rw [e]
          exact ⟨_, _, _, .bool true, t3, by simp, by simp only [resultsV, res53, mapO, resultV, hE], rfl⟩
      · cases h
    · cases h
  · cases h
end Go.Proofs.Ytmhfkhlamnapdaa
end
section
open Go Go.HL
namespace Go.Proofs.Ytmhfkhlamnapdaa
def primY (g : FuncId) : Option (List HV → Option HV) := if g == 53 then some near53 else none
def polY : Pol := { pol with prim := primY }
theorem primY_ok (g : FuncId) (f : List HV → Option HV) (h : primY g = some f) : PrimOk Try.prog g f := by
  unfold primY at h
  split at h
  · rename_i hg; cases h; rw [eq_of_beq hg]; exact near_ok
  · cases h
theorem soundY (n : Nat) : CallSound Try.prog (callN Try.prog polY n) := sound_prim primY primY_ok n
end Go.Proofs.Ytmhfkhlamnapdaa
end
