/- A part of the proof. -/
import Derived.Test.YtlendaofkmhgmaaHlA
import Derived.Test.YtlendaofkmhgmaaHlB
import Derived.Test.YtlendaofkmhgmaaHlC
import Derived.Test.YtlendaofkmhgmaaHlD
import Derived.Test.YtlendaofkmhgmaaHlE
import Derived.Test.YtlendaofkmhgmaaHlF
import Derived.ProofKit
import Derived.Test.YtlendaofkmhgmaaProg
import Derived.Deep.Slices
import Derived.OpenShut
set_option linter.unusedVariables false
set_option linter.unusedSimpArgs false
namespace Go.HL
abbrev HV.i (n : Int) : HV := .int .i64 n
section
variable {P : Program} {pol : Pol} {f : FuncId} {c : Code} {e E : Env} {H H' : Heap} {x : X} {K : List Nat}
theorem RunsTo.hin (d n : Nat) (hs : List Hint) (h : ∀ k, d ≤ k → ∃ ob, hview K (evCH P pol (callN P pol (k + 1)) n f c e H hs) = some (x, E, H', ob) ∧ Obls ob) : RunsTo P pol f c e H x K E H' := RunsTo.hint (d + 1) n hs fun k hk => by
  obtain ⟨k, rfl⟩ : ∃ n, k = n + 1 := ⟨k - 1, by omega⟩
  exact h k (by omega)
theorem oC {p : Prop} {os : List Prop} (h : p) (t : Obls os) : Obls (p :: os) := Obls.cons h t
theorem oP (H : Heap) {r : Option HV} {v : HV} {os : List Prop} (h : r = some v) (t : Obls os) : Obls ((r.map (fun v => (v, H)) = some (v, H)) :: os) := Obls.cons (hintOp h) t
theorem oS {r : Option Heap} {H : Heap} {os : List Prop} (h : r = some H) (t : Obls os) : Obls ((r.map (fun H => (HV.tuple [], H)) = some (.tuple [], H)) :: os) := Obls.cons (hintSt h) t
theorem oB (H : Heap) {p b : Bool} {os : List Prop} (h : p = b) (t : Obls os) : Obls ((some (HV.bool p, H) = some (HV.bool b, H)) :: os) := Obls.cons (hintB h) t
end
end Go.HL
section
open Go Go.HL
namespace Go.Proofs.Ytlendaofkmhgmaa
def keysT : List (List Nat) := [[], [], [], [0, 1, 4, 5, 6, 7, 8], [0, 1, 3, 4, 5, 6, 7, 8, 9, 10, 11, 12, 13, 14, 15], [0, 2, 3, 4, 5, 6, 7, 8, 9], [0, 1, 4, 5, 6, 7, 8, 9, 10], [0, 1, 4, 5, 6, 7, 8, 9, 10, 11, 12, 13, 14, 15, 16, 17], [0, 1, 2, 5, 6, 7, 8, 9, 10, 11, 12, 13, 14, 15, 16, 17, 18, 19, 20, 21, 22, 23, 24, 25, 26, 27, 28, 29, 30, 31], [0, 1, 2, 6, 7, 8, 9, 10, 11, 12, 13, 14, 15, 16, 17, 18, 19, 20, 21, 22, 23, 24, 25, 26], [0, 1, 4, 5, 6, 7, 8, 9, 10], [0, 1, 2, 5, 6, 7, 8, 9, 10, 11, 12, 13, 14, 15, 16, 17, 18, 19, 20, 21, 22, 23, 24, 25, 26], [0, 1, 4, 5, 6, 7, 8, 9, 10, 12, 13, 14, 15, 17, 18, 19, 20, 21, 23, 24], [0, 2, 3, 4, 5, 6, 7, 8, 9, 10, 11], [0, 1, 3, 4, 5, 6, 7, 8, 10, 11, 13, 14, 15, 16, 17, 18, 20, 21, 22, 23, 24, 25, 26, 27, 28], [0, 2, 3, 4], [0, 2, 3], [0, 1, 4, 5, 6, 7], [0, 2, 3, 4, 5, 6], [0, 1, 4, 5], [0, 1, 2, 3, 4, 5, 6, 7, 8, 9, 10, 11, 12], [0, 1, 4, 5, 6, 7, 8, 9], [0, 2, 3, 4, 5, 6, 7, 13, 14, 18, 19, 23, 24], [0, 1, 2, 3, 5, 6, 7, 8, 9, 10, 11, 12, 13, 14, 15, 16, 17, 43, 44, 47, 48, 52, 53, 97, 98], [0, 2, 3, 4, 5, 6, 7], [0, 1, 2, 6, 7, 8, 9, 10, 11, 12, 13, 14], [0, 1, 4, 5], [0, 1, 4], [0, 1, 2, 6, 7, 8, 9, 10, 11, 12, 13], [0, 2, 3, 4, 5, 6, 7, 8, 9, 10, 29, 30], [0, 1, 2, 3, 8, 9, 10, 11, 12, 13, 14], [0, 1, 4, 5, 6, 7, 8, 9, 10, 11, 12, 42, 43, 46, 47], [0, 1, 4, 5, 6, 7, 8, 9, 10, 11, 12, 13, 14, 15, 16, 17], [0, 1, 4, 5, 6, 7, 8], [0, 1, 4, 5], [0, 1, 4, 5, 6, 7], [0, 1, 4, 5, 6], [0, 1, 4, 5, 6, 7], [0, 1, 4, 5], [0, 1, 2, 6, 7, 8], [0, 2, 3, 4, 5, 6, 7, 8, 9, 10, 11, 12, 13], [0, 2, 3, 4, 5, 6, 7, 24, 25], [0, 2, 3, 4, 6, 7, 8, 17, 18, 19], [0, 2, 3, 4, 5, 6, 7, 8], [0, 2, 3, 4], [0, 2, 3, 4, 5, 6, 7, 8], [0, 2, 4, 5, 6, 7, 8, 13, 14, 15, 29, 30, 31, 36, 37, 38], [0, 1, 4], [0, 2], [0, 1, 2, 6], [0, 1, 3, 4, 5, 6, 7, 9, 10, 11, 13, 15, 21, 22, 23, 41, 42, 43, 64, 65], [0, 1, 4, 5, 6, 7, 8], [0, 2], [0, 1, 2, 3, 4, 5, 6, 7, 9, 10, 26, 27], [0, 1, 2, 3, 8, 9, 10, 11, 12, 13, 14], [0, 1, 2, 5, 6, 8, 9, 10, 11, 31, 32], [0, 1, 4, 5, 6, 7, 8, 9, 10], [0, 1, 4, 5, 6, 18, 19, 20], [0, 1, 4, 5, 6, 7, 8, 9], [0, 1, 4, 5, 6, 7], [0, 1, 4], [0, 1, 2, 5, 6, 7, 8, 9, 11, 12, 13, 14, 19, 20, 31, 32, 33, 55, 56], [0, 1, 2, 3, 6, 16, 17, 18], [0, 2, 3], [0, 1, 2], [0, 1, 4, 5, 6, 7, 8, 9, 10, 11], [0, 1, 2, 6, 7, 8, 9, 10, 11, 12], [0, 1, 2, 6, 7, 8, 9, 10, 11, 12], [0, 2], [0, 1, 4, 5, 7, 8], [0, 1, 2, 5, 6, 7, 8, 9, 11, 12], [0, 2, 3], [0, 1, 4, 5, 7, 8], [0, 2], [0, 2], [0, 1, 4, 5, 6, 7], [0, 1, 4], [0, 1, 2, 3, 4], [0, 2, 4, 5, 6, 7], [0, 1, 4, 5, 6], [0, 1, 2, 4], [0, 1, 2, 3, 8, 9, 10, 11, 12, 13, 14, 15, 16, 17, 18], [0, 2], [0, 1, 2, 3, 4, 10, 11, 12, 13, 14, 15, 16, 17, 18, 19, 20], [0, 2], [0, 1, 2, 6, 7], [0, 1, 2, 6, 7, 8, 9, 10], [0, 1, 2, 6, 7, 8, 9, 10], [0, 1, 2, 6, 7, 8, 9, 10, 11, 12, 49], [0, 1, 2, 6, 7], [0, 1, 2, 6, 7, 8, 9, 10], [0, 1, 4], [0, 1, 2, 3, 8, 9, 10], [0, 1, 2, 3, 8, 9, 10, 11], [0, 2], [0, 2], [0, 1, 2, 3, 8, 9], [0, 1, 2, 3, 8, 9, 10, 11, 12], [0, 1, 2, 8, 9, 10, 11, 12], [0, 1, 2, 3, 8, 9, 10, 11, 12, 13, 14, 55], [0, 1, 2, 8, 9], [0, 1, 2, 3, 8, 9, 10, 11, 12], [0, 1, 2, 3, 4, 10, 11, 12], [0, 1, 2, 3, 4, 10, 11, 12, 13], [0, 1, 2, 3, 8, 9], [0, 2], [0, 2], [0, 1, 2, 6], [0, 1, 2, 3, 4, 10], [0, 1, 2, 3, 4, 10, 11], [0, 1, 2, 3, 8], [0, 1, 2, 3, 4, 5, 12], [0, 1, 2, 3, 8, 9], [0, 1, 2, 3, 4, 10, 11], [], [], [], [], [], [], [], [], [], [], [], [], [], [], [], []]
def resT : List (List Nat) := [[], [], [], [4], [4], [2], [4], [4], [6], [6], [4], [6], [4], [2], [4], [2], [2], [4, 5], [2], [4], [0], [4], [3, 4], [6, 7, 8], [3], [6, 7], [4], [4], [6], [2, 3, 4], [8, 9], [4, 5, 6], [4, 5], [4], [4, 5], [4, 5], [4], [4], [4], [6], [2], [2, 3], [2, 3], [2], [2], [2], [2], [4], [2], [6], [4], [4], [2], [7], [8], [6], [4], [4], [4, 5], [4], [4], [6], [], [2], [2], [4], [6], [6], [2], [4], [6], [], [4], [2], [], [], [], [4], [2], [4], [4], [], [2], [], [2], [], [], [], [6, 7], [], [6], [4], [8], [8, 9], [2], [2], [], [], [], [8, 9], [], [8], [10], [10, 11], [], [2], [2], [6], [10], [], [8], [12], [8, 9], [10, 11], [], [], [], [], [], [], [], [], [], [], [], [], [], [], [], []]
def sharedT : List Nat := [30, 38, 47, 53, 55, 58, 62, 63, 69, 71, 73, 74, 75, 76, 80, 81, 83, 85, 86, 87, 88, 89, 90, 92, 93, 96, 97, 98, 99, 100, 101, 102, 103, 104, 106, 107, 108, 109, 110, 111, 112, 113, 122, 123, 124, 125, 126, 127, 128]
def deadT : List (Nat × Nat × List Nat) := [(8, 6, [5, 13, 14, 15, 16, 17, 18, 19, 20, 21, 22, 23, 24, 25, 26, 27, 28, 29, 30, 31]), (9, 6, [12, 13, 14, 15, 16, 17, 18, 19, 20, 21, 22, 23, 24, 25, 26]), (12, 11, [10, 13, 15, 20, 21, 23, 24]), (12, 14, [10, 13, 15, 21, 23, 24]), (12, 21, [8, 9, 10, 12, 13, 14, 15, 17, 18, 19, 20, 21, 23]), (14, 5, [10, 11, 13, 14, 15, 16, 17, 18, 20, 21, 22, 23, 24, 25, 26, 27, 28]), (14, 19, [3, 7, 8, 10, 11, 13, 14, 15, 16, 17, 18, 20, 21, 26]), (18, 5, [5, 6]), (18, 10, [4, 6]), (18, 13, [4]), (21, 9, [9]), (21, 13, [7, 8]), (22, 4, [5, 6, 7, 18, 19, 23, 24]), (22, 7, [6, 7, 23, 24]), (22, 10, [7]), (23, 5, [10, 11, 12, 13, 14, 15, 16, 17, 47, 48, 52, 53, 97, 98]), (23, 7, [10, 11, 12, 13, 14, 15, 16, 17, 52, 53, 97, 98]), (23, 10, [11, 12, 13, 14, 15, 16, 17, 97, 98]), (23, 21, [10, 11, 12, 16, 17, 43, 44, 47, 48, 52, 53, 97, 98]), (23, 23, [10, 11, 12, 16, 17, 43, 44, 47, 48, 52, 53]), (24, 3, [6, 7]), (24, 6, [7]), (25, 6, [14]), (28, 3, [9, 10, 11, 12, 13]), (28, 7, [8, 10, 11, 12, 13]), (28, 10, [8, 11, 12, 13]), (29, 6, [8, 9, 10, 29, 30]), (29, 9, [9, 10]), (30, 8, [11, 13, 14]), (30, 12, [11]), (31, 8, [11, 12, 46, 47]), (31, 10, [11, 12]), (32, 5, [11, 12, 13, 14, 15, 16, 17]), (32, 10, [14, 15, 16, 17]), (32, 14, [7, 13, 15, 16, 17]), (33, 3, [7, 8]), (38, 1, [5]), (40, 5, [7, 8, 9, 10, 11, 12, 13]), (40, 8, [8, 9, 10, 11, 12, 13]), (40, 14, [10, 11, 12, 13]), (40, 21, [4, 6, 7, 8, 9, 13]), (40, 23, [4, 6, 7, 8, 9]), (41, 4, [5, 6, 7, 24, 25]), (41, 7, [7]), (42, 5, [6, 7, 8]), (43, 5, [6, 7, 8]), (45, 4, [6, 7, 8]), (45, 7, [7, 8]), (45, 10, [8]), (46, 4, [4, 5, 6, 7, 8, 29, 30, 31, 36, 37, 38]), (46, 10, [4, 5, 6, 7, 8, 13, 14, 15, 36, 37, 38]), (46, 13, [4, 6, 7, 8, 13, 14, 15]), (50, 4, [9, 10, 11, 13, 15, 41, 42, 43, 64, 65]), (50, 13, [6, 7, 9, 13, 15, 21, 22, 23, 64, 65]), (50, 20, [3, 6, 7, 9, 13, 15, 21, 22, 23, 41, 42, 43]), (53, 7, [9, 10]), (54, 4, [12, 13, 14]), (54, 9, [11, 13, 14]), (54, 12, [11, 14]), (54, 15, [11]), (55, 7, [8, 10, 11]), (56, 3, [6, 7]), (57, 4, [5, 6]), (58, 3, [8, 9]), (58, 6, [9]), (59, 2, [6, 7]), (59, 5, [7]), (61, 3, [8, 9, 11, 12, 13, 14, 31, 32, 33, 55, 56]), (61, 9, [5, 8, 11, 12, 13, 14, 19, 20, 55, 56]), (61, 15, [5, 8, 11, 14, 19, 20]), (62, 2, [6]), (65, 3, [7, 8, 9, 10, 11]), (65, 8, [6, 9, 10, 11]), (65, 14, [6]), (66, 3, [9, 10, 11, 12]), (66, 6, [10, 11, 12]), (66, 10, [12]), (67, 3, [9, 10, 11, 12]), (67, 7, [12]), (67, 11, [11]), (69, 2, [5]), (70, 3, [8, 9]), (72, 2, [5]), (75, 1, [4]), (78, 2, [4]), (81, 2, [10, 11, 12, 13, 14, 15, 16, 17, 18]), (83, 2, [12, 13, 14, 15, 16, 17, 18, 19, 20]), (85, 1, [7]), (86, 4, [10]), (86, 8, [8, 9]), (87, 5, [10]), (90, 3, [9, 10]), (90, 5, [9, 10]), (90, 14, [10]), (90, 20, [9]), (96, 1, [9]), (97, 4, [12]), (97, 8, [10, 11]), (98, 5, [12]), (101, 3, [11, 12]), (101, 5, [11, 12]), (101, 14, [12]), (101, 20, [11]), (104, 1, [9]), (109, 1, [11])]
def pol : Pol where
  shared g := sharedT.contains g
  freeze _ _ := true
  freezeS _ _ := false
  blk g d := !((resT.getD g []).contains d)
  nilf g := g == 52
  deep _ := false
  prim _ := none
  rows g _ := g == 42
  keys g := keysT.getD g []
  quiet f r := if f == 8 && r == 17 then [1, 3] else []
  dead f r := ((deadT.find? fun p => p.1 == f && p.2.1 == r).map (·.2.2)).getD []
theorem follows_mixed : Try.prog.follows .mixedOrders = true := by kernel_rfl
set_option maxRecDepth 100000 in
theorem fns_ok : (Try.prog.funcs.toList.zipIdx.all fun p => fnOk pol p.2 p.1) = true := by kernel_rfl
theorem sound (n : Nat) : CallSound Try.prog (callN Try.prog pol n) :=
  callN_ok follows_mixed (fun g fn h => List.all_eq_true.1 fns_ok (fn, g) (by
      rw [List.mem_zipIdx_iff_getElem?]
      simpa using h)) (fun g F h => by cases h) n
theorem sound_prim (F : FuncId → Option (List HV → Option HV)) (hF : ∀ g f, F g = some f → PrimOk Try.prog g f) (n : Nat) : CallSound Try.prog (callN Try.prog { pol with prim := F } n) :=
  callN_ok follows_mixed (fun g fn h => by
    rw [fnOk_prim]
    exact List.all_eq_true.1 fns_ok (fn, g) (by
      rw [List.mem_zipIdx_iff_getElem?]
      simpa using h)) hF n
theorem wrapI64 (n : Int) : IntKind.i64.wrap n = (n + 9223372036854775808) % 18446744073709551616 - 9223372036854775808 := by rw [IntKind.wrap_i64]
end Go.Proofs.Ytlendaofkmhgmaa
end
section
open Go Go.HL
namespace Go.Proofs.Ytlendaofkmhgmaa
abbrev bI (l : List Int) : Blk := .arr 1 (l.map encI) true 0
def encR (r : List Int) : HV := .imm .arg 1 (r.map encI)
def encO (r : List Int) : HV := .imm .own 1 (r.map encI)
def decR : HV → Option (List Int) | .imm .arg 1 l => mapO decI l | _ => none
theorem decR_enc (r : List Int) : decR (encR r) = some r := mapO_map decI_enc r
theorem decR_inv (b : HV) (a : List Int) (h : decR b = some a) : b = encR a := by
  unfold decR at h
  split at h
  · rw [mapO_inv decI_inv h]; rfl
  · cases h
theorem wrap_succ {j : Nat} (h : j < 4611686018427387904) : IntKind.i64.wrap ((j : Int) + 1) = ((j + 1 : Nat) : Int) := by rw [wrapI64]; omega
theorem wrap_id {n : Int} (h0 : -4611686018427387904 ≤ n) (h : n < 4611686018427387904) : IntKind.i64.wrap n = n := by rw [wrapI64]; omega
theorem argP_ints' : ∀ (l : List Int), argPL (l.map encI) = some (l.map encI)
  | [] => rfl
  | p :: l => by simp only [List.map_cons, argPL, argP_ints' l, encI, argP]
theorem argP_rows' : ∀ (R : List (List Int)), argPL (R.map encR) = some (R.map encR)
  | [] => rfl
  | p :: l => by simp only [List.map_cons, argPL, argP_rows' l, encR, argP, argP_ints']
theorem arg_li (H : Heap) (l : List Int) : toArg H 6 (.imm .arg 1 (l.map encI)) = some (.imm .arg 1 (l.map encI)) := by
  show argP (.imm .arg 1 (l.map encI)) = _
  simp only [argP, argP_ints']
theorem arg_rw (H : Heap) (R : List (List Int)) : toArg H 6 (.imm .arg 1 (R.map encR)) = some (.imm .arg 1 (R.map encR)) := by
  show argP (.imm .arg 1 (R.map encR)) = _
  simp only [argP, argP_rows']
theorem encI_any (l : List Int) : (l.map encI).any isOwn = false := by
  rw [List.any_eq_false]
  intro v hv
  obtain ⟨k, _, rfl⟩ := List.mem_map.1 hv
  simp [encI, isOwn]
theorem encO_any (l : List (List Int)) : (l.map encO).any isOwn = false := by
  rw [List.any_eq_false]
  intro v hv
  obtain ⟨k, _, rfl⟩ := List.mem_map.1 hv
  simp [encO, isOwn]
theorem recv_ints (l : List Int) (H : Heap) : recv (.own 1 (l.map encI)) H = (.sl H.length 0 l.length none l.length 1, H ++ [bI l]) := by
  simp only [recv, recvVal, recvCell, encI_any, List.length_map]
  rfl
theorem recv_rows (l : List (List Int)) (H : Heap) : recv (.own 1 (l.map encO)) H = (.sl H.length 0 l.length none l.length 1, H ++ [.arr 1 (l.map encO) true 0]) := by
  simp only [recv, recvVal, recvCell, encO_any, List.length_map]
  rfl
theorem ints_bnd : ∀ (l : List Int), bndL (l.map encI) = 0
  | [] => rfl
  | a :: l => by simp only [List.map_cons, bndL, ints_bnd l, encI, bnd]; rfl
theorem ints_res : ∀ (l : List Int), resPL (l.map encI) = true
  | [] => rfl
  | a :: l => by simp only [List.map_cons, resPL, ints_res l, encI, resP]; rfl
theorem fnok (F : FuncId → Option (List HV → Option HV)) (g : FuncId) (fn : Func) (h : Try.prog.funcs[g]? = some fn) : fnOk { pol with prim := F } g fn = true := by
  rw [fnOk_prim]
  exact List.all_eq_true.1 fns_ok (fn, g) (by
    rw [List.mem_zipIdx_iff_getElem?]
    simpa using h)
theorem gc_eq {H H' : Heap} (r : Nat) (h : H'.length = H.length) : gc H.length r H' = H' := by
  unfold gc
  rw [List.take_of_length_le (by omega)]
theorem nb_false {b : Bool} (h : ¬ b = true) : b = false := by cases b <;> simp_all
theorem u23 : Try.prog.underlying 23 = some (.slice 3) := by kernel_rfl
theorem u22 : Try.prog.underlying 22 = some (.slice 23) := by kernel_rfl
theorem u68 : Try.prog.underlying 68 = some (.slice 23) := by kernel_rfl
theorem u79 : Try.prog.underlying 79 = some (.slice 4) := by kernel_rfl
theorem z3 : tySize Try.prog 3 = some 1 := by kernel_rfl
theorem z4 : tySize Try.prog 4 = some 1 := by kernel_rfl
theorem z23 : tySize Try.prog 23 = some 1 := by kernel_rfl
theorem a3 : tyAgg Try.prog 3 = false := by kernel_rfl
theorem i3 : (Try.prog.underlying 3).isSome = true := by kernel_rfl
theorem a4 : tyAgg Try.prog 4 = false := by kernel_rfl
theorem i4 : (Try.prog.underlying 4).isSome = true := by kernel_rfl
theorem a23 : tyAgg Try.prog 23 = false := by kernel_rfl
theorem i23 : (Try.prog.underlying 23).isSome = true := by kernel_rfl
theorem gx {l : List Int} {y : Nat} (hy : y < l.length) : idxV Try.prog 23 (.imm .arg 1 (l.map encI)) (.int .i64 (y : Int)) = some (.vptr (.int .i64 (l.getD y 0))) :=
  idx_imm u23 z3 (by omega) (by rw [Int.toNat_natCast, List.getElem?_map, List.getElem?_eq_getElem hy]; simp [List.getD, List.getElem?_eq_getElem hy, encI])
theorem gxi {l : List Int} {y : Int} (h0 : 0 ≤ y) (hy : y.toNat < l.length) : idxV Try.prog 23 (.imm .arg 1 (l.map encI)) (.int .i64 y) = some (.vptr (.int .i64 (l.getD y.toNat 0))) := by
  have := gx (l := l) (y := y.toNat) hy
  rwa [show ((y.toNat : Nat) : Int) = y by omega] at this
theorem gr {R : List (List Int)} {y : Nat} (hy : y < R.length) : idxV Try.prog 22 (.imm .arg 1 (R.map encR)) (.int .i64 (y : Int)) = some (.vptr (.imm .arg 1 ((R.getD y []).map encI))) :=
  idx_imm u22 z23 (by omega) (by rw [Int.toNat_natCast, List.getElem?_map, List.getElem?_eq_getElem hy]; simp [List.getD, List.getElem?_eq_getElem hy, encR])
theorem gm {R : List (List Int)} {y : Int} (h0 : 0 ≤ y) (hy : y.toNat < R.length) : idxV Try.prog 68 (.imm .arg 1 (R.map encR)) (.int .i64 y) = some (.vptr (.imm .arg 1 ((R.getD y.toNat []).map encI))) :=
  idx_imm u68 z23 h0 (by rw [List.getElem?_map, List.getElem?_eq_getElem hy]; simp [List.getD, List.getElem?_eq_getElem hy, encR])
theorem load_out {H : Heap} {k : Nat} {o : List Int} (h : H[k]? = some (bI o)) {y : Nat} (hy : y < o.length) : loadV Try.prog H 3 (.ptr k y 0 o.length) = some (.int .i64 (o.getD y 0)) :=
  load_elem (b := k) h (by simp) (by rw [List.getElem?_map, List.getElem?_eq_getElem hy]; simp [List.getD, List.getElem?_eq_getElem hy, encI]) rfl a3 i3
theorem store_out {H : Heap} {k : Nat} {o : List Int} (h : H[k]? = some (bI o)) {y : Nat} (hy : y < o.length) (v : Int) : storeV Try.prog H 3 (.ptr k y 0 o.length) (.int .i64 v) = some (H.set k (bI (o.set y v))) := by
  have hi : (o.map encI)[y]? = some (encI o[y]) := by rw [List.getElem?_map, List.getElem?_eq_getElem hy]; rfl
  have := store_elem (P := Try.prog) (t := 3) (b := k) (tot := o.length) (v := .int .i64 v) h (by simp) hi rfl (by intro cs h; cases h) z3 rfl rfl (by simp [bnd])
  rw [this]
  show some (H.set k (.arr 1 ((o.map encI).set y (encI v)) true 0)) = _
  rw [bI, List.map_set]
theorem res_li {H : Heap} {b k : Nat} {o : List Int} (hb : H[b]? = some (bI o)) (hk : o.length = k) : toRes H false (.sl b 0 k none k 1) = some (.own 1 (o.map encI)) := by
  have hr := resCell_sl (H := H) (no := [b]) (b := b) (k := 1) (m := k) (cap := none) (els := o.map encI) hb (by simpa using hk) (mapO_self (fun r => frz_int 4 r) _)
  have ho : ownedAll H false (.sl b 0 k none k 1) = [b] := by simp [ownedAll, cellsOf, owned, hb]
  simp only [toRes, ho, List.nodup_cons, List.not_mem_nil, not_false_eq_true, List.nodup_nil, and_self, if_true, resVal, hr]
theorem app_ints {H : Heap} {b : Nat} {o xs : List Int} (hb : H[b]? = some (bI o)) (hlen : o.length + xs.length ≤ 1000) (hx : xs ≠ []) :
    appV H 1 8 (.sl b 0 o.length none o.length 1) (xs.map encI) = some (.sl b 0 (o ++ xs).length none (o ++ xs).length 1, H.set b (bI (o ++ xs))) := by
  have := app_sl (H := H) (k := 1) (bytes := 8) (b := b) (n := o.length) (mx := 0) (els := o.map encI) (xs := xs.map encI) hb (by simp) (by simpa using hx) (by rw [List.length_map]; simp only [roomMax]; omega) (ints_bnd xs)
  rw [this]
  simp [bI]
theorem arg_sl {H : Heap} {l : List Int} {b m : Nat} (hm : l.length = m) (hb : H[b]? = some (bI l)) : toArg H 6 (.sl b 0 m none m 1) = some (.imm .arg 1 (l.map encI)) := by
  subst hm
  have e : toArg H 6 (.sl b 0 l.length none l.length 1) = if l.length = 0 then some (.imm .arg 1 []) else match view H b 0 l.length l.length 1 with | some l => (match mapO (toArg H 5) l with | some l => some (.imm .arg 1 l) | none => none) | none => none := rfl
  rw [e]
  split
  · rename_i h0
    rw [List.length_eq_zero_iff.1 h0]; rfl
  · have hv : view H b 0 l.length l.length 1 = some (l.map encI) := by
      simp only [view, hb, List.length_map]
      rw [if_pos ⟨trivial, by omega, trivial⟩]
      simp [List.take_of_length_le]
    have hm : mapO (toArg H 5) (l.map encI) = some (l.map encI) := mapO_self (f := toArg H 5) (g := encI) (fun _ => rfl) l
    rw [hv]
    simp only [hm]
theorem arg_rs {H : Heap} {R : List (List Int)} {b m mx : Nat} (hm : R.length = m) (hb : H[b]? = some (.arr 1 (R.map encO) true mx)) : toArg H 6 (.sl b 0 m none m 1) = some (.imm .arg 1 (R.map encR)) := by
  subst hm
  have e : toArg H 6 (.sl b 0 R.length none R.length 1) = if R.length = 0 then some (.imm .arg 1 []) else match view H b 0 R.length R.length 1 with | some l => (match mapO (toArg H 5) l with | some l => some (.imm .arg 1 l) | none => none) | none => none := rfl
  rw [e]
  split
  · rename_i h0
    rw [List.length_eq_zero_iff.1 h0]; rfl
  · have hv : view H b 0 R.length R.length 1 = some (R.map encO) := by
      simp only [view, hb, List.length_map]
      rw [if_pos ⟨trivial, by omega, trivial⟩]
      simp [List.take_of_length_le]
    have hm : ∀ (R : List (List Int)), mapO (toArg H 5) (R.map encO) = some (R.map encR) := by
      intro R
      induction R with
      | nil => rfl
      | cons r R ih =>
        have e : toArg H 5 (encO r) = some (encR r) := by
          show argP (.imm .own 1 (r.map encI)) = _
          simp only [argP, argP_ints']
          rfl
        simp only [List.map_cons, mapO, e, ih]
    rw [hv]
    simp only [hm]
end Go.Proofs.Ytlendaofkmhgmaa
end
section
open Go Go.HL
namespace Go.Proofs.Ytlendaofkmhgmaa
def awakeF : List HV → Option HV | [] => some (.bool true) | _ => none
def withinF : List HV → Option HV
  | [.int .i64 n, .int .i64 lo, .int .i64 hi] => some (.bool (decide (lo ≤ n ∧ n ≤ hi)))
  | _ => none
def liF (f : List Int → Option HV) : List HV → Option HV
  | [.imm .arg 1 la] => (match mapO decI la with | some l => f l | none => none)
  | _ => none
def rwF (f : List (List Int) → Option HV) : List HV → Option HV
  | [.imm .arg 1 rw] => (match mapO decR rw with | some R => f R | none => none)
  | _ => none
def rlF (f : List (List Int) → List Int → Option HV) : List HV → Option HV
  | [.imm .arg 1 rw, .imm .arg 1 la] => (match mapO decR rw, mapO decI la with | some R, some l => f R l | _, _ => none)
  | _ => none
def llF (f : List Int → List Int → Option HV) : List HV → Option HV
  | [.imm .arg 1 la, .imm .arg 1 lb] => (match mapO decI la, mapO decI lb with | some a, some b => f a b | _, _ => none)
  | _ => none
def lnF (f : List Int → Int → Option HV) : List HV → Option HV
  | [.imm .arg 1 la, .int .i64 v] => (match mapO decI la with | some l => f l v | none => none)
  | _ => none
def list16 : List HV → Option HV := liF fun l => some (.own 1 ((l.take 13).map encI))
def tabL (R : List (List Int)) : List (List Int) := (R.take 12).map (·.take 13)
def table15 : List HV → Option HV := rwF fun R => some (.own 1 ((tabL R).map encO))
def ints26 : List HV → Option HV := llF fun a b => if a.length ≤ 1000 then some (.bool (decide (a = b))) else none
def idxFrom (v : Int) : Nat → List Int → Int
  | _, [] => -1
  | j, x :: l => if v = x then (j : Int) else idxFrom v (j + 1) l
def index72 : List HV → Option HV := lnF fun l v => if l.length ≤ 1000 then some (.int .i64 (idxFrom v 0 l)) else none
def contains60 : List HV → Option HV := lnF fun l v => if l.length ≤ 1000 then some (.bool (decide (v ∈ l))) else none
def mile68 : List HV → Option HV
  | [.int .i64 n] => some (.bool (!decide (0 ≤ n ∧ n ≤ 1000)))
  | _ => none
def clone52 : List HV → Option HV := liF fun l => if l.length ≤ 1000 then some (.own 1 (l.map encI)) else none
def at2 (d : List (List Int)) (i j : Nat) : Int := (d.getD i []).getD j 0
def okD (d : List (List Int)) : Prop := (1 ≤ d.length ∧ d.length ≤ 11) ∧ (∀ i, i < d.length → (d.getD i []).length = d.length) ∧ ∀ i, i < d.length → ∀ j, j < d.length → (0 ≤ at2 d i j ∧ at2 d i j ≤ 1000) ∧ at2 d i j = at2 d j i ∧ (i = j → at2 d i j = 0)
open Classical in
noncomputable def okB (d : List (List Int)) : Bool := decide (okD d)
noncomputable def miles46 : List HV → Option HV := rwF fun R => if R.length ≤ 1000 ∧ (R.all fun r => decide (r.length ≤ 1000)) = true then some (.bool (okB R)) else none
def inT (n : Nat) (l : List Int) : Prop := ∀ v, v ∈ l → 0 ≤ v ∧ v < (n : Int)
def trOk (n : Nat) (l : List Int) : Bool := decide (l.length = n ∧ l.getD 0 0 = 0 ∧ (∀ v, v ∈ l → 0 ≤ v ∧ v < (n : Int)) ∧ l.Nodup)
def tour57 : List HV → Option HV := rlF fun R l => if 1 ≤ R.length ∧ l.length ≤ 1000 then some (.bool (trOk R.length l)) else none
def tour36 : List HV → Option HV := lnF fun l n => if (1 ≤ n ∧ n ≤ 1000) ∧ l.length ≤ 1000 then some (.bool (trOk n.toNat l)) else none
def lenGo (d : List (List Int)) (l : List Int) : Nat → Nat → Int → Int
  | 0, _, s => s
  | k + 1, j, s => lenGo d l k (j + 1) (s + at2 d (l.getD j 0).toNat (l.getD ((j + 1) % l.length) 0).toNat)
def lenT (d : List (List Int)) (l : List Int) : Int := lenGo d l l.length 0 0
open Classical in
noncomputable def len56 : List HV → Option HV := rlF fun R l => if okD R ∧ inT R.length l ∧ l.length ≤ 1000 then some (.int .i64 (lenT R l)) else none
def revP (l : List Int) (i j : Nat) : List Int := l.take i ++ (((l.drop i).take (j + 1 - i)).reverse ++ l.drop (j + 1))
def btJ (d : List (List Int)) (l : List Int) (i : Nat) : Nat → Nat → Option (List Int)
  | 0, _ => none
  | k + 1, j => if lenT d (revP l i j) < lenT d l then some (revP l i j) else btJ d l i k (j + 1)
def btI (d : List (List Int)) (l : List Int) : Nat → Nat → Option (List Int)
  | 0, _ => none
  | k + 1, i => match btJ d l i (l.length - (i + 1)) (i + 1) with | some r => some r | none => btI d l k (i + 1)
def bett (d : List (List Int)) (l : List Int) : Option (List Int) := btI d l (l.length - 1) 1
open Classical in
noncomputable def better59 : List HV → Option HV := rlF fun R l => if okD R ∧ inT R.length l ∧ (1 ≤ l.length ∧ l.length ≤ 500) then some (.own 1 (((bett R l).getD []).map encI)) else none
def impF (d : List (List Int)) : Nat → List Int → List Int
  | 0, l => l
  | k + 1, l => match bett d l with | some r => impF d k r | none => l
def impT (d : List (List Int)) (l : List Int) : List Int := impF d (lenT d l).toNat l
open Classical in
noncomputable def length34 : List HV → Option HV := rlF fun R l => if R.length ≤ 1000 ∧ (R.all fun r => decide (r.length ≤ 1000)) = true ∧ l.length ≤ 1000 then some (if okD R ∧ trOk R.length l = true then .tuple [.int .i64 (lenT R l), .int .i64 0] else .tuple [.int .i64 0, .int .i64 2]) else none
open Classical in
noncomputable def improve35 : List HV → Option HV := rlF fun R l => if R.length ≤ 1000 ∧ (R.all fun r => decide (r.length ≤ 1000)) = true ∧ l.length ≤ 1000 then some (if okD R ∧ trOk R.length l = true then .tuple [.own 1 ((impT R l).map encI), .int .i64 0] else .tuple [.own 1 [], .int .i64 2]) else none
def polW : Pol := { pol with prim := fun g => if g == 49 then some withinF else none }
def polL : Pol := { pol with prim := fun g => if g == 16 then some list16 else none }
def polX : Pol := { pol with prim := fun g => if g == 72 then some index72 else none }
def polT : Pol := { pol with prim := fun g => if g == 49 then some withinF else if g == 60 then some contains60 else none }
def polM : Pol := { pol with prim := fun g => if g == 49 then some withinF else if g == 68 then some mile68 else none }
noncomputable def polN : Pol := { pol with prim := fun g => if g == 46 then some miles46 else if g == 57 then some tour57 else if g == 56 then some len56 else none }
noncomputable def polZ : Pol := { pol with prim := fun g => if g == 20 then some awakeF else if g == 15 then some table15 else if g == 16 then some list16 else if g == 34 then some length34 else if g == 35 then some improve35 else if g == 18 then some miles46 else if g == 36 then some tour36 else if g == 37 then some len56 else if g == 59 then some better59 else if g == 26 then some ints26 else none }
end Go.Proofs.Ytlendaofkmhgmaa
end
section
open Go Go.HL
namespace Go.Proofs.Ytlendaofkmhgmaa
def wo (L v : Nat) : Nat := if L.testBit v then L - 2 ^ v else L
def xorOk : Bool := (List.range 2048).all fun L => (List.range 11).all fun v => !L.testBit v || L - 2 ^ v == L ^^^ 2 ^ v
theorem xorOk_true : xorOk = true := by kernel_rfl
theorem wo_bit {L v : Nat} (hL : L < 2048) (hv : v < 11) (u : Nat) : (wo L v).testBit u = (L.testBit u && decide (u ≠ v)) := by
  unfold wo
  split
  · rename_i h
    have h1 := List.all_eq_true.1 (List.all_eq_true.1 xorOk_true L (List.mem_range.2 hL)) v (List.mem_range.2 hv)
    rw [h, Bool.not_true, Bool.false_or, beq_iff_eq] at h1
    rw [h1, Nat.testBit_xor, Nat.testBit_two_pow]
    by_cases e : v = u
    · subst e; simp [h]
    · have e' : u ≠ v := fun h => e h.symm
      simp [e, e']
  · rename_i h
    by_cases e : u = v
    · subst e; simp [nb_false h]
    · simp [e]
theorem wo_le (L v : Nat) : wo L v ≤ L := by unfold wo; split; exact Nat.sub_le _ _; exact Nat.le_refl _
theorem wo_lt {L v : Nat} (h : L.testBit v = true) : wo L v < L := by
  unfold wo
  rw [if_pos h]
  have := Nat.ge_two_pow_of_testBit h
  have : 0 < 2 ^ v := Nat.two_pow_pos v
  omega
theorem bit_lt {L v n : Nat} (hL : L < 2 ^ n) (h : L.testBit v = true) : v < n := by
  rcases Nat.lt_or_ge v n with h1 | h1
  · exact h1
  · have h2 := Nat.ge_two_pow_of_testBit h
    have h3 : 2 ^ n ≤ 2 ^ v := Nat.pow_le_pow_right (by omega) h1
    omega
theorem pow_le {n : Nat} (h : n ≤ 11) : 2 ^ n ≤ 2048 := Nat.pow_le_pow_right (n := 2) (by omega) h
def lst (f : Nat → Int) (L : Nat) : Nat → Nat → Int → Int
  | 0, _, m => m
  | k + 1, i, m => lst f L k (i + 1) (if L.testBit i then (if m < 0 ∨ f i < m then f i else m) else m)
def rsF (d : List (List Int)) : Nat → Nat → Nat → Int
  | 0, s, _ => at2 d s 0
  | k + 1, s, L => if L = 0 then at2 d s 0 else lst (fun v => at2 d s v + rsF d k v (wo L v)) L d.length 0 (-1)
def rsT (d : List (List Int)) (s L : Nat) : Int := rsF d L s L
section
variable {d : List (List Int)}
theorem okD.at (h : okD d) {i j : Nat} (hi : i < d.length) (hj : j < d.length) : 0 ≤ at2 d i j ∧ at2 d i j ≤ 1000 := (h.2.2 i hi j hj).1
end
section
variable {d : List (List Int)}
def pck (g : Nat → Bool) : Nat → Nat → Option Nat
  | 0, _ => none
  | k + 1, i => if g i then some i else pck g k (i + 1)
end
section
variable {d : List (List Int)}
theorem pck_some {g : Nat → Bool} {v : Nat} : ∀ k i, pck g k i = some v → (i ≤ v ∧ v < i + k) ∧ g v = true ∧ ∀ u, i ≤ u → u < v → g u = false := by
  intro k
  induction k with
  | zero => intro i h; cases h
  | succ k ih =>
    intro i h
    rw [pck] at h
    split at h
    · rename_i c
      cases h
      exact ⟨by omega, c, fun u h1 h2 => by omega⟩
    · rename_i c
      obtain ⟨h1, h2, h3⟩ := ih _ h
      refine ⟨by omega, h2, fun u h4 h5 => ?_⟩
      by_cases e : u = i
      · subst e; exact nb_false c
      · exact h3 u (by omega) h5
end
section
variable {d : List (List Int)}
theorem pck_none {g : Nat → Bool} : ∀ k i, pck g k i = none → ∀ u, i ≤ u → u < i + k → g u = false := by
  intro k
  induction k with
  | zero => intro i _ u h1 h2; omega
  | succ k ih =>
    intro i h u h1 h2
    rw [pck] at h
    split at h
    · cases h
    · rename_i c
      by_cases e : u = i
      · subst e; exact nb_false c
      · exact ih _ h u (by omega) (by omega)
end
section
variable {d : List (List Int)}
def Cp (L : Nat) (p : List Int) : Prop := p.Nodup ∧ ∀ v : Int, v ∈ p ↔ 0 ≤ v ∧ L.testBit v.toNat = true
end
section
variable {d : List (List Int)}
theorem Cp.cons {L v : Nat} {p : List Int} (hL : L < 2048) (hv : v < 11) (hb : L.testBit v = true) (h : Cp (wo L v) p) : Cp L ((v : Int) :: p) := by
  refine ⟨List.nodup_cons.2 ⟨fun hm => ?_, h.1⟩, fun u => ?_⟩
  · have := ((h.2 v).1 hm).2
    rw [wo_bit hL hv] at this
    simp at this
  · rw [List.mem_cons, h.2]
    rw [wo_bit hL hv]
    constructor
    · rintro (rfl | ⟨h1, h2⟩)
      · exact ⟨by omega, by rw [Int.toNat_natCast]; exact hb⟩
      · simp only [Bool.and_eq_true] at h2
        exact ⟨h1, h2.1⟩
    · rintro ⟨h1, h2⟩
      by_cases e : u = (v : Int)
      · exact .inl e
      · refine .inr ⟨h1, ?_⟩
        simp only [Bool.and_eq_true, decide_eq_true_eq]
        exact ⟨h2, by omega⟩
end
section
variable {d : List (List Int)}
theorem Cp.tail {L : Nat} {v : Int} {p : List Int} (hL : L < 2048) (h : Cp L (v :: p)) : (0 ≤ v ∧ L.testBit v.toNat = true) ∧ Cp (wo L v.toNat) p := by
  have h1 := (h.2 v).1 (by simp)
  have hv : v.toNat < 11 := bit_lt (n := 11) hL h1.2
  obtain ⟨h2, h3⟩ := List.nodup_cons.1 h.1
  refine ⟨h1, h3, fun u => ?_⟩
  rw [wo_bit hL hv]
  simp only [Bool.and_eq_true, decide_eq_true_eq]
  constructor
  · intro hu
    have h4 := (h.2 u).1 (by simp [hu])
    refine ⟨h4.1, h4.2, fun e => ?_⟩
    have : u = v := by omega
    exact h2 (this ▸ hu)
  · rintro ⟨h4, h5, h6⟩
    have := (h.2 u).2 ⟨h4, h5⟩
    rw [List.mem_cons] at this
    rcases this with rfl | h7
    · exact absurd rfl h6
    · exact h7
end
end Go.Proofs.Ytlendaofkmhgmaa
end
section
open Go Go.HL
namespace Go.Proofs.Ytlendaofkmhgmaa
theorem row_congr {n : Nat} {g h : Nat → Int} (e : ∀ b, b < n → g b = h b) : (List.range n).map g = (List.range n).map h := List.map_congr_left fun b hb => e b (List.mem_range.1 hb)
end Go.Proofs.Ytlendaofkmhgmaa
end
section
open Go Go.HL
namespace Go.Proofs.Ytlendaofkmhgmaa
set_option maxRecDepth 100000
noncomputable def B49 : Code := Try.f49.body.getD .skip
abbrev env49 (v0 v1 v2 v6 : HV) : Env := [(0, v0), (1, v1), (2, v2), (6, v6)]
theorem w49_0 (n lo hi : Int)(g0 : lo ≤ n) (g1 : n ≤ hi) : RunsTo Try.prog pol 49 (sub [] B49) [(0, .i n), (1, .i lo), (2, .i hi)] [] .ret (pol.keys 49) (env49 (.i n) (.i lo) (.i hi) (.bool true)) [] :=
  RunsTo.hin 0 60 [⟨1, 2, .bool true, []⟩, ⟨1, 6, .bool true, []⟩] fun kf hk => ⟨_, by kernel_rfl, (oB [] (decide_eq_true g0) (oB [] (decide_eq_true g1) .nil))⟩
theorem w49_1 (n lo hi : Int)(g0 : lo ≤ n) (g1 : ¬ (n ≤ hi)) : RunsTo Try.prog pol 49 (sub [] B49) [(0, .i n), (1, .i lo), (2, .i hi)] [] .ret (pol.keys 49) (env49 (.i n) (.i lo) (.i hi) (.bool false)) [] :=
  RunsTo.hin 0 60 [⟨1, 2, .bool true, []⟩, ⟨1, 6, .bool false, []⟩] fun kf hk => ⟨_, by kernel_rfl, (oB [] (decide_eq_true g0) (oB [] (decide_eq_false g1) .nil))⟩
theorem w49_2 (n lo hi : Int)(g0 : ¬ (lo ≤ n)) : RunsTo Try.prog pol 49 (sub [] B49) [(0, .i n), (1, .i lo), (2, .i hi)] [] .ret (pol.keys 49) (env49 (.i n) (.i lo) (.i hi) (.bool false)) [] :=
  RunsTo.hin 0 60 [⟨1, 2, .bool false, []⟩] fun kf hk => ⟨_, by kernel_rfl, (oB [] (decide_eq_false g0) .nil)⟩
noncomputable def B16 : Code := Try.f16.body.getD .skip
abbrev env16 (v0 v2 v3 : HV) : Env := [(0, v0), (2, v2), (3, v3)]
theorem li_0 (la : List HV) (m : Nat)(g0 : sliceV Try.prog 23 (.imm .arg 1 la) none (some (.i (min (la.length : Int) 13))) none = some (.imm .arg 1 (la.take m))) (g1 : appV [.arr 1 [] true 0] 1 8 (.sl 0 0 0 none 0 1) (la.take m) = some (.sl 0 0 ((la.take m).length) none ((la.take m).length) 1, [.arr 1 (la.take m) true 0])) : RunsTo Try.prog pol 16 (sub [] B16) [(0, .imm .arg 1 la)] [] .ret (pol.keys 16) (env16 (.imm .arg 1 la) (.sl 0 0 ((la.take m).length) none ((la.take m).length) 1) (.sl 0 0 0 none 0 1)) [.arr 1 (la.take m) true 0] :=
  RunsTo.hin 0 60 [⟨2, 5, .imm .arg 1 (la.take m), [.arr 1 [] true 0]⟩, ⟨2, 6, .sl 0 0 ((la.take m).length) none ((la.take m).length) 1, [.arr 1 (la.take m) true 0]⟩] fun kf hk => ⟨_, by kernel_rfl, (oP [.arr 1 [] true 0] g0 (oC (g1) .nil))⟩
noncomputable def B15 : Code := Try.f15.body.getD .skip
abbrev env15 (v0 v2 v3 v4 : HV) : Env := [(0, v0), (2, v2), (3, v3), (4, v4)]
theorem ta_a_0 (rw : List HV) : RunsTo Try.prog polL 15 (sub [0] B15) [(0, .imm .arg 1 rw)] [] .normal (polL.keys 15) (env15 (.imm .arg 1 rw) (.imm .lit 1 []) .undef .undef) [] :=
  RunsTo.hin 0 60 [] fun kf hk => ⟨_, by kernel_rfl, .nil⟩
theorem ta_b_0 (rw : List HV) : RunsTo Try.prog polL 15 (sub [1, 0] B15) (env15 (.imm .arg 1 rw) (.imm .lit 1 []) .undef .undef) [] .normal (polL.keys 15) (env15 (.imm .arg 1 rw) (.imm .lit 1 []) (.sl 0 0 0 none 0 1) .undef) [.arr 1 [] true 0] :=
  RunsTo.hin 0 60 [] fun kf hk => ⟨_, by kernel_rfl, .nil⟩
theorem ta_c_0 (rw : List HV) (out : List HV) (p : Nat) : RunsTo Try.prog polL 15 (sub [1, 1, 0, 0] B15) (env15 (.imm .arg 1 rw) (.imm .lit 1 []) (.sl 0 0 p none p 1) .undef) [.arr 1 out true 0] .normal (polL.keys 15) (env15 (.imm .arg 1 rw) (.imm .lit 1 []) (.sl 0 0 p none p 1) (.i 0)) [.arr 1 out true 0] :=
  RunsTo.hin 0 60 [] fun kf hk => ⟨_, by kernel_rfl, .nil⟩
theorem ta_l_0 (rw : List HV) (out : List HV) (p : Nat) (i : Nat) (l0 : List HV) (q : Nat) (row : List HV) (w0 : Bool) (g0 : (i : Int) < (rw.length : Int)) (g1 : (i : Int) ≤ 11) (g2 : idxV Try.prog 22 (.imm .arg 1 rw) (.i (i : Int)) = some (.vptr (.imm .arg 1 l0))) (g3 : ∀ kf, callN Try.prog polL (kf + 1) 16 [.imm .arg 1 l0] [.arr 1 out true 0] = some (.sl 1 0 q none q 1, [.arr 1 out true 0, .arr 1 row true 0])) (g4 : litV Try.prog true false 22 1 [(0, .sl 1 0 q none q 1)] [.arr 1 out true 0, .arr 1 row true 0] = some (.imm .lit 1 [.imm .own 1 row], [.arr 1 out true 0, .arr 1 row w0 0])) (g5 : appV [.arr 1 out true 0, .arr 1 row w0 0] 1 24 (.sl 0 0 p none p 1) [.imm .own 1 row] = some (.sl 0 0 (p + 1) none (p + 1) 1, [.arr 1 (out ++ [.imm .own 1 row]) true 0, .arr 1 row w0 0])) : RunsTo Try.prog polL 15 (sub [1, 1, 0, 1, 0, 0] B15) (env15 (.imm .arg 1 rw) (.imm .lit 1 []) (.sl 0 0 p none p 1) (.i (i : Int))) [.arr 1 out true 0] .normal (polL.keys 15) (env15 (.imm .arg 1 rw) (.imm .lit 1 []) (.sl 0 0 (p + 1) none (p + 1) 1) (.i (IntKind.i64.wrap ((i : Int) + 1)))) [.arr 1 (out ++ [.imm .own 1 row]) true 0, .arr 1 row w0 0] :=
  RunsTo.hin 0 60 [⟨3, 3, .bool true, [.arr 1 out true 0]⟩, ⟨3, 6, .bool true, [.arr 1 out true 0]⟩, ⟨5, 3, .vptr (.imm .arg 1 l0), [.arr 1 out true 0]⟩, ⟨5, 5, .sl 1 0 q none q 1, [.arr 1 out true 0, .arr 1 row true 0]⟩, ⟨5, 6, .imm .lit 1 [.imm .own 1 row], [.arr 1 out true 0, .arr 1 row w0 0]⟩, ⟨5, 7, .sl 0 0 (p + 1) none (p + 1) 1, [.arr 1 (out ++ [.imm .own 1 row]) true 0, .arr 1 row w0 0]⟩] fun kf hk => ⟨_, by kernel_rfl, (oB [.arr 1 out true 0] (decide_eq_true g0) (oB [.arr 1 out true 0] (decide_eq_true g1) (oP [.arr 1 out true 0] g2 (oC (g3 kf) (oC (g4) (oC (g5) .nil))))))⟩
theorem ta_l_1 (rw : List HV) (out : List HV) (p : Nat) (i : Nat)(g0 : (i : Int) < (rw.length : Int)) (g1 : ¬ ((i : Int) ≤ 11)) : RunsTo Try.prog polL 15 (sub [1, 1, 0, 1, 0, 0] B15) (env15 (.imm .arg 1 rw) (.imm .lit 1 []) (.sl 0 0 p none p 1) (.i (i : Int))) [.arr 1 out true 0] (.exit 0) (polL.keys 15) (env15 (.imm .arg 1 rw) (.imm .lit 1 []) (.sl 0 0 p none p 1) (.i (i : Int))) [.arr 1 out true 0] :=
  RunsTo.hin 0 60 [⟨3, 3, .bool true, [.arr 1 out true 0]⟩, ⟨3, 6, .bool false, [.arr 1 out true 0]⟩] fun kf hk => ⟨_, by kernel_rfl, (oB [.arr 1 out true 0] (decide_eq_true g0) (oB [.arr 1 out true 0] (decide_eq_false g1) .nil))⟩
theorem ta_l_2 (rw : List HV) (out : List HV) (p : Nat) (i : Nat)(g0 : ¬ ((i : Int) < (rw.length : Int))) : RunsTo Try.prog polL 15 (sub [1, 1, 0, 1, 0, 0] B15) (env15 (.imm .arg 1 rw) (.imm .lit 1 []) (.sl 0 0 p none p 1) (.i (i : Int))) [.arr 1 out true 0] (.exit 0) (polL.keys 15) (env15 (.imm .arg 1 rw) (.imm .lit 1 []) (.sl 0 0 p none p 1) (.i (i : Int))) [.arr 1 out true 0] :=
  RunsTo.hin 0 60 [⟨3, 3, .bool false, [.arr 1 out true 0]⟩] fun kf hk => ⟨_, by kernel_rfl, (oB [.arr 1 out true 0] (decide_eq_false g0) .nil)⟩
theorem ta_z_0 (rw : List HV) (out : List HV) (p : Nat) (i : Nat) : RunsTo Try.prog polL 15 (sub [1, 1, 1] B15) (env15 (.imm .arg 1 rw) (.imm .lit 1 []) (.sl 0 0 p none p 1) (.i (i : Int))) [.arr 1 out true 0] .ret (polL.keys 15) (env15 (.imm .arg 1 rw) (.sl 0 0 p none p 1) (.sl 0 0 p none p 1) (.i (i : Int))) [.arr 1 out true 0] :=
  RunsTo.hin 0 60 [] fun kf hk => ⟨_, by kernel_rfl, .nil⟩
noncomputable def B26 : Code := Try.f26.body.getD .skip
abbrev env26 (v0 v1 v4 v5 : HV) : Env := [(0, v0), (1, v1), (4, v4), (5, v5)]
theorem r26_a_0 (la lb : List HV) : RunsTo Try.prog pol 26 (sub [0] B26) [(0, .imm .arg 1 la), (1, .imm .arg 1 lb)] [] .normal (pol.keys 26) (env26 (.imm .arg 1 la) (.imm .arg 1 lb) (.bool false) .undef) [] :=
  RunsTo.hin 0 60 [] fun kf hk => ⟨_, by kernel_rfl, .nil⟩
theorem r26_b_0 (la lb : List HV)(g0 : (la.length : Int) = (lb.length : Int)) : RunsTo Try.prog pol 26 (sub [1, 0] B26) (env26 (.imm .arg 1 la) (.imm .arg 1 lb) (.bool false) .undef) [] .normal (pol.keys 26) (env26 (.imm .arg 1 la) (.imm .arg 1 lb) (.bool false) .undef) [] :=
  RunsTo.hin 0 60 [⟨1, 4, .bool false, []⟩] fun kf hk => ⟨_, by kernel_rfl, (oB [] (congrArg not (decide_eq_true g0)) .nil)⟩
theorem r26_b_1 (la lb : List HV)(g0 : ¬ ((la.length : Int) = (lb.length : Int))) : RunsTo Try.prog pol 26 (sub [1, 0] B26) (env26 (.imm .arg 1 la) (.imm .arg 1 lb) (.bool false) .undef) [] .ret (pol.keys 26) (env26 (.imm .arg 1 la) (.imm .arg 1 lb) (.bool false) .undef) [] :=
  RunsTo.hin 0 60 [⟨1, 4, .bool true, []⟩] fun kf hk => ⟨_, by kernel_rfl, (oB [] (congrArg not (decide_eq_false g0)) .nil)⟩
theorem r26_c_0 (la lb : List HV) : RunsTo Try.prog pol 26 (sub [1, 1, 0, 0] B26) (env26 (.imm .arg 1 la) (.imm .arg 1 lb) (.bool false) .undef) [] .normal (pol.keys 26) (env26 (.imm .arg 1 la) (.imm .arg 1 lb) (.bool false) (.i 0)) [] :=
  RunsTo.hin 0 60 [] fun kf hk => ⟨_, by kernel_rfl, .nil⟩
theorem r26_l_0 (la lb : List HV) (j : Nat) (x0 : Int) (x1 : Int) (g0 : (j : Int) < (la.length : Int)) (g1 : idxV Try.prog 23 (.imm .arg 1 la) (.i (j : Int)) = some (.vptr (.i x0))) (g2 : idxV Try.prog 23 (.imm .arg 1 lb) (.i (j : Int)) = some (.vptr (.i x1))) (g3 : x0 = x1) : RunsTo Try.prog pol 26 (sub [1, 1, 0, 1, 0, 0] B26) (env26 (.imm .arg 1 la) (.imm .arg 1 lb) (.bool false) (.i (j : Int))) [] .normal (pol.keys 26) (env26 (.imm .arg 1 la) (.imm .arg 1 lb) (.bool false) (.i (IntKind.i64.wrap ((j : Int) + 1)))) [] :=
  RunsTo.hin 0 60 [⟨4, 3, .bool true, []⟩, ⟨6, 2, .vptr (.i x0), []⟩, ⟨6, 6, .vptr (.i x1), []⟩, ⟨6, 8, .bool false, []⟩] fun kf hk => ⟨_, by kernel_rfl, (oB [] (decide_eq_true g0) (oP [] g1 (oP [] g2 (oB [] (congrArg not (decide_eq_true g3)) .nil))))⟩
theorem r26_l_1 (la lb : List HV) (j : Nat) (x0 : Int) (x1 : Int) (g0 : (j : Int) < (la.length : Int)) (g1 : idxV Try.prog 23 (.imm .arg 1 la) (.i (j : Int)) = some (.vptr (.i x0))) (g2 : idxV Try.prog 23 (.imm .arg 1 lb) (.i (j : Int)) = some (.vptr (.i x1))) (g3 : ¬ (x0 = x1)) : RunsTo Try.prog pol 26 (sub [1, 1, 0, 1, 0, 0] B26) (env26 (.imm .arg 1 la) (.imm .arg 1 lb) (.bool false) (.i (j : Int))) [] .ret (pol.keys 26) (env26 (.imm .arg 1 la) (.imm .arg 1 lb) (.bool false) (.i (j : Int))) [] :=
  RunsTo.hin 0 60 [⟨4, 3, .bool true, []⟩, ⟨6, 2, .vptr (.i x0), []⟩, ⟨6, 6, .vptr (.i x1), []⟩, ⟨6, 8, .bool true, []⟩] fun kf hk => ⟨_, by kernel_rfl, (oB [] (decide_eq_true g0) (oP [] g1 (oP [] g2 (oB [] (congrArg not (decide_eq_false g3)) .nil))))⟩
theorem r26_l_2 (la lb : List HV) (j : Nat)(g0 : ¬ ((j : Int) < (la.length : Int))) : RunsTo Try.prog pol 26 (sub [1, 1, 0, 1, 0, 0] B26) (env26 (.imm .arg 1 la) (.imm .arg 1 lb) (.bool false) (.i (j : Int))) [] (.exit 0) (pol.keys 26) (env26 (.imm .arg 1 la) (.imm .arg 1 lb) (.bool false) (.i (j : Int))) [] :=
  RunsTo.hin 0 60 [⟨4, 3, .bool false, []⟩] fun kf hk => ⟨_, by kernel_rfl, (oB [] (decide_eq_false g0) .nil)⟩
theorem r26_z_0 (la lb : List HV) (j : Nat) : RunsTo Try.prog pol 26 (sub [1, 1, 1] B26) (env26 (.imm .arg 1 la) (.imm .arg 1 lb) (.bool false) (.i (j : Int))) [] .ret (pol.keys 26) (env26 (.imm .arg 1 la) (.imm .arg 1 lb) (.bool true) (.i (j : Int))) [] :=
  RunsTo.hin 0 60 [] fun kf hk => ⟨_, by kernel_rfl, .nil⟩
noncomputable def B72 : Code := Try.f72.body.getD .skip
abbrev env72 (v0 v1 v4 v5 v7 v8 : HV) : Env := [(0, v0), (1, v1), (4, v4), (5, v5), (7, v7), (8, v8)]
theorem ix_a_0 (la : List HV) (v : Int) : RunsTo Try.prog pol 72 (sub [0] B72) [(0, .imm .arg 1 la), (1, .i v)] [] .normal (pol.keys 72) (env72 (.imm .arg 1 la) (.i v) (.i 0) .undef .undef .undef) [] :=
  RunsTo.hin 0 60 [] fun kf hk => ⟨_, by kernel_rfl, .nil⟩
theorem ix_b_0 (la : List HV) (v : Int) : RunsTo Try.prog pol 72 (sub [1, 0, 0] B72) (env72 (.imm .arg 1 la) (.i v) (.i 0) .undef .undef .undef) [] .normal (pol.keys 72) (env72 (.imm .arg 1 la) (.i v) (.i 0) .undef (.i (la.length : Int)) (.i 0)) [] :=
  RunsTo.hin 0 60 [] fun kf hk => ⟨_, by kernel_rfl, .nil⟩
theorem ix_l_0 (la : List HV) (v : Int) (j : Nat) (x0 : Int) (g0 : (j : Int) < (la.length : Int)) (g1 : idxV Try.prog 23 (.imm .arg 1 la) (.i (j : Int)) = some (.vptr (.i x0))) (g2 : v = x0) : RunsTo Try.prog pol 72 (sub [1, 0, 1, 0, 0] B72) (env72 (.imm .arg 1 la) (.i v) (.i 0) .undef (.i (la.length : Int)) (.i (j : Int))) [] .ret (pol.keys 72) (env72 (.imm .arg 1 la) (.i v) (.i (j : Int)) (.i (j : Int)) (.i (la.length : Int)) (.i (j : Int))) [] :=
  RunsTo.hin 0 60 [⟨2, 0, .bool true, []⟩, ⟨4, 3, .vptr (.i x0), []⟩, ⟨4, 5, .bool true, []⟩] fun kf hk => ⟨_, by kernel_rfl, (oB [] (decide_eq_true g0) (oP [] g1 (oB [] (decide_eq_true g2) .nil)))⟩
theorem ix_l_1 (la : List HV) (v : Int) (j : Nat) (x0 : Int) (g0 : (j : Int) < (la.length : Int)) (g1 : idxV Try.prog 23 (.imm .arg 1 la) (.i (j : Int)) = some (.vptr (.i x0))) (g2 : ¬ (v = x0)) : RunsTo Try.prog pol 72 (sub [1, 0, 1, 0, 0] B72) (env72 (.imm .arg 1 la) (.i v) (.i 0) .undef (.i (la.length : Int)) (.i (j : Int))) [] .normal (pol.keys 72) (env72 (.imm .arg 1 la) (.i v) (.i 0) (.i (j : Int)) (.i (la.length : Int)) (.i (IntKind.i64.wrap ((j : Int) + 1)))) [] :=
  RunsTo.hin 0 60 [⟨2, 0, .bool true, []⟩, ⟨4, 3, .vptr (.i x0), []⟩, ⟨4, 5, .bool false, []⟩] fun kf hk => ⟨_, by kernel_rfl, (oB [] (decide_eq_true g0) (oP [] g1 (oB [] (decide_eq_false g2) .nil)))⟩
theorem ix_l_2 (la : List HV) (v : Int) (j : Nat)(g0 : ¬ ((j : Int) < (la.length : Int))) : RunsTo Try.prog pol 72 (sub [1, 0, 1, 0, 0] B72) (env72 (.imm .arg 1 la) (.i v) (.i 0) .undef (.i (la.length : Int)) (.i (j : Int))) [] (.exit 0) (pol.keys 72) (env72 (.imm .arg 1 la) (.i v) (.i 0) .undef (.i (la.length : Int)) (.i (j : Int))) [] :=
  RunsTo.hin 0 60 [⟨2, 0, .bool false, []⟩] fun kf hk => ⟨_, by kernel_rfl, (oB [] (decide_eq_false g0) .nil)⟩
theorem ix_z_0 (la : List HV) (v : Int) (j : Nat) : RunsTo Try.prog pol 72 (sub [1, 1] B72) (env72 (.imm .arg 1 la) (.i v) (.i 0) .undef (.i (la.length : Int)) (.i (j : Int))) [] .ret (pol.keys 72) (env72 (.imm .arg 1 la) (.i v) (.i (-1)) .undef (.i (la.length : Int)) (.i (j : Int))) [] :=
  RunsTo.hin 0 60 [] fun kf hk => ⟨_, by kernel_rfl, .nil⟩
noncomputable def B60 : Code := Try.f60.body.getD .skip
abbrev env60 (v0 v1 v4 : HV) : Env := [(0, v0), (1, v1), (4, v4)]
theorem ct_0 (la : List HV) (x : Int) (r : Int) (g0 : ∀ kf, callN Try.prog polX (kf + 1) 72 [.imm .arg 1 la, .i x] [] = some (.i r, [])) (g1 : 0 ≤ r) : RunsTo Try.prog polX 60 (sub [] B60) [(0, .imm .arg 1 la), (1, .i x)] [] .ret (polX.keys 60) (env60 (.imm .arg 1 la) (.i x) (.bool true)) [] :=
  RunsTo.hin 0 60 [⟨1, 2, .i r, []⟩, ⟨1, 3, .bool true, []⟩] fun kf hk => ⟨_, by kernel_rfl, (oC (g0 kf) (oB [] (decide_eq_true g1) .nil))⟩
theorem ct_1 (la : List HV) (x : Int) (r : Int) (g0 : ∀ kf, callN Try.prog polX (kf + 1) 72 [.imm .arg 1 la, .i x] [] = some (.i r, [])) (g1 : ¬ (0 ≤ r)) : RunsTo Try.prog polX 60 (sub [] B60) [(0, .imm .arg 1 la), (1, .i x)] [] .ret (polX.keys 60) (env60 (.imm .arg 1 la) (.i x) (.bool false)) [] :=
  RunsTo.hin 0 60 [⟨1, 2, .i r, []⟩, ⟨1, 3, .bool false, []⟩] fun kf hk => ⟨_, by kernel_rfl, (oC (g0 kf) (oB [] (decide_eq_false g1) .nil))⟩
noncomputable def B56 : Code := Try.f56.body.getD .skip
abbrev env56 (v0 v1 v4 v5 v6 v7 v8 v9 v10 : HV) : Env := [(0, v0), (1, v1), (4, v4), (5, v5), (6, v6), (7, v7), (8, v8), (9, v9), (10, v10)]
theorem ml_a_0 (rw la : List HV) : RunsTo Try.prog pol 56 (sub [0] B56) [(0, .imm .arg 1 rw), (1, .imm .arg 1 la)] [] .normal (pol.keys 56) (env56 (.imm .arg 1 rw) (.imm .arg 1 la) (.i 0) .undef .undef .undef .undef .undef .undef) [] :=
  RunsTo.hin 0 60 [] fun kf hk => ⟨_, by kernel_rfl, .nil⟩
theorem ml_b_0 (rw la : List HV) : RunsTo Try.prog pol 56 (sub [1, 0] B56) (env56 (.imm .arg 1 rw) (.imm .arg 1 la) (.i 0) .undef .undef .undef .undef .undef .undef) [] .normal (pol.keys 56) (env56 (.imm .arg 1 rw) (.imm .arg 1 la) (.i 0) (.i 0) .undef .undef .undef .undef .undef) [] :=
  RunsTo.hin 0 60 [] fun kf hk => ⟨_, by kernel_rfl, .nil⟩
theorem ml_c_0 (rw la : List HV) (sm : Int) : RunsTo Try.prog pol 56 (sub [1, 1, 0, 0] B56) (env56 (.imm .arg 1 rw) (.imm .arg 1 la) (.i 0) (.i sm) .undef .undef .undef .undef .undef) [] .normal (pol.keys 56) (env56 (.imm .arg 1 rw) (.imm .arg 1 la) (.i 0) (.i sm) .undef .undef (.imm .arg 1 la) (.i (la.length : Int)) (.i 0)) [] :=
  RunsTo.hin 0 60 [] fun kf hk => ⟨_, by kernel_rfl, .nil⟩
theorem ml_l_0 (rw la : List HV) (sm : Int) (j : Nat) (x0 : Int) (l0 : List HV) (x1 : Int) (x2 : Int) (g0 : (j : Int) < (la.length : Int)) (g1 : idxV Try.prog 23 (.imm .arg 1 la) (.i (j : Int)) = some (.vptr (.i x0))) (g2 : idxV Try.prog 68 (.imm .arg 1 rw) (.i x0) = some (.vptr (.imm .arg 1 l0))) (g3 : binV Try.prog .rem 3 (.i (IntKind.i64.wrap ((j : Int) + 1))) (.i (la.length : Int)) = some (.i ((IntKind.i64.wrap ((j : Int) + 1) : Int).tmod (la.length : Int)))) (g4 : idxV Try.prog 23 (.imm .arg 1 la) (.i ((IntKind.i64.wrap ((j : Int) + 1) : Int).tmod (la.length : Int))) = some (.vptr (.i x1))) (g5 : idxV Try.prog 23 (.imm .arg 1 l0) (.i x1) = some (.vptr (.i x2))) : RunsTo Try.prog pol 56 (sub [1, 1, 0, 1, 0, 0] B56) (env56 (.imm .arg 1 rw) (.imm .arg 1 la) (.i 0) (.i sm) .undef .undef (.imm .arg 1 la) (.i (la.length : Int)) (.i (j : Int))) [] .normal (pol.keys 56) (env56 (.imm .arg 1 rw) (.imm .arg 1 la) (.i 0) (.i (IntKind.i64.wrap (sm + x2))) (.i (j : Int)) (.i x0) (.imm .arg 1 la) (.i (la.length : Int)) (.i (IntKind.i64.wrap ((j : Int) + 1)))) [] :=
  RunsTo.hin 0 60 [⟨3, 0, .bool true, []⟩, ⟨4, 1, .vptr (.i x0), []⟩, ⟨5, 3, .vptr (.imm .arg 1 l0), []⟩, ⟨5, 10, .i ((IntKind.i64.wrap ((j : Int) + 1) : Int).tmod (la.length : Int)), []⟩, ⟨5, 11, .vptr (.i x1), []⟩, ⟨5, 13, .vptr (.i x2), []⟩] fun kf hk => ⟨_, by kernel_rfl, (oB [] (decide_eq_true g0) (oP [] g1 (oP [] g2 (oP [] g3 (oP [] g4 (oP [] g5 .nil))))))⟩
theorem ml_l_1 (rw la : List HV) (sm : Int) (j : Nat)(g0 : ¬ ((j : Int) < (la.length : Int))) : RunsTo Try.prog pol 56 (sub [1, 1, 0, 1, 0, 0] B56) (env56 (.imm .arg 1 rw) (.imm .arg 1 la) (.i 0) (.i sm) .undef .undef (.imm .arg 1 la) (.i (la.length : Int)) (.i (j : Int))) [] (.exit 0) (pol.keys 56) (env56 (.imm .arg 1 rw) (.imm .arg 1 la) (.i 0) (.i sm) .undef .undef (.imm .arg 1 la) (.i (la.length : Int)) (.i (j : Int))) [] :=
  RunsTo.hin 0 60 [⟨3, 0, .bool false, []⟩] fun kf hk => ⟨_, by kernel_rfl, (oB [] (decide_eq_false g0) .nil)⟩
theorem ml_z_0 (rw la : List HV) (sm : Int) (j : Nat) : RunsTo Try.prog pol 56 (sub [1, 1, 1] B56) (env56 (.imm .arg 1 rw) (.imm .arg 1 la) (.i 0) (.i sm) .undef .undef (.imm .arg 1 la) (.i (la.length : Int)) (.i (j : Int))) [] .ret (pol.keys 56) (env56 (.imm .arg 1 rw) (.imm .arg 1 la) (.i sm) (.i sm) .undef .undef (.imm .arg 1 la) (.i (la.length : Int)) (.i (j : Int))) [] :=
  RunsTo.hin 0 60 [] fun kf hk => ⟨_, by kernel_rfl, .nil⟩
end Go.Proofs.Ytlendaofkmhgmaa
end
section
open Go Go.HL
namespace Go.Proofs.Ytlendaofkmhgmaa
theorem within_ok : PrimOk Try.prog 49 withinF := by
  refine primOk_pure (pol := pol) (fn := Try.f49) (cd := B49) follows_mixed sound (by kernel_rfl) (by kernel_rfl) (fnok pol.prim _ _ (by kernel_rfl)) (by kernel_rfl) ?_
  intro args res h
  unfold withinF at h
  split at h
  · rename_i n lo hi
    cases h
    have hr : Try.f49.results.toList = [.tmp 6] := by kernel_rfl
    by_cases g0 : lo ≤ n
    · by_cases g1 : n ≤ hi
      · exact ⟨_, _, _, _, w49_0 n lo hi g0 g1, by simp, by simp only [resultsV, hr]; rfl, by rw [decide_eq_true ⟨g0, g1⟩]; rfl⟩
      · exact ⟨_, _, _, _, w49_1 n lo hi g0 g1, by simp, by simp only [resultsV, hr]; rfl, by rw [decide_eq_false (fun h => g1 h.2)]; rfl⟩
    · exact ⟨_, _, _, _, w49_2 n lo hi g0, by simp, by simp only [resultsV, hr]; rfl, by rw [decide_eq_false (fun h => g0 h.1)]; rfl⟩
  · cases h
theorem liF_inv {f : List Int → Option HV} {args : List HV} {res : HV} (h : liF f args = some res) : ∃ l, args = [.imm .arg 1 (l.map encI)] ∧ f l = some res := by
  unfold liF at h
  split at h
  · rename_i la
    split at h
    · rename_i l hl
      exact ⟨l, by rw [mapO_inv decI_inv hl], h⟩
    · cases h
  · cases h
theorem rwF_inv {f : List (List Int) → Option HV} {args : List HV} {res : HV} (h : rwF f args = some res) : ∃ l, args = [.imm .arg 1 (l.map encR)] ∧ f l = some res := by
  unfold rwF at h
  split at h
  · rename_i la
    split at h
    · rename_i l hl
      exact ⟨l, by rw [mapO_inv decR_inv hl], h⟩
    · cases h
  · cases h
theorem rlF_inv {f : List (List Int) → List Int → Option HV} {args : List HV} {res : HV} (h : rlF f args = some res) : ∃ R l, args = [.imm .arg 1 (R.map encR), .imm .arg 1 (l.map encI)] ∧ f R l = some res := by
  unfold rlF at h
  split at h
  · rename_i la
    split at h
    · rename_i R l hR hl
      exact ⟨R, l, by rw [mapO_inv decR_inv hR, mapO_inv decI_inv hl], h⟩
    · cases h
  · cases h
theorem llF_inv {f : List Int → List Int → Option HV} {args : List HV} {res : HV} (h : llF f args = some res) : ∃ R l, args = [.imm .arg 1 (R.map encI), .imm .arg 1 (l.map encI)] ∧ f R l = some res := by
  unfold llF at h
  split at h
  · rename_i la
    split at h
    · rename_i R l hR hl
      exact ⟨R, l, by rw [mapO_inv decI_inv hR, mapO_inv decI_inv hl], h⟩
    · cases h
  · cases h
theorem lnF_inv {f : List Int → Int → Option HV} {args : List HV} {res : HV} (h : lnF f args = some res) : ∃ l v, args = [.imm .arg 1 (l.map encI), .int .i64 v] ∧ f l v = some res := by
  unfold lnF at h
  split at h
  · rename_i la v
    split at h
    · rename_i l hl
      exact ⟨l, v, by rw [mapO_inv decI_inv hl], h⟩
    · cases h
  · cases h
theorem slice_imm {w : Nat} {l : List HV} (hw : w ≤ l.length) : sliceV Try.prog 23 (.imm .arg 1 l) none (some (.int .i64 (w : Int))) none = some (.imm .arg 1 (l.take w)) := by
  simp only [sliceV, boundV, u23, z3]
  rw [if_pos (by omega : (0 : Int) ≤ (w : Int))]
  simp [hw]
theorem take_min {α : Type} (l : List α) (k : Nat) : l.take (min l.length k) = l.take k := by
  rw [List.take_eq_take_iff]; omega
theorem res16 : Try.f16.results.toList = [.tmp 2] := by kernel_rfl
theorem list_ok : PrimOk Try.prog 16 list16 := by
  refine primOk_pure (pol := pol) (fn := Try.f16) (cd := B16) follows_mixed sound (by kernel_rfl) (by kernel_rfl) (fnok pol.prim _ _ (by kernel_rfl)) (by kernel_rfl) ?_
  intro args res h
  obtain ⟨l, rfl, hq⟩ := liF_inv h
  clear h
  have h := hq
  clear hq
  cases h
  have hmin : min ((l.map encI).length : Int) 13 = ((min l.length 13 : Nat) : Int) := by rw [List.length_map]; omega
  have hw : (l.map encI).take (min l.length 13) = (l.take 13).map encI := by rw [← List.map_take, take_min]
  have s1 := li_0 (l.map encI) (min l.length 13) (by rw [hmin]; exact slice_imm (by rw [List.length_map]; omega)) (by
    rw [hw]
    by_cases h0 : l.take 13 = []
    · rw [h0]; rfl
    · have hlen : (l.take 13).length ≤ 13 := by rw [List.length_take]; omega
      have := app_ints (H := [bI []]) (b := 0) (o := []) (xs := l.take 13) rfl (by simp; omega) h0
      rw [List.nil_append] at this
      simpa [bI] using this)
  rw [hw] at s1
  refine ⟨_, _, _, .sl 0 0 ((l.take 13).map encI).length none ((l.take 13).map encI).length 1, s1, by simp, by simp only [resultsV, res16]; rfl, ?_⟩
  exact res_li (b := 0) rfl (by simp)
theorem res26 : Try.f26.results.toList = [.tmp 4] := by kernel_rfl
abbrev iE (la lb : List HV) (j : Nat) : Env := env26 (.imm .arg 1 la) (.imm .arg 1 lb) (.bool false) (.int .i64 (j : Int))
theorem getD_at {o : List Int} {y : Nat} (h : y < o.length) : o.getD y 0 = o[y] := by simp [List.getD, List.getElem?_eq_getElem h]
theorem ints_loop (a b : List Int) (hl : a.length = b.length) (hl2 : a.length ≤ 1000) : ∀ (d j : Nat), j + d = a.length →
    ∃ x E, RunsTo Try.prog pol 26 (sub [1, 1, 0, 1, 0] B26) (iE (a.map encI) (b.map encI) j) [] x (pol.keys 26) E [] ∧
      ((a.drop j = b.drop j ∧ x = .exit 0 ∧ E = iE (a.map encI) (b.map encI) a.length) ∨ (a.drop j ≠ b.drop j ∧ x = .ret ∧ E.get 4 = .bool false)) := by
  intro d
  induction d with
  | zero =>
    intro j hj
    have hj : j = a.length := by omega
    subst hj
    exact ⟨_, _, RunsTo.loop_out (r26_l_2 (a.map encI) (b.map encI) a.length (by simp)) (by simp) (by kernel_rfl) (by kernel_rfl), .inl ⟨by rw [List.drop_length, hl, List.drop_length], rfl, rfl⟩⟩
  | succ d ih =>
    intro j hj
    have hja : j < a.length := by omega
    have hjb : j < b.length := by omega
    rw [List.drop_eq_getElem_cons hja, List.drop_eq_getElem_cons hjb]
    have g1 := gx hja
    have g2 := gx hjb
    rw [getD_at hja] at g1
    rw [getD_at hjb] at g2
    by_cases he : a[j] = b[j]
    · obtain ⟨x, E, h1, h2⟩ := ih (j + 1) (by omega)
      have s1 := r26_l_0 (a.map encI) (b.map encI) j _ _ (by simp; omega) g1 g2 he
      rw [wrap_succ (by omega)] at s1
      refine ⟨x, E, RunsTo.loop s1 (by kernel_rfl) rfl h1 rfl (by kernel_rfl) (by kernel_rfl), ?_⟩
      rw [he]
      simpa only [List.cons.injEq, true_and, ne_eq] using h2
    · have s1 := r26_l_1 (a.map encI) (b.map encI) j _ _ (by simp; omega) g1 g2 he
      exact ⟨_, _, RunsTo.loop_out s1 (by simp) (by kernel_rfl) (by kernel_rfl), .inr ⟨fun h => he (List.cons.inj h).1, rfl, rfl⟩⟩
theorem ints_ok : PrimOk Try.prog 26 ints26 := by
  refine primOk_pure (pol := pol) (fn := Try.f26) (cd := B26) follows_mixed sound (by kernel_rfl) (by kernel_rfl) (fnok pol.prim _ _ (by kernel_rfl)) (by kernel_rfl) ?_
  intro args res h
  obtain ⟨a, b, rfl, hq⟩ := llF_inv h
  clear h
  have h := hq
  clear hq
  split at h
  · rename_i hlen
    cases h
    have a1 := r26_a_0 (a.map encI) (b.map encI)
    by_cases hl : a.length = b.length
    · have b1 := r26_b_0 (a.map encI) (b.map encI) (by simp [hl])
      have c1 := r26_c_0 (a.map encI) (b.map encI)
      obtain ⟨x, E, h1, h2⟩ := ints_loop a b hl hlen a.length 0 (by omega)
      rw [List.drop_zero, List.drop_zero] at h2
      rcases h2 with ⟨k1, rfl, rfl⟩ | ⟨k1, rfl, k2⟩
      · have t1 := RunsTo.seq c1 (RunsTo.block_exit (c := sub [1, 1, 0, 1] B26) h1 (by kernel_rfl)) (c := sub [1, 1, 0] B26) (by kernel_rfl) (by kernel_rfl)
        have t2 := RunsTo.seq t1 (r26_z_0 (a.map encI) (b.map encI) a.length) (c := sub [1, 1] B26) (by kernel_rfl) (by kernel_rfl)
        have t3 := RunsTo.seq b1 t2 (c := sub [1] B26) (by kernel_rfl) (by kernel_rfl)
        have t4 := RunsTo.seq a1 t3 (c := B26) (by kernel_rfl) (by kernel_rfl)
        exact ⟨_, _, _, .bool (decide (a = b)), t4, by simp, by rw [decide_eq_true k1]; simp only [resultsV, res26]; rfl, rfl⟩
      · have t1 := RunsTo.seq c1 (RunsTo.block_ret (c := sub [1, 1, 0, 1] B26) (i := 0) h1 (by kernel_rfl)) (c := sub [1, 1, 0] B26) (by kernel_rfl) (by kernel_rfl)
        have t2 := RunsTo.seq_out t1 (by simp) (c := sub [1, 1] B26) (b := sub [1, 1, 1] B26) (by kernel_rfl)
        have t3 := RunsTo.seq b1 t2 (c := sub [1] B26) (by kernel_rfl) (by kernel_rfl)
        have t4 := RunsTo.seq a1 t3 (c := B26) (by kernel_rfl) (by kernel_rfl)
        exact ⟨_, _, _, .bool (decide (a = b)), t4, by simp, by rw [decide_eq_false k1]; simp only [resultsV, res26, mapO, resultV, k2], rfl⟩
    · have b1 := r26_b_1 (a.map encI) (b.map encI) (by simp; omega)
      have t3 := RunsTo.seq_out b1 (by simp) (c := sub [1] B26) (b := sub [1, 1] B26) (by kernel_rfl)
      have t4 := RunsTo.seq a1 t3 (c := B26) (by kernel_rfl) (by kernel_rfl)
      exact ⟨_, _, _, .bool (decide (a = b)), t4, by simp, by rw [decide_eq_false (fun h => hl (by rw [h]))]; simp only [resultsV, res26]; rfl, rfl⟩
  · cases h
theorem res72 : Try.f72.results.toList = [.tmp 4] := by kernel_rfl
abbrev ixE (la : List HV) (v : Int) (j : Nat) : Env := env72 (.imm .arg 1 la) (.int .i64 v) (.int .i64 0) .undef (.int .i64 (la.length : Int)) (.int .i64 (j : Int))
theorem index_loop (l : List Int) (v : Int) (hl : l.length ≤ 1000) : ∀ (d j : Nat), j + d = l.length →
    ∃ x E, RunsTo Try.prog pol 72 (sub [1, 0, 1, 0] B72) (ixE (l.map encI) v j) [] x (pol.keys 72) E [] ∧
      ((idxFrom v j (l.drop j) = -1 ∧ x = .exit 0 ∧ E = ixE (l.map encI) v l.length) ∨ (x = .ret ∧ E.get 4 = .int .i64 (idxFrom v j (l.drop j)))) := by
  intro d
  induction d with
  | zero =>
    intro j hj
    have hj : j = l.length := by omega
    subst hj
    exact ⟨_, _, RunsTo.loop_out (ix_l_2 (l.map encI) v l.length (by simp)) (by simp) (by kernel_rfl) (by kernel_rfl), .inl ⟨by rw [List.drop_length]; rfl, rfl, rfl⟩⟩
  | succ d ih =>
    intro j hj
    have hjl : j < l.length := by omega
    have g1 := gx hjl
    rw [getD_at hjl] at g1
    rw [List.drop_eq_getElem_cons hjl, idxFrom]
    by_cases he : v = l[j]
    · rw [if_pos he]
      have s1 := ix_l_0 (l.map encI) v j _ (by simp; omega) g1 he
      exact ⟨_, _, RunsTo.loop_out s1 (by simp) (by kernel_rfl) (by kernel_rfl), .inr ⟨rfl, rfl⟩⟩
    · rw [if_neg he]
      obtain ⟨x, E, h1, h2⟩ := ih (j + 1) (by omega)
      have s1 := ix_l_1 (l.map encI) v j _ (by simp; omega) g1 he
      rw [wrap_succ (by omega)] at s1
      exact ⟨x, E, RunsTo.loop s1 (by kernel_rfl) rfl h1 rfl (by kernel_rfl) (by kernel_rfl), h2⟩
theorem index_ok : PrimOk Try.prog 72 index72 := by
  refine primOk_pure (pol := pol) (fn := Try.f72) (cd := B72) follows_mixed sound (by kernel_rfl) (by kernel_rfl) (fnok pol.prim _ _ (by kernel_rfl)) (by kernel_rfl) ?_
  intro args res h
  obtain ⟨l, v, rfl, hq⟩ := lnF_inv h
  clear h
  have h := hq
  clear hq
  split at h
  · rename_i hlen
    cases h
    have a1 := ix_a_0 (l.map encI) v
    have b1 := ix_b_0 (l.map encI) v
    obtain ⟨x, E, h1, h2⟩ := index_loop l v hlen l.length 0 (by omega)
    rw [List.drop_zero] at h2
    rcases h2 with ⟨k1, rfl, rfl⟩ | ⟨rfl, k2⟩
    · have t1 := RunsTo.seq b1 (RunsTo.block_exit (c := sub [1, 0, 1] B72) h1 (by kernel_rfl)) (c := sub [1, 0] B72) (by kernel_rfl) (by kernel_rfl)
      have t2 := RunsTo.seq t1 (ix_z_0 (l.map encI) v l.length) (c := sub [1] B72) (by kernel_rfl) (by kernel_rfl)
      have t3 := RunsTo.seq a1 t2 (c := B72) (by kernel_rfl) (by kernel_rfl)
      exact ⟨_, _, _, .int .i64 (idxFrom v 0 l), t3, by simp, by rw [k1]; simp only [resultsV, res72]; rfl, rfl⟩
    · have t1 := RunsTo.seq b1 (RunsTo.block_ret (c := sub [1, 0, 1] B72) (i := 0) h1 (by kernel_rfl)) (c := sub [1, 0] B72) (by kernel_rfl) (by kernel_rfl)
      have t2 := RunsTo.seq_out t1 (by simp) (c := sub [1] B72) (b := sub [1, 1] B72) (by kernel_rfl)
      have t3 := RunsTo.seq a1 t2 (c := B72) (by kernel_rfl) (by kernel_rfl)
      exact ⟨_, _, _, .int .i64 (idxFrom v 0 l), t3, by simp, by simp only [resultsV, res72, mapO, resultV, k2], rfl⟩
  · cases h
theorem soundX (n : Nat) : CallSound Try.prog (callN Try.prog polX n) := sound_prim _ (fun g f h => by
  split at h
  · rename_i hg; cases h; rw [eq_of_beq hg]; exact index_ok
  · cases h) n
theorem idxFrom_mem (v : Int) : ∀ (l : List Int) (j : Nat), 0 ≤ idxFrom v j l ↔ v ∈ l
  | [], j => by simp [idxFrom]
  | x :: l, j => by
    rw [idxFrom]
    by_cases h : v = x
    · subst h; simp
    · have h' : ¬ x = v := fun e => h e.symm
      simp [h, h', idxFrom_mem v l (j + 1)]
theorem res60 : Try.f60.results.toList = [.tmp 4] := by kernel_rfl
theorem contains_ok : PrimOk Try.prog 60 contains60 := by
  refine primOk_pure (pol := polX) (fn := Try.f60) (cd := B60) follows_mixed soundX (by kernel_rfl) (by kernel_rfl) (fnok polX.prim _ _ (by kernel_rfl)) (by kernel_rfl) ?_
  intro args res h
  obtain ⟨l, v, rfl, hq⟩ := lnF_inv h
  clear h
  have h := hq
  clear hq
  split at h
  · rename_i hl
    cases h
    have hc : ∀ k, callN Try.prog polX (k + 1) 72 [.imm .arg 1 (l.map encI), .int .i64 v] [] = some (.int .i64 (idxFrom v 0 l), []) := fun k => by
      rw [prim_call (pol := polX) (g := 72) (F := index72) (by kernel_rfl) (rs := [.imm .arg 1 (l.map encI), .int .i64 v]) (by simp only [mapO, arg_li]; rfl) (res := .int .i64 (idxFrom v 0 l)) (by simp only [index72, lnF, mapO_map decI_enc]; rw [if_pos hl])]; rfl
    by_cases hm : v ∈ l
    · rw [decide_eq_true hm]
      exact ⟨_, _, _, _, ct_0 (l.map encI) v _ hc ((idxFrom_mem v l 0).2 hm), by simp, by simp only [resultsV, res60]; rfl, rfl⟩
    · rw [decide_eq_false hm]
      exact ⟨_, _, _, _, ct_1 (l.map encI) v _ hc (fun h => hm ((idxFrom_mem v l 0).1 h)), by simp, by simp only [resultsV, res60]; rfl, rfl⟩
  · cases h
theorem at_bd {d : List (List Int)} (h : okD d) {i j : Nat} (hi : i < d.length) (hj : j < d.length) : 0 ≤ at2 d i j ∧ at2 d i j ≤ 1000 := (h.2.2 i hi j hj).1
theorem inT_at {n : Nat} {l : List Int} (h : inT n l) {j : Nat} (hj : j < l.length) : 0 ≤ l.getD j 0 ∧ (l.getD j 0).toNat < n := by
  have := h (l.getD j 0) (by rw [getD_at hj]; exact List.getElem_mem hj)
  omega
theorem rem_len {j n : Nat} (hn : 0 < n) (hj : j < 1000000) : binV Try.prog .rem 3 (.int .i64 (IntKind.i64.wrap ((j : Int) + 1))) (.int .i64 (n : Int)) = some (.int .i64 ((IntKind.i64.wrap ((j : Int) + 1) : Int).tmod (n : Int))) ∧ (IntKind.i64.wrap ((j : Int) + 1) : Int).tmod (n : Int) = (((j + 1) % n : Nat) : Int) := by
  refine ⟨?_, ?_⟩
  · have : (n : Int) ≠ 0 := by omega
    simp only [binV, intBin, if_neg this, if_true]
  · rw [wrap_succ (by omega), ← Int.ofNat_tmod]
theorem getR_len {d : List (List Int)} (h : okD d) {i : Nat} (hi : i < d.length) : (d.getD i []).length = d.length := h.2.1 i hi
section
variable {d : List (List Int)} {l : List Int}
theorem len_args (h : okD d) (hl : inT d.length l) {j : Nat} (hj : j < l.length) : ∃ a b : Int, l.getD j 0 = a ∧ l.getD ((j + 1) % l.length) 0 = b ∧ (0 ≤ a ∧ a.toNat < d.length) ∧ (0 ≤ b ∧ b.toNat < d.length) ∧ (j + 1) % l.length < l.length := by
  have hm : (j + 1) % l.length < l.length := Nat.mod_lt _ (by omega)
  exact ⟨_, _, rfl, rfl, inT_at hl hj, inT_at hl hm, hm⟩
end
section
variable {d : List (List Int)} {l : List Int}
abbrev mlE (d : List (List Int)) (l : List Int) (s : Int) (j : Nat) : Env := env56 (.imm .arg 1 (d.map encR)) (.imm .arg 1 (l.map encI)) (.int .i64 0) (.int .i64 s) .undef .undef (.imm .arg 1 (l.map encI)) (.int .i64 (l.length : Int)) (.int .i64 (j : Int))
end
section
variable {d : List (List Int)} {l : List Int}
theorem ml_loop (h : okD d) (hl : inT d.length l) (h9 : l.length ≤ 1000) : ∀ (k j : Nat) (s : Int), j + k = l.length → (0 ≤ s ∧ s ≤ 1000 * j) →
    RunsTo Try.prog pol 56 (sub [1, 1, 0, 1, 0] B56) (mlE d l s j) [] (.exit 0) (pol.keys 56) (mlE d l (lenGo d l k j s) l.length) [] := by
  intro k
  induction k with
  | zero =>
    intro j s hj hs
    have hj : j = l.length := by omega
    subst hj
    have s1 := ml_l_1 (d.map encR) (l.map encI) s l.length (by simp)
    rw [List.length_map] at s1
    exact RunsTo.loop_out s1 (by simp) (by kernel_rfl) (by kernel_rfl)
  | succ k ih =>
    intro j s hj hs
    have hjl : j < l.length := by omega
    obtain ⟨a, b, ha, hb, ⟨a0, a1⟩, ⟨b0, b1⟩, hm⟩ := len_args h hl hjl
    obtain ⟨r1, r2⟩ := rem_len (j := j) (n := l.length) (by omega) (by omega)
    have g1 := gx hjl
    rw [ha] at g1
    have g4 := gx hm
    rw [hb, ← r2] at g4
    have hbd := at_bd h a1 b1
    have g5 := gxi (l := d.getD a.toNat []) b0 (by rw [getR_len h a1]; exact b1)
    have s1 := ml_l_0 (d.map encR) (l.map encI) s j a ((d.getD a.toNat []).map encI) b (at2 d a.toNat b.toNat) (by simp; omega) g1 (gm a0 a1) (by rw [List.length_map]; exact r1) (by rw [List.length_map]; exact g4) g5
    rw [wrap_succ (by omega), wrap_id (by omega) (by omega), List.length_map] at s1
    have hr := ih (j + 1) (s + at2 d a.toNat b.toNat) (by omega) (by omega)
    rw [lenGo, ha, hb]
    exact RunsTo.loop s1 (by kernel_rfl) rfl hr rfl (by kernel_rfl) (by kernel_rfl)
end
theorem res56 : Try.f56.results.toList = [.tmp 4] := by kernel_rfl
theorem mlen_ok : PrimOk Try.prog 56 len56 := by
  refine primOk_pure (pol := pol) (fn := Try.f56) (cd := B56) follows_mixed sound (by kernel_rfl) (by kernel_rfl) (fnok pol.prim _ _ (by kernel_rfl)) (by kernel_rfl) ?_
  intro args res h
  obtain ⟨d, l, rfl, hq⟩ := rlF_inv h
  clear h
  have h := hq
  clear hq
  split at h
  · rename_i hc
    cases h
    obtain ⟨h1, h2, h3⟩ := hc
    have a1 := ml_a_0 (d.map encR) (l.map encI)
    have b1 := ml_b_0 (d.map encR) (l.map encI)
    have c1 := ml_c_0 (d.map encR) (l.map encI) 0
    have r := ml_loop h1 h2 h3 l.length 0 0 (by omega) (by omega)
    have z1 := ml_z_0 (d.map encR) (l.map encI) (lenT d l) l.length
    rw [List.length_map] at c1 z1
    have t1 := RunsTo.seq c1 (RunsTo.block_exit (c := sub [1, 1, 0, 1] B56) r (by kernel_rfl)) (c := sub [1, 1, 0] B56) (by kernel_rfl) (by kernel_rfl)
    have t2 := RunsTo.seq b1 (RunsTo.seq t1 z1 (c := sub [1, 1] B56) (by kernel_rfl) (by kernel_rfl)) (c := sub [1] B56) (by kernel_rfl) (by kernel_rfl)
    exact ⟨_, _, _, .int .i64 (lenT d l), RunsTo.seq a1 t2 (c := B56) (by kernel_rfl) (by kernel_rfl), by simp, by simp only [resultsV, res56]; rfl, rfl⟩
  · cases h
end Go.Proofs.Ytlendaofkmhgmaa
end
section
open Go Go.HL
namespace Go.Proofs.Ytlendaofkmhgmaa
theorem lit_seal' {P : Program} {H : Heap} {t e k b p mx bt : Nat} {zv : HV} {els : List HV} (ht : P.underlying t = some (.slice e)) (hI : (P.info? e).map (fun i => (i.size, i.bytes, i.zero.map ofConst)) = some (1, bt, some zv)) (hc : (cellsOf zv).all cellV = true) (hs : (cellsOf zv).length = 1)
    (hb : H[b]? = some (.arr k els true mx)) (hp : els.length = p) (hr : resPL els = true) :
    ∃ w, litV P true false t 1 [(0, .sl b 0 p none p k)] H = some (.imm .lit 1 [.imm .own k els], H.set b (.arr k els w mx)) := by
  by_cases h0 : p = 0
  · subst h0
    have hn : els = [] := List.length_eq_zero_iff.1 hp
    subst hn
    refine ⟨true, ?_⟩
    have hH : H.set b (.arr k [] true mx) = H := by
      apply List.ext_getElem?
      intro i
      rw [List.getElem?_set]
      split
      · rename_i hi
        subst hi
        split
        · exact hb.symm
        · rename_i hlt; exact absurd (lt_of_get hb) hlt
      · rfl
    rw [hH]
    cases hi : P.info? e with
    | none => rw [hi] at hI; cases hI
    | some i =>
      rw [hi] at hI
      simp only [Option.map_some, Option.some.injEq, Prod.mk.injEq] at hI
      obtain ⟨h1, rfl, hz⟩ := hI
      cases hz2 : i.zero with
      | none => rw [hz2] at hz; cases hz
      | some z =>
        rw [hz2] at hz
        simp only [Option.map_some, Option.some.injEq] at hz
        subst hz
        have hse : seals [.sl b 0 0 none 0 k] H = some ([.imm .own k []], H) := by simp only [seals, seal1, if_true]
        simp only [litV, ht, hi, hz2, if_true, List.map_cons, List.map_nil, hse, h1]
        rw [if_pos ⟨by omega, hs, hc, by omega, by simp [cellsOf, cellV], by simp⟩]
        simp [bndL, bnd]
  · exact ⟨false, lit_seal ht hI hc hs hb hp h0 hr⟩
end Go.Proofs.Ytlendaofkmhgmaa
end
section
open Go Go.HL
namespace Go.Proofs.Ytlendaofkmhgmaa
theorem info23 : (Try.prog.info? 23).map (fun i => (i.size, i.bytes, i.zero.map ofConst)) = some (1, 24, some (.imm .lit 0 [])) := by kernel_rfl
theorem soundL (n : Nat) : CallSound Try.prog (callN Try.prog polL n) := sound_prim _ (fun g f h => by
  split at h
  · rename_i hg; cases h; rw [eq_of_beq hg]; exact list_ok
  · cases h) n
theorem frz_rowO {H : Heap} {no : List Nat} (l : List Int) : frz H no 4 (encO l) = some (encO l) := by
  have : resP (encO l) = true := by simp only [encO, resP, ints_res]; rfl
  show (if resP (encO l) then some (encO l) else none) = _
  rw [this]; rfl
abbrev bR (L : List (List Int)) : Blk := .arr 1 (L.map encO) true 0
theorem table_loop (R : List (List Int)) : ∀ (d i : Nat) (L : List (List Int)), i + d = min R.length 12 → L.length = i →
    RunsTo Try.prog polL 15 (sub [1, 1, 0, 1, 0] B15) (env15 (.imm .arg 1 (R.map encR)) (.imm .lit 1 []) (.sl 0 0 L.length none L.length 1) (.int .i64 (i : Int))) [bR L]
      (.exit 0) (polL.keys 15) (env15 (.imm .arg 1 (R.map encR)) (.imm .lit 1 []) (.sl 0 0 (L ++ ((R.drop i).take d).map (·.take 13)).length none (L ++ ((R.drop i).take d).map (·.take 13)).length 1) (.int .i64 ((min R.length 12 : Nat) : Int))) [bR (L ++ ((R.drop i).take d).map (·.take 13))] := by
  intro d
  induction d with
  | zero =>
    intro i L hi hL
    rw [List.take_zero, List.map_nil, List.append_nil]
    have hi : i = min R.length 12 := by omega
    by_cases h : R.length ≤ 12
    · have s1 := ta_l_2 (R.map encR) (L.map encO) L.length i (by rw [List.length_map]; omega)
      rw [← hi]
      exact RunsTo.loop_out s1 (by simp) (by kernel_rfl) (by kernel_rfl)
    · have s1 := ta_l_1 (R.map encR) (L.map encO) L.length i (by rw [List.length_map]; omega) (by omega)
      rw [← hi]
      exact RunsTo.loop_out s1 (by simp) (by kernel_rfl) (by kernel_rfl)
  | succ d ih =>
    intro i L hi hL
    have hil : i < R.length := by omega
    rw [List.drop_eq_getElem_cons hil, List.take_succ_cons, List.map_cons]
    have hg := gr hil
    have hRi : R.getD i [] = R[i] := by simp [List.getD, List.getElem?_eq_getElem hil]
    rw [hRi] at hg
    generalize R[i] = r at hg
    have h := ih (i + 1) (L ++ [r.take 13]) (by omega) (by simp [hL])
    rw [List.append_assoc, List.singleton_append] at h
    have hc : ∀ kf, callN Try.prog polL (kf + 1) 16 [.imm .arg 1 (r.map encI)] [bR L] = some (.sl 1 0 (r.take 13).length none (r.take 13).length 1, [bR L, bI (r.take 13)]) := fun kf => by
      rw [prim_call (pol := polL) (g := 16) (F := list16) (by kernel_rfl) (rs := [.imm .arg 1 (r.map encI)]) (by simp only [mapO, arg_li]) (res := .own 1 ((r.take 13).map encI)) (by simp only [list16, liF, mapO_map decI_enc]), recv_ints]
      rfl
    generalize r.take 13 = row at h hc
    obtain ⟨w, hlit⟩ := lit_seal' (P := Try.prog) (H := [bR L, bI row]) (t := 22) (b := 1) (p := row.length) u22 info23 rfl rfl rfl (by simp) (ints_res row)
    have hap := app_sl (H := [bR L, .arr 1 (row.map encI) w 0]) (k := 1) (bytes := 24) (b := 0) (n := L.length) (mx := 0) (els := L.map encO) (xs := [.imm .own 1 (row.map encI)]) rfl (by simp) (by simp) (by simp only [List.length_singleton, roomMax]; omega) rfl
    have s2 := ta_l_0 (R.map encR) (L.map encO) L.length i (r.map encI) row.length (row.map encI) w (by rw [List.length_map]; omega) (by omega) hg hc hlit hap
    rw [wrap_succ (by omega)] at s2
    have e3 : (L ++ [row]).length = L.length + 1 := by simp
    have e4 : (L ++ [row]).map encO = L.map encO ++ [.imm .own 1 (row.map encI)] := by simp [encO]
    unfold bR at h
    rw [e3, e4] at h
    exact RunsTo.loop s2 (by kernel_rfl) (by kernel_rfl) h rfl (by kernel_rfl) (by kernel_rfl)
theorem res15 : Try.f15.results.toList = [.tmp 2] := by kernel_rfl
theorem table_ok : PrimOk Try.prog 15 table15 := by
  refine primOk_pure (pol := polL) (fn := Try.f15) (cd := B15) follows_mixed soundL (by kernel_rfl) (by kernel_rfl) (fnok polL.prim _ _ (by kernel_rfl)) (by kernel_rfl) ?_
  intro args res h
  obtain ⟨R, rfl, hq⟩ := rwF_inv h
  clear h
  cases hq
  have a1 := ta_a_0 (R.map encR)
  have b1 := ta_b_0 (R.map encR)
  have c1 := ta_c_0 (R.map encR) [] 0
  have l1 := table_loop R (min R.length 12) 0 [] (by omega) rfl
  have eL : [] ++ ((R.drop 0).take (min R.length 12)).map (·.take 13) = tabL R := by rw [List.nil_append, List.drop_zero, tabL, take_min]
  rw [eL] at l1
  have z1 := ta_z_0 (R.map encR) ((tabL R).map encO) (tabL R).length (min R.length 12)
  have t1 := RunsTo.seq c1 (RunsTo.block_exit (c := sub [1, 1, 0, 1] B15) l1 (by kernel_rfl)) (c := sub [1, 1, 0] B15) (by kernel_rfl) (by kernel_rfl)
  have t2 := RunsTo.seq t1 z1 (c := sub [1, 1] B15) (by kernel_rfl) (by kernel_rfl)
  have t3 := RunsTo.seq b1 t2 (c := sub [1] B15) (by kernel_rfl) (by kernel_rfl)
  have t4 := RunsTo.seq a1 t3 (c := B15) (by kernel_rfl) (by kernel_rfl)
  have hr2 := resCell_sl (H := [bR (tabL R)]) (no := [0]) (b := 0) (k := 1) (m := (tabL R).length) (cap := none) (els := (tabL R).map encO) rfl (by simp) (mapO_self frz_rowO _)
  have ho : ownedAll [bR (tabL R)] false (.sl 0 0 (tabL R).length none (tabL R).length 1) = [0] := rfl
  refine ⟨_, _, _, .sl 0 0 (tabL R).length none (tabL R).length 1, t4, by simp, by simp only [resultsV, res15]; rfl, ?_⟩
  show toRes _ false _ = _
  simp only [toRes, ho, List.nodup_cons, List.not_mem_nil, not_false_eq_true, List.nodup_nil, and_self, if_true, resVal, hr2]
theorem nodup_take {l : List Int} {j : Nat} (hj : j < l.length) : (l.take (j + 1)).Nodup ↔ (l.take j).Nodup ∧ l[j] ∉ l.take j := by
  rw [List.take_succ_eq_append_getElem hj, List.nodup_append]
  constructor
  · rintro ⟨h1, _, h3⟩
    exact ⟨h1, fun hm => h3 _ hm _ (by simp) rfl⟩
  · rintro ⟨h1, h2⟩
    exact ⟨h1, by simp, fun x hx y hy e => by
      rw [List.mem_singleton] at hy
      exact h2 (by rw [← hy, ← e]; exact hx)⟩
theorem nodup_of_take {l : List Int} (h : l.Nodup) (j : Nat) : (l.take j).Nodup := List.Pairwise.sublist (List.take_sublist j l) h
structure Gd (n : Nat) (l : List Int) (j : Nat) : Prop where
  rng : inT n (l.take j)
  nd : (l.take j).Nodup
theorem Gd.zero (n : Nat) (l : List Int) : Gd n l 0 := ⟨by simp [inT], by simp⟩
theorem Gd.succ {n : Nat} {l : List Int} {j : Nat} (h : Gd n l j) (hj : j < l.length) (h1 : 0 ≤ l[j] ∧ l[j] < (n : Int)) (h2 : l[j] ∉ l.take j) : Gd n l (j + 1) := by
  refine ⟨fun v hv => ?_, (nodup_take hj).2 ⟨h.nd, h2⟩⟩
  rw [List.take_succ_eq_append_getElem hj, List.mem_append, List.mem_singleton] at hv
  rcases hv with hv | rfl
  · exact h.rng v hv
  · exact h1
theorem Gd.all {n : Nat} {l : List Int} (h : Gd n l l.length) : inT n l ∧ l.Nodup := by
  obtain ⟨h1, h2⟩ := h
  rw [List.take_length] at h1 h2
  exact ⟨h1, h2⟩
theorem dup_not {l : List Int} {j : Nat} (hj : j < l.length) (h : l[j] ∈ l.take j) : ¬ l.Nodup := fun hn => ((nodup_take hj).1 (nodup_of_take hn (j + 1))).2 h
structure Mk (n : Nat) (l : List Int) (j : Nat) (bs : List Bool) : Prop where
  len : bs.length = n
  iff : ∀ y, y < n → (bs.getD y false = true ↔ (y : Int) ∈ l.take j)
theorem Mk.succ {n : Nat} {l : List Int} {j : Nat} {bs : List Bool} (h : Mk n l j bs) (hj : j < l.length) (h1 : 0 ≤ l[j] ∧ l[j].toNat < n) : Mk n l (j + 1) (bs.set l[j].toNat true) := by
  refine ⟨by rw [List.length_set]; exact h.len, fun y hy => ?_⟩
  have hl := h.len
  rw [List.take_succ_eq_append_getElem hj, List.mem_append, List.mem_singleton, List.getD, List.getElem?_set]
  by_cases e : l[j].toNat = y
  · rw [if_pos e, if_pos (by omega)]
    simp
    right; omega
  · rw [if_neg e]
    have := h.iff y hy
    rw [List.getD] at this
    rw [this]
    constructor
    · exact fun h => .inl h
    · rintro (h | h)
      · exact h
      · omega
end Go.Proofs.Ytlendaofkmhgmaa
end
section
open Go Go.HL
namespace Go.Proofs.Ytlendaofkmhgmaa
set_option maxRecDepth 100000
noncomputable def B68 : Code := Try.f68.body.getD .skip
abbrev env68 (v0 v2 : HV) : Env := [(0, v0), (2, v2)]
theorem m1_0 (n : Int)(g0 : (0 : Int) ≤ n ∧ n ≤ (1000 : Int)) : RunsTo Try.prog polW 68 (sub [] B68) [(0, .i n)] [] .ret (polW.keys 68) (env68 (.i n) (.bool false)) [] :=
  RunsTo.hin 0 60 [⟨1, 1, .bool true, []⟩] fun kf hk => ⟨_, by kernel_rfl, (oB [] (decide_eq_true g0) .nil)⟩
theorem m1_1 (n : Int)(g0 : ¬ ((0 : Int) ≤ n ∧ n ≤ (1000 : Int))) : RunsTo Try.prog polW 68 (sub [] B68) [(0, .i n)] [] .ret (polW.keys 68) (env68 (.i n) (.bool true)) [] :=
  RunsTo.hin 0 60 [⟨1, 1, .bool false, []⟩] fun kf hk => ⟨_, by kernel_rfl, (oB [] (decide_eq_false g0) .nil)⟩
noncomputable def B69 : Code := Try.f69.body.getD .skip
abbrev env69 (v0 v1 v4 v5 v7 v8 : HV) : Env := [(0, v0), (1, v1), (4, v4), (5, v5), (7, v7), (8, v8)]
theorem jx_a_0 (la : List HV) (H : Heap) : RunsTo Try.prog polM 69 (sub [0] B69) [(0, .imm .arg 1 la), (1, .func 68 [] [])] H .normal (polM.keys 69) (env69 (.imm .arg 1 la) (.func 68 [] []) (.i 0) .undef .undef .undef) H :=
  RunsTo.hin 0 60 [] fun kf hk => ⟨_, by kernel_rfl, .nil⟩
theorem jx_b_0 (la : List HV) (H : Heap) : RunsTo Try.prog polM 69 (sub [1, 0, 0] B69) (env69 (.imm .arg 1 la) (.func 68 [] []) (.i 0) .undef .undef .undef) H .normal (polM.keys 69) (env69 (.imm .arg 1 la) (.func 68 [] []) (.i 0) .undef (.i (la.length : Int)) (.i 0)) H :=
  RunsTo.hin 0 60 [] fun kf hk => ⟨_, by kernel_rfl, .nil⟩
theorem jx_l_0 (la : List HV) (H : Heap) (j : Nat) (x0 : Int) (H0 : Heap) (g0 : (j : Int) < (la.length : Int)) (g1 : idxV Try.prog 23 (.imm .arg 1 la) (.i (j : Int)) = some (.vptr (.i x0))) (g2 : ∀ kf, callN Try.prog polM (kf + 1) 68 [.i x0] H = some (.bool true, H0)) : RunsTo Try.prog polM 69 (sub [1, 0, 1, 0, 0] B69) (env69 (.imm .arg 1 la) (.func 68 [] []) (.i 0) .undef (.i (la.length : Int)) (.i (j : Int))) H .ret (polM.keys 69) (env69 (.imm .arg 1 la) (.func 68 [] []) (.i (j : Int)) (.i (j : Int)) (.i (la.length : Int)) (.i (j : Int))) H0 :=
  RunsTo.hin 0 60 [⟨2, 0, .bool true, H⟩, ⟨4, 3, .vptr (.i x0), H⟩, ⟨4, 5, .bool true, H0⟩] fun kf hk => ⟨_, by kernel_rfl, (oB H (decide_eq_true g0) (oP H g1 (oC (g2 kf) .nil)))⟩
theorem jx_l_1 (la : List HV) (H : Heap) (j : Nat) (x0 : Int) (H0 : Heap) (g0 : (j : Int) < (la.length : Int)) (g1 : idxV Try.prog 23 (.imm .arg 1 la) (.i (j : Int)) = some (.vptr (.i x0))) (g2 : ∀ kf, callN Try.prog polM (kf + 1) 68 [.i x0] H = some (.bool false, H0)) : RunsTo Try.prog polM 69 (sub [1, 0, 1, 0, 0] B69) (env69 (.imm .arg 1 la) (.func 68 [] []) (.i 0) .undef (.i (la.length : Int)) (.i (j : Int))) H .normal (polM.keys 69) (env69 (.imm .arg 1 la) (.func 68 [] []) (.i 0) (.i (j : Int)) (.i (la.length : Int)) (.i (IntKind.i64.wrap ((j : Int) + 1)))) H0 :=
  RunsTo.hin 0 60 [⟨2, 0, .bool true, H⟩, ⟨4, 3, .vptr (.i x0), H⟩, ⟨4, 5, .bool false, H0⟩] fun kf hk => ⟨_, by kernel_rfl, (oB H (decide_eq_true g0) (oP H g1 (oC (g2 kf) .nil)))⟩
theorem jx_l_2 (la : List HV) (H : Heap) (j : Nat)(g0 : ¬ ((j : Int) < (la.length : Int))) : RunsTo Try.prog polM 69 (sub [1, 0, 1, 0, 0] B69) (env69 (.imm .arg 1 la) (.func 68 [] []) (.i 0) .undef (.i (la.length : Int)) (.i (j : Int))) H (.exit 0) (polM.keys 69) (env69 (.imm .arg 1 la) (.func 68 [] []) (.i 0) .undef (.i (la.length : Int)) (.i (j : Int))) H :=
  RunsTo.hin 0 60 [⟨2, 0, .bool false, H⟩] fun kf hk => ⟨_, by kernel_rfl, (oB H (decide_eq_false g0) .nil)⟩
theorem jx_z_0 (la : List HV) (H : Heap) (j : Nat) : RunsTo Try.prog polM 69 (sub [1, 1] B69) (env69 (.imm .arg 1 la) (.func 68 [] []) (.i 0) .undef (.i (la.length : Int)) (.i (j : Int))) H .ret (polM.keys 69) (env69 (.imm .arg 1 la) (.func 68 [] []) (.i (-1)) .undef (.i (la.length : Int)) (.i (j : Int))) H :=
  RunsTo.hin 0 60 [] fun kf hk => ⟨_, by kernel_rfl, .nil⟩
noncomputable def B47 : Code := Try.f47.body.getD .skip
abbrev env47 (v0 v1 v4 : HV) : Env := [(0, v0), (1, v1), (4, v4)]
theorem cf_0 (N : Nat) (la : List HV) (H : Heap) (r : Int) (H0 : Heap) (g0 : ∀ kf, N ≤ kf → callN Try.prog polM (kf + 1) 69 [.imm .arg 1 la, .func 68 [] []] H = some (.i r, H0)) (g1 : 0 ≤ r) : RunsTo Try.prog polM 47 (sub [] B47) [(0, .imm .arg 1 la), (1, .func 68 [] [])] H .ret (polM.keys 47) (env47 (.imm .arg 1 la) (.func 68 [] []) (.bool true)) H0 :=
  RunsTo.hin N 60 [⟨1, 2, .i r, H0⟩, ⟨1, 3, .bool true, H0⟩] fun kf hk => ⟨_, by kernel_rfl, (oC (g0 kf (by omega)) (oB H0 (decide_eq_true g1) .nil))⟩
theorem cf_1 (N : Nat) (la : List HV) (H : Heap) (r : Int) (H0 : Heap) (g0 : ∀ kf, N ≤ kf → callN Try.prog polM (kf + 1) 69 [.imm .arg 1 la, .func 68 [] []] H = some (.i r, H0)) (g1 : ¬ (0 ≤ r)) : RunsTo Try.prog polM 47 (sub [] B47) [(0, .imm .arg 1 la), (1, .func 68 [] [])] H .ret (polM.keys 47) (env47 (.imm .arg 1 la) (.func 68 [] []) (.bool false)) H0 :=
  RunsTo.hin N 60 [⟨1, 2, .i r, H0⟩, ⟨1, 3, .bool false, H0⟩] fun kf hk => ⟨_, by kernel_rfl, (oC (g0 kf (by omega)) (oB H0 (decide_eq_false g1) .nil))⟩
noncomputable def B46 : Code := Try.f46.body.getD .skip
abbrev env46 (v0 v2 v4 v5 v6 v7 v8 v13 v14 v15 v29 v30 v31 v36 v37 v38 : HV) : Env := [(0, v0), (2, v2), (4, v4), (5, v5), (6, v6), (7, v7), (8, v8), (13, v13), (14, v14), (15, v15), (29, v29), (30, v30), (31, v31), (36, v36), (37, v37), (38, v38)]
theorem im_a_0 (N : Nat) (rw : List HV) : RunsTo Try.prog polM 46 (sub [0] B46) [(0, .imm .arg 1 rw)] [] .normal (polM.keys 46) (env46 (.imm .arg 1 rw) (.bool false) .undef .undef .undef .undef .undef .undef .undef .undef .undef .undef .undef .undef .undef .undef) [] :=
  RunsTo.hin N 60 [] fun kf hk => ⟨_, by kernel_rfl, .nil⟩
theorem im_b_0 (N : Nat) (rw : List HV)(g0 : (1 : Int) ≤ (rw.length : Int) ∧ (rw.length : Int) ≤ (11 : Int)) : RunsTo Try.prog polM 46 (sub [1, 0] B46) (env46 (.imm .arg 1 rw) (.bool false) .undef .undef .undef .undef .undef .undef .undef .undef .undef .undef .undef .undef .undef .undef) [] .normal (polM.keys 46) (env46 (.imm .arg 1 rw) (.bool false) .undef .undef .undef .undef .undef .undef .undef .undef .undef .undef .undef .undef .undef .undef) [] :=
  RunsTo.hin N 60 [⟨1, 2, .bool true, []⟩] fun kf hk => ⟨_, by kernel_rfl, (oB [] (decide_eq_true g0) .nil)⟩
theorem im_b_1 (N : Nat) (rw : List HV)(g0 : ¬ ((1 : Int) ≤ (rw.length : Int) ∧ (rw.length : Int) ≤ (11 : Int))) : RunsTo Try.prog polM 46 (sub [1, 0] B46) (env46 (.imm .arg 1 rw) (.bool false) .undef .undef .undef .undef .undef .undef .undef .undef .undef .undef .undef .undef .undef .undef) [] .ret (polM.keys 46) (env46 (.imm .arg 1 rw) (.bool false) .undef .undef .undef .undef .undef .undef .undef .undef .undef .undef .undef .undef .undef .undef) [] :=
  RunsTo.hin N 60 [⟨1, 2, .bool false, []⟩] fun kf hk => ⟨_, by kernel_rfl, (oB [] (decide_eq_false g0) .nil)⟩
theorem im_c_0 (N : Nat) (rw : List HV) : RunsTo Try.prog polM 46 (sub [1, 1, 0, 0] B46) (env46 (.imm .arg 1 rw) (.bool false) .undef .undef .undef .undef .undef .undef .undef .undef .undef .undef .undef .undef .undef .undef) [] .normal (polM.keys 46) (env46 (.imm .arg 1 rw) (.bool false) .undef .undef .undef .undef .undef (.imm .arg 1 rw) (.i (rw.length : Int)) (.i 0) .undef .undef .undef .undef .undef .undef) [] :=
  RunsTo.hin N 60 [] fun kf hk => ⟨_, by kernel_rfl, .nil⟩
theorem im_l_0 (N : Nat) (rw : List HV) (i : Nat) (H : Heap) (la : List HV) (l0 : List HV) (H0 : Heap) (g0 : (i : Int) < (rw.length : Int)) (g1 : idxV Try.prog 22 (.imm .arg 1 rw) (.i (i : Int)) = some (.vptr (.imm .arg 1 l0))) (g2 : (l0.length : Int) = (rw.length : Int)) (g3 : ∀ kf, N ≤ kf → callN Try.prog polM (kf + 1) 47 [.imm .arg 1 l0, .func 68 [] []] H = some (.bool true, H0)) : RunsTo Try.prog polM 46 (sub [1, 1, 0, 1, 0, 0] B46) (env46 (.imm .arg 1 rw) (.bool false) .undef .undef .undef .undef .undef (.imm .arg 1 rw) (.i (rw.length : Int)) (.i (i : Int)) .undef .undef .undef .undef .undef .undef) H .ret (polM.keys 46) (env46 (.imm .arg 1 rw) (.bool false) (.imm .arg 1 l0) .undef .undef .undef .undef (.imm .arg 1 rw) (.i (rw.length : Int)) (.i (i : Int)) .undef .undef .undef .undef .undef .undef) H0 :=
  RunsTo.hin N 60 [⟨4, 0, .bool true, H⟩, ⟨5, 0, .vptr (.imm .arg 1 l0), H⟩, ⟨6, 4, .bool false, H⟩, ⟨6, 7, .bool true, H0⟩] fun kf hk => ⟨_, by kernel_rfl, (oB H (decide_eq_true g0) (oP H g1 (oB H (congrArg not (decide_eq_true g2)) (oC (g3 kf (by omega)) .nil))))⟩
theorem im_l_1 (N : Nat) (rw : List HV) (i : Nat) (H : Heap) (la : List HV) (l0 : List HV) (H0 : Heap) (g0 : (i : Int) < (rw.length : Int)) (g1 : idxV Try.prog 22 (.imm .arg 1 rw) (.i (i : Int)) = some (.vptr (.imm .arg 1 l0))) (g2 : (l0.length : Int) = (rw.length : Int)) (g3 : ∀ kf, N ≤ kf → callN Try.prog polM (kf + 1) 47 [.imm .arg 1 l0, .func 68 [] []] H = some (.bool false, H0)) : RunsTo Try.prog polM 46 (sub [1, 1, 0, 1, 0, 0] B46) (env46 (.imm .arg 1 rw) (.bool false) .undef .undef .undef .undef .undef (.imm .arg 1 rw) (.i (rw.length : Int)) (.i (i : Int)) .undef .undef .undef .undef .undef .undef) H .normal (polM.keys 46) (env46 (.imm .arg 1 rw) (.bool false) (.imm .arg 1 l0) .undef .undef .undef .undef (.imm .arg 1 rw) (.i (rw.length : Int)) (.i (IntKind.i64.wrap ((i : Int) + 1))) .undef .undef .undef .undef .undef .undef) H0 :=
  RunsTo.hin N 60 [⟨4, 0, .bool true, H⟩, ⟨5, 0, .vptr (.imm .arg 1 l0), H⟩, ⟨6, 4, .bool false, H⟩, ⟨6, 7, .bool false, H0⟩] fun kf hk => ⟨_, by kernel_rfl, (oB H (decide_eq_true g0) (oP H g1 (oB H (congrArg not (decide_eq_true g2)) (oC (g3 kf (by omega)) .nil))))⟩
theorem im_l_2 (N : Nat) (rw : List HV) (i : Nat) (H : Heap) (la : List HV) (l0 : List HV) (g0 : (i : Int) < (rw.length : Int)) (g1 : idxV Try.prog 22 (.imm .arg 1 rw) (.i (i : Int)) = some (.vptr (.imm .arg 1 l0))) (g2 : ¬ ((l0.length : Int) = (rw.length : Int))) : RunsTo Try.prog polM 46 (sub [1, 1, 0, 1, 0, 0] B46) (env46 (.imm .arg 1 rw) (.bool false) .undef .undef .undef .undef .undef (.imm .arg 1 rw) (.i (rw.length : Int)) (.i (i : Int)) .undef .undef .undef .undef .undef .undef) H .ret (polM.keys 46) (env46 (.imm .arg 1 rw) (.bool false) (.imm .arg 1 l0) .undef .undef .undef .undef (.imm .arg 1 rw) (.i (rw.length : Int)) (.i (i : Int)) .undef .undef .undef .undef .undef .undef) H :=
  RunsTo.hin N 60 [⟨4, 0, .bool true, H⟩, ⟨5, 0, .vptr (.imm .arg 1 l0), H⟩, ⟨6, 4, .bool true, H⟩] fun kf hk => ⟨_, by kernel_rfl, (oB H (decide_eq_true g0) (oP H g1 (oB H (congrArg not (decide_eq_false g2)) .nil)))⟩
theorem im_l_3 (N : Nat) (rw : List HV) (i : Nat) (H : Heap) (la : List HV)(g0 : ¬ ((i : Int) < (rw.length : Int))) : RunsTo Try.prog polM 46 (sub [1, 1, 0, 1, 0, 0] B46) (env46 (.imm .arg 1 rw) (.bool false) .undef .undef .undef .undef .undef (.imm .arg 1 rw) (.i (rw.length : Int)) (.i (i : Int)) .undef .undef .undef .undef .undef .undef) H (.exit 0) (polM.keys 46) (env46 (.imm .arg 1 rw) (.bool false) .undef .undef .undef .undef .undef (.imm .arg 1 rw) (.i (rw.length : Int)) (.i (i : Int)) .undef .undef .undef .undef .undef .undef) H :=
  RunsTo.hin N 60 [⟨4, 0, .bool false, H⟩] fun kf hk => ⟨_, by kernel_rfl, (oB H (decide_eq_false g0) .nil)⟩
theorem im_d_0 (N : Nat) (rw : List HV) (i : Nat) (H : Heap) (v4 : HV) : RunsTo Try.prog polM 46 (sub [1, 1, 1, 0, 0] B46) (env46 (.imm .arg 1 rw) (.bool false) v4 .undef .undef .undef .undef (.imm .arg 1 rw) (.i (rw.length : Int)) (.i (i : Int)) .undef .undef .undef .undef .undef .undef) H .normal (polM.keys 46) (env46 (.imm .arg 1 rw) (.bool false) v4 .undef .undef .undef .undef (.imm .arg 1 rw) (.i (rw.length : Int)) (.i (i : Int)) (.imm .arg 1 rw) (.i (rw.length : Int)) (.i 0) .undef .undef .undef) H :=
  RunsTo.hin N 60 [] fun kf hk => ⟨_, by kernel_rfl, .nil⟩
theorem im_e_0 (N : Nat) (rw : List HV) (i : Nat) (H : Heap)(g0 : (i : Int) < (rw.length : Int)) : RunsTo Try.prog polM 46 (sub [1, 1, 1, 0, 1, 0, 0, 0] B46) (env46 (.imm .arg 1 rw) (.bool false) .undef .undef .undef .undef .undef .undef .undef .undef (.imm .arg 1 rw) (.i (rw.length : Int)) (.i (i : Int)) .undef .undef .undef) H .normal [0, 2, 4, 5, 6, 7, 8, 13, 14, 15, 29, 30, 31, 36, 37, 38, 32] [(0, .imm .arg 1 rw), (2, .bool false), (4, .undef), (5, .undef), (6, .undef), (7, .undef), (8, .undef), (13, .undef), (14, .undef), (15, .undef), (29, .imm .arg 1 rw), (30, .i (rw.length : Int)), (31, .i (i : Int)), (36, .undef), (37, .undef), (38, .undef), (32, .bool true)] H :=
  RunsTo.hin N 60 [⟨10, 0, .bool true, H⟩] fun kf hk => ⟨_, by kernel_rfl, (oB H (decide_eq_true g0) .nil)⟩
theorem im_e_1 (N : Nat) (rw : List HV) (i : Nat) (H : Heap)(g0 : ¬ ((i : Int) < (rw.length : Int))) : RunsTo Try.prog polM 46 (sub [1, 1, 1, 0, 1, 0, 0, 0] B46) (env46 (.imm .arg 1 rw) (.bool false) .undef .undef .undef .undef .undef .undef .undef .undef (.imm .arg 1 rw) (.i (rw.length : Int)) (.i (i : Int)) .undef .undef .undef) H .normal [0, 2, 4, 5, 6, 7, 8, 13, 14, 15, 29, 30, 31, 36, 37, 38, 32] [(0, .imm .arg 1 rw), (2, .bool false), (4, .undef), (5, .undef), (6, .undef), (7, .undef), (8, .undef), (13, .undef), (14, .undef), (15, .undef), (29, .imm .arg 1 rw), (30, .i (rw.length : Int)), (31, .i (i : Int)), (36, .undef), (37, .undef), (38, .undef), (32, .bool false)] H :=
  RunsTo.hin N 60 [⟨10, 0, .bool false, H⟩] fun kf hk => ⟨_, by kernel_rfl, (oB H (decide_eq_false g0) .nil)⟩
theorem im_ft_0 (N : Nat) (rw : List HV) (i : Nat) (H : Heap) : RunsTo Try.prog polM 46 (sub [1, 1, 1, 0, 1, 0, 0, 1, 0] B46) [(0, .imm .arg 1 rw), (2, .bool false), (4, .undef), (5, .undef), (6, .undef), (7, .undef), (8, .undef), (13, .undef), (14, .undef), (15, .undef), (29, .imm .arg 1 rw), (30, .i (rw.length : Int)), (31, .i (i : Int)), (36, .undef), (37, .undef), (38, .undef), (32, .bool true)] H .normal (polM.keys 46) (env46 (.imm .arg 1 rw) (.bool false) .undef .undef .undef .undef .undef .undef .undef .undef (.imm .arg 1 rw) (.i (rw.length : Int)) (.i (i : Int)) .undef .undef .undef) H :=
  RunsTo.hin N 60 [] fun kf hk => ⟨_, by kernel_rfl, .nil⟩
theorem im_ff_0 (N : Nat) (rw : List HV) (i : Nat) (H : Heap) : RunsTo Try.prog polM 46 (sub [1, 1, 1, 0, 1, 0, 0, 1, 0] B46) [(0, .imm .arg 1 rw), (2, .bool false), (4, .undef), (5, .undef), (6, .undef), (7, .undef), (8, .undef), (13, .undef), (14, .undef), (15, .undef), (29, .imm .arg 1 rw), (30, .i (rw.length : Int)), (31, .i (i : Int)), (36, .undef), (37, .undef), (38, .undef), (32, .bool false)] H (.exit 2) (polM.keys 46) (env46 (.imm .arg 1 rw) (.bool false) .undef .undef .undef .undef .undef .undef .undef .undef (.imm .arg 1 rw) (.i (rw.length : Int)) (.i (i : Int)) .undef .undef .undef) H :=
  RunsTo.hin N 60 [] fun kf hk => ⟨_, by kernel_rfl, .nil⟩
theorem im_g_0 (N : Nat) (rw : List HV) (i : Nat) (H : Heap) (la : List HV) (l0 : List HV) (g0 : idxV Try.prog 22 (.imm .arg 1 rw) (.i (i : Int)) = some (.vptr (.imm .arg 1 l0))) : RunsTo Try.prog polM 46 (sub [1, 1, 1, 0, 1, 0, 0, 1, 1, 0, 0, 0] B46) (env46 (.imm .arg 1 rw) (.bool false) .undef .undef .undef .undef .undef .undef .undef .undef (.imm .arg 1 rw) (.i (rw.length : Int)) (.i (i : Int)) .undef .undef .undef) H .normal (polM.keys 46) (env46 (.imm .arg 1 rw) (.bool false) .undef (.i (i : Int)) (.imm .arg 1 l0) .undef .undef .undef .undef .undef (.imm .arg 1 rw) (.i (rw.length : Int)) (.i (i : Int)) .undef .undef .undef) H :=
  RunsTo.hin N 60 [⟨11, 1, .vptr (.imm .arg 1 l0), H⟩] fun kf hk => ⟨_, by kernel_rfl, (oP H g0 .nil)⟩
theorem im_h_0 (N : Nat) (rw : List HV) (i : Nat) (H : Heap) (la : List HV) : RunsTo Try.prog polM 46 (sub [1, 1, 1, 0, 1, 0, 0, 1, 1, 0, 0, 1, 0] B46) (env46 (.imm .arg 1 rw) (.bool false) .undef (.i (i : Int)) (.imm .arg 1 la) .undef .undef .undef .undef .undef (.imm .arg 1 rw) (.i (rw.length : Int)) (.i (i : Int)) .undef .undef .undef) H .normal (polM.keys 46) (env46 (.imm .arg 1 rw) (.bool false) .undef (.i (i : Int)) (.imm .arg 1 la) .undef .undef .undef .undef .undef (.imm .arg 1 rw) (.i (rw.length : Int)) (.i (i : Int)) (.imm .arg 1 la) (.i (la.length : Int)) (.i 0)) H :=
  RunsTo.hin N 60 [] fun kf hk => ⟨_, by kernel_rfl, .nil⟩
theorem im_k_0 (N : Nat) (rw : List HV) (i : Nat) (H : Heap) (la : List HV) (j : Nat) (x0 : Int) (l0 : List HV) (x1 : Int) (g0 : (j : Int) < (la.length : Int)) (g1 : idxV Try.prog 23 (.imm .arg 1 la) (.i (j : Int)) = some (.vptr (.i x0))) (g2 : idxV Try.prog 22 (.imm .arg 1 rw) (.i (j : Int)) = some (.vptr (.imm .arg 1 l0))) (g3 : idxV Try.prog 23 (.imm .arg 1 l0) (.i (i : Int)) = some (.vptr (.i x1))) (g4 : x0 = x1) (g5 : (i : Int) = (j : Int)) (g6 : x0 = 0) : RunsTo Try.prog polM 46 (sub [1, 1, 1, 0, 1, 0, 0, 1, 1, 0, 0, 1, 1, 0, 0] B46) (env46 (.imm .arg 1 rw) (.bool false) .undef (.i (i : Int)) .undef .undef .undef .undef .undef .undef (.imm .arg 1 rw) (.i (rw.length : Int)) (.i (i : Int)) (.imm .arg 1 la) (.i (la.length : Int)) (.i (j : Int))) H .normal (polM.keys 46) (env46 (.imm .arg 1 rw) (.bool false) .undef (.i (i : Int)) .undef (.i (j : Int)) (.i x0) .undef .undef .undef (.imm .arg 1 rw) (.i (rw.length : Int)) (.i (i : Int)) (.imm .arg 1 la) (.i (la.length : Int)) (.i (IntKind.i64.wrap ((j : Int) + 1)))) H :=
  RunsTo.hin N 60 [⟨13, 0, .bool true, H⟩, ⟨14, 1, .vptr (.i x0), H⟩, ⟨15, 3, .vptr (.imm .arg 1 l0), H⟩, ⟨15, 6, .vptr (.i x1), H⟩, ⟨15, 8, .bool false, H⟩, ⟨15, 12, .bool true, H⟩, ⟨15, 15, .bool false, H⟩] fun kf hk => ⟨_, by kernel_rfl, (oB H (decide_eq_true g0) (oP H g1 (oP H g2 (oP H g3 (oB H (congrArg not (decide_eq_true g4)) (oB H (decide_eq_true g5) (oB H (congrArg not (decide_eq_true g6)) .nil)))))))⟩
theorem im_k_1 (N : Nat) (rw : List HV) (i : Nat) (H : Heap) (la : List HV) (j : Nat) (x0 : Int) (l0 : List HV) (x1 : Int) (g0 : (j : Int) < (la.length : Int)) (g1 : idxV Try.prog 23 (.imm .arg 1 la) (.i (j : Int)) = some (.vptr (.i x0))) (g2 : idxV Try.prog 22 (.imm .arg 1 rw) (.i (j : Int)) = some (.vptr (.imm .arg 1 l0))) (g3 : idxV Try.prog 23 (.imm .arg 1 l0) (.i (i : Int)) = some (.vptr (.i x1))) (g4 : x0 = x1) (g5 : (i : Int) = (j : Int)) (g6 : ¬ (x0 = 0)) : RunsTo Try.prog polM 46 (sub [1, 1, 1, 0, 1, 0, 0, 1, 1, 0, 0, 1, 1, 0, 0] B46) (env46 (.imm .arg 1 rw) (.bool false) .undef (.i (i : Int)) .undef .undef .undef .undef .undef .undef (.imm .arg 1 rw) (.i (rw.length : Int)) (.i (i : Int)) (.imm .arg 1 la) (.i (la.length : Int)) (.i (j : Int))) H .ret (polM.keys 46) (env46 (.imm .arg 1 rw) (.bool false) .undef (.i (i : Int)) .undef (.i (j : Int)) (.i x0) .undef .undef .undef (.imm .arg 1 rw) (.i (rw.length : Int)) (.i (i : Int)) (.imm .arg 1 la) (.i (la.length : Int)) (.i (j : Int))) H :=
  RunsTo.hin N 60 [⟨13, 0, .bool true, H⟩, ⟨14, 1, .vptr (.i x0), H⟩, ⟨15, 3, .vptr (.imm .arg 1 l0), H⟩, ⟨15, 6, .vptr (.i x1), H⟩, ⟨15, 8, .bool false, H⟩, ⟨15, 12, .bool true, H⟩, ⟨15, 15, .bool true, H⟩] fun kf hk => ⟨_, by kernel_rfl, (oB H (decide_eq_true g0) (oP H g1 (oP H g2 (oP H g3 (oB H (congrArg not (decide_eq_true g4)) (oB H (decide_eq_true g5) (oB H (congrArg not (decide_eq_false g6)) .nil)))))))⟩
theorem im_k_2 (N : Nat) (rw : List HV) (i : Nat) (H : Heap) (la : List HV) (j : Nat) (x0 : Int) (l0 : List HV) (x1 : Int) (g0 : (j : Int) < (la.length : Int)) (g1 : idxV Try.prog 23 (.imm .arg 1 la) (.i (j : Int)) = some (.vptr (.i x0))) (g2 : idxV Try.prog 22 (.imm .arg 1 rw) (.i (j : Int)) = some (.vptr (.imm .arg 1 l0))) (g3 : idxV Try.prog 23 (.imm .arg 1 l0) (.i (i : Int)) = some (.vptr (.i x1))) (g4 : x0 = x1) (g5 : ¬ ((i : Int) = (j : Int))) : RunsTo Try.prog polM 46 (sub [1, 1, 1, 0, 1, 0, 0, 1, 1, 0, 0, 1, 1, 0, 0] B46) (env46 (.imm .arg 1 rw) (.bool false) .undef (.i (i : Int)) .undef .undef .undef .undef .undef .undef (.imm .arg 1 rw) (.i (rw.length : Int)) (.i (i : Int)) (.imm .arg 1 la) (.i (la.length : Int)) (.i (j : Int))) H .normal (polM.keys 46) (env46 (.imm .arg 1 rw) (.bool false) .undef (.i (i : Int)) .undef (.i (j : Int)) (.i x0) .undef .undef .undef (.imm .arg 1 rw) (.i (rw.length : Int)) (.i (i : Int)) (.imm .arg 1 la) (.i (la.length : Int)) (.i (IntKind.i64.wrap ((j : Int) + 1)))) H :=
  RunsTo.hin N 60 [⟨13, 0, .bool true, H⟩, ⟨14, 1, .vptr (.i x0), H⟩, ⟨15, 3, .vptr (.imm .arg 1 l0), H⟩, ⟨15, 6, .vptr (.i x1), H⟩, ⟨15, 8, .bool false, H⟩, ⟨15, 12, .bool false, H⟩] fun kf hk => ⟨_, by kernel_rfl, (oB H (decide_eq_true g0) (oP H g1 (oP H g2 (oP H g3 (oB H (congrArg not (decide_eq_true g4)) (oB H (decide_eq_false g5) .nil))))))⟩
theorem im_k_3 (N : Nat) (rw : List HV) (i : Nat) (H : Heap) (la : List HV) (j : Nat) (x0 : Int) (l0 : List HV) (x1 : Int) (g0 : (j : Int) < (la.length : Int)) (g1 : idxV Try.prog 23 (.imm .arg 1 la) (.i (j : Int)) = some (.vptr (.i x0))) (g2 : idxV Try.prog 22 (.imm .arg 1 rw) (.i (j : Int)) = some (.vptr (.imm .arg 1 l0))) (g3 : idxV Try.prog 23 (.imm .arg 1 l0) (.i (i : Int)) = some (.vptr (.i x1))) (g4 : ¬ (x0 = x1)) : RunsTo Try.prog polM 46 (sub [1, 1, 1, 0, 1, 0, 0, 1, 1, 0, 0, 1, 1, 0, 0] B46) (env46 (.imm .arg 1 rw) (.bool false) .undef (.i (i : Int)) .undef .undef .undef .undef .undef .undef (.imm .arg 1 rw) (.i (rw.length : Int)) (.i (i : Int)) (.imm .arg 1 la) (.i (la.length : Int)) (.i (j : Int))) H .ret (polM.keys 46) (env46 (.imm .arg 1 rw) (.bool false) .undef (.i (i : Int)) .undef (.i (j : Int)) (.i x0) .undef .undef .undef (.imm .arg 1 rw) (.i (rw.length : Int)) (.i (i : Int)) (.imm .arg 1 la) (.i (la.length : Int)) (.i (j : Int))) H :=
  RunsTo.hin N 60 [⟨13, 0, .bool true, H⟩, ⟨14, 1, .vptr (.i x0), H⟩, ⟨15, 3, .vptr (.imm .arg 1 l0), H⟩, ⟨15, 6, .vptr (.i x1), H⟩, ⟨15, 8, .bool true, H⟩] fun kf hk => ⟨_, by kernel_rfl, (oB H (decide_eq_true g0) (oP H g1 (oP H g2 (oP H g3 (oB H (congrArg not (decide_eq_false g4)) .nil)))))⟩
theorem im_k_4 (N : Nat) (rw : List HV) (i : Nat) (H : Heap) (la : List HV) (j : Nat)(g0 : ¬ ((j : Int) < (la.length : Int))) : RunsTo Try.prog polM 46 (sub [1, 1, 1, 0, 1, 0, 0, 1, 1, 0, 0, 1, 1, 0, 0] B46) (env46 (.imm .arg 1 rw) (.bool false) .undef (.i (i : Int)) .undef .undef .undef .undef .undef .undef (.imm .arg 1 rw) (.i (rw.length : Int)) (.i (i : Int)) (.imm .arg 1 la) (.i (la.length : Int)) (.i (j : Int))) H (.exit 4) (polM.keys 46) (env46 (.imm .arg 1 rw) (.bool false) .undef (.i (i : Int)) .undef .undef .undef .undef .undef .undef (.imm .arg 1 rw) (.i (rw.length : Int)) (.i (i : Int)) (.imm .arg 1 la) (.i (la.length : Int)) (.i (j : Int))) H :=
  RunsTo.hin N 60 [⟨13, 0, .bool false, H⟩] fun kf hk => ⟨_, by kernel_rfl, (oB H (decide_eq_false g0) .nil)⟩
theorem im_n_0 (N : Nat) (rw : List HV) (i : Nat) (H : Heap) (la : List HV) (j : Nat) : RunsTo Try.prog polM 46 (sub [1, 1, 1, 0, 1, 0, 0, 1, 1, 1] B46) (env46 (.imm .arg 1 rw) (.bool false) .undef (.i (i : Int)) .undef .undef .undef .undef .undef .undef (.imm .arg 1 rw) (.i (rw.length : Int)) (.i (i : Int)) (.imm .arg 1 la) (.i (la.length : Int)) (.i (j : Int))) H .normal (polM.keys 46) (env46 (.imm .arg 1 rw) (.bool false) .undef (.i (i : Int)) .undef .undef .undef .undef .undef .undef (.imm .arg 1 rw) (.i (rw.length : Int)) (.i (IntKind.i64.wrap ((i : Int) + 1))) (.imm .arg 1 la) (.i (la.length : Int)) (.i (j : Int))) H :=
  RunsTo.hin N 60 [] fun kf hk => ⟨_, by kernel_rfl, .nil⟩
theorem im_z_0 (N : Nat) (rw : List HV) (i : Nat) (H : Heap) : RunsTo Try.prog polM 46 (sub [1, 1, 1, 1] B46) (env46 (.imm .arg 1 rw) (.bool false) .undef .undef .undef .undef .undef .undef .undef .undef (.imm .arg 1 rw) (.i (rw.length : Int)) (.i (i : Int)) .undef .undef .undef) H .ret (polM.keys 46) (env46 (.imm .arg 1 rw) (.bool true) .undef .undef .undef .undef .undef .undef .undef .undef (.imm .arg 1 rw) (.i (rw.length : Int)) (.i (i : Int)) .undef .undef .undef) H :=
  RunsTo.hin N 60 [] fun kf hk => ⟨_, by kernel_rfl, .nil⟩
noncomputable def B18 : Code := Try.f18.body.getD .skip
abbrev env18 (v0 v2 v3 v4 v5 v6 : HV) : Env := [(0, v0), (2, v2), (3, v3), (4, v4), (5, v5), (6, v6)]
theorem ds_a_0 (rw : List HV) : RunsTo Try.prog pol 18 (sub [0] B18) [(0, .imm .arg 1 rw)] [] .normal (pol.keys 18) (env18 (.imm .arg 1 rw) (.bool false) .undef .undef .undef .undef) [] :=
  RunsTo.hin 0 60 [] fun kf hk => ⟨_, by kernel_rfl, .nil⟩
theorem ds_b_0 (rw : List HV) : RunsTo Try.prog pol 18 (sub [1, 0] B18) (env18 (.imm .arg 1 rw) (.bool false) .undef .undef .undef .undef) [] .normal (pol.keys 18) (env18 (.imm .arg 1 rw) (.bool false) (.i (rw.length : Int)) .undef .undef .undef) [] :=
  RunsTo.hin 0 60 [] fun kf hk => ⟨_, by kernel_rfl, .nil⟩
theorem ds_c_0 (rw : List HV) (n : Nat)(g0 : (n : Int) < 1) : RunsTo Try.prog pol 18 (sub [1, 1, 0] B18) (env18 (.imm .arg 1 rw) (.bool false) (.i (n : Int)) .undef .undef .undef) [] .ret (pol.keys 18) (env18 (.imm .arg 1 rw) (.bool false) (.i (n : Int)) .undef .undef .undef) [] :=
  RunsTo.hin 0 60 [⟨2, 1, .bool true, []⟩] fun kf hk => ⟨_, by kernel_rfl, (oB [] (decide_eq_true g0) .nil)⟩
theorem ds_c_1 (rw : List HV) (n : Nat)(g0 : ¬ ((n : Int) < 1)) (g1 : 11 < (n : Int)) : RunsTo Try.prog pol 18 (sub [1, 1, 0] B18) (env18 (.imm .arg 1 rw) (.bool false) (.i (n : Int)) .undef .undef .undef) [] .ret (pol.keys 18) (env18 (.imm .arg 1 rw) (.bool false) (.i (n : Int)) .undef .undef .undef) [] :=
  RunsTo.hin 0 60 [⟨2, 1, .bool false, []⟩, ⟨2, 4, .bool true, []⟩] fun kf hk => ⟨_, by kernel_rfl, (oB [] (decide_eq_false g0) (oB [] (decide_eq_true g1) .nil))⟩
theorem ds_c_2 (rw : List HV) (n : Nat)(g0 : ¬ ((n : Int) < 1)) (g1 : ¬ (11 < (n : Int))) : RunsTo Try.prog pol 18 (sub [1, 1, 0] B18) (env18 (.imm .arg 1 rw) (.bool false) (.i (n : Int)) .undef .undef .undef) [] .normal (pol.keys 18) (env18 (.imm .arg 1 rw) (.bool false) (.i (n : Int)) .undef .undef .undef) [] :=
  RunsTo.hin 0 60 [⟨2, 1, .bool false, []⟩, ⟨2, 4, .bool false, []⟩] fun kf hk => ⟨_, by kernel_rfl, (oB [] (decide_eq_false g0) (oB [] (decide_eq_false g1) .nil))⟩
theorem ds_d_0 (rw : List HV) (n : Nat) : RunsTo Try.prog pol 18 (sub [1, 1, 1, 0, 0] B18) (env18 (.imm .arg 1 rw) (.bool false) (.i (n : Int)) .undef .undef .undef) [] .normal (pol.keys 18) (env18 (.imm .arg 1 rw) (.bool false) (.i (n : Int)) (.i 0) .undef .undef) [] :=
  RunsTo.hin 0 60 [] fun kf hk => ⟨_, by kernel_rfl, .nil⟩
theorem ds_l_0 (rw : List HV) (n : Nat) (i : Nat) (l0 : List HV) (g0 : (i : Int) < (n : Int)) (g1 : idxV Try.prog 22 (.imm .arg 1 rw) (.i (i : Int)) = some (.vptr (.imm .arg 1 l0))) (g2 : (l0.length : Int) = (n : Int)) : RunsTo Try.prog pol 18 (sub [1, 1, 1, 0, 1, 0, 0] B18) (env18 (.imm .arg 1 rw) (.bool false) (.i (n : Int)) (.i (i : Int)) .undef .undef) [] .normal (pol.keys 18) (env18 (.imm .arg 1 rw) (.bool false) (.i (n : Int)) (.i (IntKind.i64.wrap ((i : Int) + 1))) .undef .undef) [] :=
  RunsTo.hin 0 60 [⟨5, 2, .bool true, []⟩, ⟨7, 2, .vptr (.imm .arg 1 l0), []⟩, ⟨7, 6, .bool false, []⟩] fun kf hk => ⟨_, by kernel_rfl, (oB [] (decide_eq_true g0) (oP [] g1 (oB [] (congrArg not (decide_eq_true g2)) .nil)))⟩
theorem ds_l_1 (rw : List HV) (n : Nat) (i : Nat) (l0 : List HV) (g0 : (i : Int) < (n : Int)) (g1 : idxV Try.prog 22 (.imm .arg 1 rw) (.i (i : Int)) = some (.vptr (.imm .arg 1 l0))) (g2 : ¬ ((l0.length : Int) = (n : Int))) : RunsTo Try.prog pol 18 (sub [1, 1, 1, 0, 1, 0, 0] B18) (env18 (.imm .arg 1 rw) (.bool false) (.i (n : Int)) (.i (i : Int)) .undef .undef) [] .ret (pol.keys 18) (env18 (.imm .arg 1 rw) (.bool false) (.i (n : Int)) (.i (i : Int)) .undef .undef) [] :=
  RunsTo.hin 0 60 [⟨5, 2, .bool true, []⟩, ⟨7, 2, .vptr (.imm .arg 1 l0), []⟩, ⟨7, 6, .bool true, []⟩] fun kf hk => ⟨_, by kernel_rfl, (oB [] (decide_eq_true g0) (oP [] g1 (oB [] (congrArg not (decide_eq_false g2)) .nil)))⟩
theorem ds_l_2 (rw : List HV) (n : Nat) (i : Nat)(g0 : ¬ ((i : Int) < (n : Int))) : RunsTo Try.prog pol 18 (sub [1, 1, 1, 0, 1, 0, 0] B18) (env18 (.imm .arg 1 rw) (.bool false) (.i (n : Int)) (.i (i : Int)) .undef .undef) [] (.exit 0) (pol.keys 18) (env18 (.imm .arg 1 rw) (.bool false) (.i (n : Int)) (.i (i : Int)) .undef .undef) [] :=
  RunsTo.hin 0 60 [⟨5, 2, .bool false, []⟩] fun kf hk => ⟨_, by kernel_rfl, (oB [] (decide_eq_false g0) .nil)⟩
theorem ds_e_0 (rw : List HV) (n : Nat) (i : Nat) : RunsTo Try.prog pol 18 (sub [1, 1, 1, 1, 0, 0] B18) (env18 (.imm .arg 1 rw) (.bool false) (.i (n : Int)) (.i (i : Int)) .undef .undef) [] .normal (pol.keys 18) (env18 (.imm .arg 1 rw) (.bool false) (.i (n : Int)) (.i (i : Int)) (.i 0) .undef) [] :=
  RunsTo.hin 0 60 [] fun kf hk => ⟨_, by kernel_rfl, .nil⟩
theorem ds_f_0 (rw : List HV) (n : Nat) (i : Nat)(g0 : (i : Int) < (n : Int)) : RunsTo Try.prog pol 18 (sub [1, 1, 1, 1, 0, 1, 0, 0, 0] B18) (env18 (.imm .arg 1 rw) (.bool false) (.i (n : Int)) .undef (.i (i : Int)) .undef) [] .normal (pol.keys 18) (env18 (.imm .arg 1 rw) (.bool false) (.i (n : Int)) .undef (.i (i : Int)) .undef) [] :=
  RunsTo.hin 0 60 [⟨10, 2, .bool true, []⟩] fun kf hk => ⟨_, by kernel_rfl, (oB [] (decide_eq_true g0) .nil)⟩
theorem ds_f_1 (rw : List HV) (n : Nat) (i : Nat)(g0 : ¬ ((i : Int) < (n : Int))) : RunsTo Try.prog pol 18 (sub [1, 1, 1, 1, 0, 1, 0, 0, 0] B18) (env18 (.imm .arg 1 rw) (.bool false) (.i (n : Int)) .undef (.i (i : Int)) .undef) [] (.exit 2) (pol.keys 18) (env18 (.imm .arg 1 rw) (.bool false) (.i (n : Int)) .undef (.i (i : Int)) .undef) [] :=
  RunsTo.hin 0 60 [⟨10, 2, .bool false, []⟩] fun kf hk => ⟨_, by kernel_rfl, (oB [] (decide_eq_false g0) .nil)⟩
theorem ds_g_0 (rw : List HV) (n : Nat) (i : Nat) : RunsTo Try.prog pol 18 (sub [1, 1, 1, 1, 0, 1, 0, 0, 1, 0, 0, 0] B18) (env18 (.imm .arg 1 rw) (.bool false) (.i (n : Int)) .undef (.i (i : Int)) .undef) [] .normal (pol.keys 18) (env18 (.imm .arg 1 rw) (.bool false) (.i (n : Int)) .undef (.i (i : Int)) (.i 0)) [] :=
  RunsTo.hin 0 60 [] fun kf hk => ⟨_, by kernel_rfl, .nil⟩
theorem ds_k_0 (rw : List HV) (n : Nat) (i : Nat) (j : Nat) (l0 : List HV) (x0 : Int) (g0 : (j : Int) < (n : Int)) (g1 : idxV Try.prog 22 (.imm .arg 1 rw) (.i (i : Int)) = some (.vptr (.imm .arg 1 l0))) (g2 : idxV Try.prog 23 (.imm .arg 1 l0) (.i (j : Int)) = some (.vptr (.i x0))) (g3 : x0 < 0) : RunsTo Try.prog pol 18 (sub [1, 1, 1, 1, 0, 1, 0, 0, 1, 0, 0, 1, 0, 0] B18) (env18 (.imm .arg 1 rw) (.bool false) (.i (n : Int)) .undef (.i (i : Int)) (.i (j : Int))) [] .ret (pol.keys 18) (env18 (.imm .arg 1 rw) (.bool false) (.i (n : Int)) .undef (.i (i : Int)) (.i (j : Int))) [] :=
  RunsTo.hin 0 60 [⟨13, 2, .bool true, []⟩, ⟨15, 2, .vptr (.imm .arg 1 l0), []⟩, ⟨15, 5, .vptr (.i x0), []⟩, ⟨15, 7, .bool true, []⟩] fun kf hk => ⟨_, by kernel_rfl, (oB [] (decide_eq_true g0) (oP [] g1 (oP [] g2 (oB [] (decide_eq_true g3) .nil))))⟩
theorem ds_k_1 (rw : List HV) (n : Nat) (i : Nat) (j : Nat) (l0 : List HV) (x0 : Int) (l1 : List HV) (x1 : Int) (g0 : (j : Int) < (n : Int)) (g1 : idxV Try.prog 22 (.imm .arg 1 rw) (.i (i : Int)) = some (.vptr (.imm .arg 1 l0))) (g2 : idxV Try.prog 23 (.imm .arg 1 l0) (.i (j : Int)) = some (.vptr (.i x0))) (g3 : ¬ (x0 < 0)) (g4 : idxV Try.prog 22 (.imm .arg 1 rw) (.i (i : Int)) = some (.vptr (.imm .arg 1 l1))) (g5 : idxV Try.prog 23 (.imm .arg 1 l1) (.i (j : Int)) = some (.vptr (.i x1))) (g6 : 1000 < x1) : RunsTo Try.prog pol 18 (sub [1, 1, 1, 1, 0, 1, 0, 0, 1, 0, 0, 1, 0, 0] B18) (env18 (.imm .arg 1 rw) (.bool false) (.i (n : Int)) .undef (.i (i : Int)) (.i (j : Int))) [] .ret (pol.keys 18) (env18 (.imm .arg 1 rw) (.bool false) (.i (n : Int)) .undef (.i (i : Int)) (.i (j : Int))) [] :=
  RunsTo.hin 0 60 [⟨13, 2, .bool true, []⟩, ⟨15, 2, .vptr (.imm .arg 1 l0), []⟩, ⟨15, 5, .vptr (.i x0), []⟩, ⟨15, 7, .bool false, []⟩, ⟨15, 11, .vptr (.imm .arg 1 l1), []⟩, ⟨15, 14, .vptr (.i x1), []⟩, ⟨15, 16, .bool true, []⟩] fun kf hk => ⟨_, by kernel_rfl, (oB [] (decide_eq_true g0) (oP [] g1 (oP [] g2 (oB [] (decide_eq_false g3) (oP [] g4 (oP [] g5 (oB [] (decide_eq_true g6) .nil)))))))⟩
theorem ds_k_2 (rw : List HV) (n : Nat) (i : Nat) (j : Nat) (l0 : List HV) (x0 : Int) (l1 : List HV) (x1 : Int) (l2 : List HV) (x2 : Int) (l3 : List HV) (x3 : Int) (l4 : List HV) (x4 : Int) (g0 : (j : Int) < (n : Int)) (g1 : idxV Try.prog 22 (.imm .arg 1 rw) (.i (i : Int)) = some (.vptr (.imm .arg 1 l0))) (g2 : idxV Try.prog 23 (.imm .arg 1 l0) (.i (j : Int)) = some (.vptr (.i x0))) (g3 : ¬ (x0 < 0)) (g4 : idxV Try.prog 22 (.imm .arg 1 rw) (.i (i : Int)) = some (.vptr (.imm .arg 1 l1))) (g5 : idxV Try.prog 23 (.imm .arg 1 l1) (.i (j : Int)) = some (.vptr (.i x1))) (g6 : ¬ (1000 < x1)) (g7 : idxV Try.prog 22 (.imm .arg 1 rw) (.i (i : Int)) = some (.vptr (.imm .arg 1 l2))) (g8 : idxV Try.prog 23 (.imm .arg 1 l2) (.i (j : Int)) = some (.vptr (.i x2))) (g9 : idxV Try.prog 22 (.imm .arg 1 rw) (.i (j : Int)) = some (.vptr (.imm .arg 1 l3))) (g10 : idxV Try.prog 23 (.imm .arg 1 l3) (.i (i : Int)) = some (.vptr (.i x3))) (g11 : x2 = x3) (g12 : (i : Int) = (j : Int)) (g13 : idxV Try.prog 22 (.imm .arg 1 rw) (.i (i : Int)) = some (.vptr (.imm .arg 1 l4))) (g14 : idxV Try.prog 23 (.imm .arg 1 l4) (.i (j : Int)) = some (.vptr (.i x4))) (g15 : x4 = 0) : RunsTo Try.prog pol 18 (sub [1, 1, 1, 1, 0, 1, 0, 0, 1, 0, 0, 1, 0, 0] B18) (env18 (.imm .arg 1 rw) (.bool false) (.i (n : Int)) .undef (.i (i : Int)) (.i (j : Int))) [] .normal (pol.keys 18) (env18 (.imm .arg 1 rw) (.bool false) (.i (n : Int)) .undef (.i (i : Int)) (.i (IntKind.i64.wrap ((j : Int) + 1)))) [] :=
  RunsTo.hin 0 60 [⟨13, 2, .bool true, []⟩, ⟨15, 2, .vptr (.imm .arg 1 l0), []⟩, ⟨15, 5, .vptr (.i x0), []⟩, ⟨15, 7, .bool false, []⟩, ⟨15, 11, .vptr (.imm .arg 1 l1), []⟩, ⟨15, 14, .vptr (.i x1), []⟩, ⟨15, 16, .bool false, []⟩, ⟨15, 21, .vptr (.imm .arg 1 l2), []⟩, ⟨15, 24, .vptr (.i x2), []⟩, ⟨15, 28, .vptr (.imm .arg 1 l3), []⟩, ⟨15, 31, .vptr (.i x3), []⟩, ⟨15, 33, .bool false, []⟩, ⟨15, 38, .bool true, []⟩, ⟨15, 42, .vptr (.imm .arg 1 l4), []⟩, ⟨15, 45, .vptr (.i x4), []⟩, ⟨15, 47, .bool false, []⟩] fun kf hk => ⟨_, by kernel_rfl, (oB [] (decide_eq_true g0) (oP [] g1 (oP [] g2 (oB [] (decide_eq_false g3) (oP [] g4 (oP [] g5 (oB [] (decide_eq_false g6) (oP [] g7 (oP [] g8 (oP [] g9 (oP [] g10 (oB [] (congrArg not (decide_eq_true g11)) (oB [] (decide_eq_true g12) (oP [] g13 (oP [] g14 (oB [] (congrArg not (decide_eq_true g15)) .nil))))))))))))))))⟩
theorem ds_k_3 (rw : List HV) (n : Nat) (i : Nat) (j : Nat) (l0 : List HV) (x0 : Int) (l1 : List HV) (x1 : Int) (l2 : List HV) (x2 : Int) (l3 : List HV) (x3 : Int) (l4 : List HV) (x4 : Int) (g0 : (j : Int) < (n : Int)) (g1 : idxV Try.prog 22 (.imm .arg 1 rw) (.i (i : Int)) = some (.vptr (.imm .arg 1 l0))) (g2 : idxV Try.prog 23 (.imm .arg 1 l0) (.i (j : Int)) = some (.vptr (.i x0))) (g3 : ¬ (x0 < 0)) (g4 : idxV Try.prog 22 (.imm .arg 1 rw) (.i (i : Int)) = some (.vptr (.imm .arg 1 l1))) (g5 : idxV Try.prog 23 (.imm .arg 1 l1) (.i (j : Int)) = some (.vptr (.i x1))) (g6 : ¬ (1000 < x1)) (g7 : idxV Try.prog 22 (.imm .arg 1 rw) (.i (i : Int)) = some (.vptr (.imm .arg 1 l2))) (g8 : idxV Try.prog 23 (.imm .arg 1 l2) (.i (j : Int)) = some (.vptr (.i x2))) (g9 : idxV Try.prog 22 (.imm .arg 1 rw) (.i (j : Int)) = some (.vptr (.imm .arg 1 l3))) (g10 : idxV Try.prog 23 (.imm .arg 1 l3) (.i (i : Int)) = some (.vptr (.i x3))) (g11 : x2 = x3) (g12 : (i : Int) = (j : Int)) (g13 : idxV Try.prog 22 (.imm .arg 1 rw) (.i (i : Int)) = some (.vptr (.imm .arg 1 l4))) (g14 : idxV Try.prog 23 (.imm .arg 1 l4) (.i (j : Int)) = some (.vptr (.i x4))) (g15 : ¬ (x4 = 0)) : RunsTo Try.prog pol 18 (sub [1, 1, 1, 1, 0, 1, 0, 0, 1, 0, 0, 1, 0, 0] B18) (env18 (.imm .arg 1 rw) (.bool false) (.i (n : Int)) .undef (.i (i : Int)) (.i (j : Int))) [] .ret (pol.keys 18) (env18 (.imm .arg 1 rw) (.bool false) (.i (n : Int)) .undef (.i (i : Int)) (.i (j : Int))) [] :=
  RunsTo.hin 0 60 [⟨13, 2, .bool true, []⟩, ⟨15, 2, .vptr (.imm .arg 1 l0), []⟩, ⟨15, 5, .vptr (.i x0), []⟩, ⟨15, 7, .bool false, []⟩, ⟨15, 11, .vptr (.imm .arg 1 l1), []⟩, ⟨15, 14, .vptr (.i x1), []⟩, ⟨15, 16, .bool false, []⟩, ⟨15, 21, .vptr (.imm .arg 1 l2), []⟩, ⟨15, 24, .vptr (.i x2), []⟩, ⟨15, 28, .vptr (.imm .arg 1 l3), []⟩, ⟨15, 31, .vptr (.i x3), []⟩, ⟨15, 33, .bool false, []⟩, ⟨15, 38, .bool true, []⟩, ⟨15, 42, .vptr (.imm .arg 1 l4), []⟩, ⟨15, 45, .vptr (.i x4), []⟩, ⟨15, 47, .bool true, []⟩] fun kf hk => ⟨_, by kernel_rfl, (oB [] (decide_eq_true g0) (oP [] g1 (oP [] g2 (oB [] (decide_eq_false g3) (oP [] g4 (oP [] g5 (oB [] (decide_eq_false g6) (oP [] g7 (oP [] g8 (oP [] g9 (oP [] g10 (oB [] (congrArg not (decide_eq_true g11)) (oB [] (decide_eq_true g12) (oP [] g13 (oP [] g14 (oB [] (congrArg not (decide_eq_false g15)) .nil))))))))))))))))⟩
theorem ds_k_4 (rw : List HV) (n : Nat) (i : Nat) (j : Nat) (l0 : List HV) (x0 : Int) (l1 : List HV) (x1 : Int) (l2 : List HV) (x2 : Int) (l3 : List HV) (x3 : Int) (g0 : (j : Int) < (n : Int)) (g1 : idxV Try.prog 22 (.imm .arg 1 rw) (.i (i : Int)) = some (.vptr (.imm .arg 1 l0))) (g2 : idxV Try.prog 23 (.imm .arg 1 l0) (.i (j : Int)) = some (.vptr (.i x0))) (g3 : ¬ (x0 < 0)) (g4 : idxV Try.prog 22 (.imm .arg 1 rw) (.i (i : Int)) = some (.vptr (.imm .arg 1 l1))) (g5 : idxV Try.prog 23 (.imm .arg 1 l1) (.i (j : Int)) = some (.vptr (.i x1))) (g6 : ¬ (1000 < x1)) (g7 : idxV Try.prog 22 (.imm .arg 1 rw) (.i (i : Int)) = some (.vptr (.imm .arg 1 l2))) (g8 : idxV Try.prog 23 (.imm .arg 1 l2) (.i (j : Int)) = some (.vptr (.i x2))) (g9 : idxV Try.prog 22 (.imm .arg 1 rw) (.i (j : Int)) = some (.vptr (.imm .arg 1 l3))) (g10 : idxV Try.prog 23 (.imm .arg 1 l3) (.i (i : Int)) = some (.vptr (.i x3))) (g11 : x2 = x3) (g12 : ¬ ((i : Int) = (j : Int))) : RunsTo Try.prog pol 18 (sub [1, 1, 1, 1, 0, 1, 0, 0, 1, 0, 0, 1, 0, 0] B18) (env18 (.imm .arg 1 rw) (.bool false) (.i (n : Int)) .undef (.i (i : Int)) (.i (j : Int))) [] .normal (pol.keys 18) (env18 (.imm .arg 1 rw) (.bool false) (.i (n : Int)) .undef (.i (i : Int)) (.i (IntKind.i64.wrap ((j : Int) + 1)))) [] :=
  RunsTo.hin 0 60 [⟨13, 2, .bool true, []⟩, ⟨15, 2, .vptr (.imm .arg 1 l0), []⟩, ⟨15, 5, .vptr (.i x0), []⟩, ⟨15, 7, .bool false, []⟩, ⟨15, 11, .vptr (.imm .arg 1 l1), []⟩, ⟨15, 14, .vptr (.i x1), []⟩, ⟨15, 16, .bool false, []⟩, ⟨15, 21, .vptr (.imm .arg 1 l2), []⟩, ⟨15, 24, .vptr (.i x2), []⟩, ⟨15, 28, .vptr (.imm .arg 1 l3), []⟩, ⟨15, 31, .vptr (.i x3), []⟩, ⟨15, 33, .bool false, []⟩, ⟨15, 38, .bool false, []⟩] fun kf hk => ⟨_, by kernel_rfl, (oB [] (decide_eq_true g0) (oP [] g1 (oP [] g2 (oB [] (decide_eq_false g3) (oP [] g4 (oP [] g5 (oB [] (decide_eq_false g6) (oP [] g7 (oP [] g8 (oP [] g9 (oP [] g10 (oB [] (congrArg not (decide_eq_true g11)) (oB [] (decide_eq_false g12) .nil)))))))))))))⟩
theorem ds_k_5 (rw : List HV) (n : Nat) (i : Nat) (j : Nat) (l0 : List HV) (x0 : Int) (l1 : List HV) (x1 : Int) (l2 : List HV) (x2 : Int) (l3 : List HV) (x3 : Int) (g0 : (j : Int) < (n : Int)) (g1 : idxV Try.prog 22 (.imm .arg 1 rw) (.i (i : Int)) = some (.vptr (.imm .arg 1 l0))) (g2 : idxV Try.prog 23 (.imm .arg 1 l0) (.i (j : Int)) = some (.vptr (.i x0))) (g3 : ¬ (x0 < 0)) (g4 : idxV Try.prog 22 (.imm .arg 1 rw) (.i (i : Int)) = some (.vptr (.imm .arg 1 l1))) (g5 : idxV Try.prog 23 (.imm .arg 1 l1) (.i (j : Int)) = some (.vptr (.i x1))) (g6 : ¬ (1000 < x1)) (g7 : idxV Try.prog 22 (.imm .arg 1 rw) (.i (i : Int)) = some (.vptr (.imm .arg 1 l2))) (g8 : idxV Try.prog 23 (.imm .arg 1 l2) (.i (j : Int)) = some (.vptr (.i x2))) (g9 : idxV Try.prog 22 (.imm .arg 1 rw) (.i (j : Int)) = some (.vptr (.imm .arg 1 l3))) (g10 : idxV Try.prog 23 (.imm .arg 1 l3) (.i (i : Int)) = some (.vptr (.i x3))) (g11 : ¬ (x2 = x3)) : RunsTo Try.prog pol 18 (sub [1, 1, 1, 1, 0, 1, 0, 0, 1, 0, 0, 1, 0, 0] B18) (env18 (.imm .arg 1 rw) (.bool false) (.i (n : Int)) .undef (.i (i : Int)) (.i (j : Int))) [] .ret (pol.keys 18) (env18 (.imm .arg 1 rw) (.bool false) (.i (n : Int)) .undef (.i (i : Int)) (.i (j : Int))) [] :=
  RunsTo.hin 0 60 [⟨13, 2, .bool true, []⟩, ⟨15, 2, .vptr (.imm .arg 1 l0), []⟩, ⟨15, 5, .vptr (.i x0), []⟩, ⟨15, 7, .bool false, []⟩, ⟨15, 11, .vptr (.imm .arg 1 l1), []⟩, ⟨15, 14, .vptr (.i x1), []⟩, ⟨15, 16, .bool false, []⟩, ⟨15, 21, .vptr (.imm .arg 1 l2), []⟩, ⟨15, 24, .vptr (.i x2), []⟩, ⟨15, 28, .vptr (.imm .arg 1 l3), []⟩, ⟨15, 31, .vptr (.i x3), []⟩, ⟨15, 33, .bool true, []⟩] fun kf hk => ⟨_, by kernel_rfl, (oB [] (decide_eq_true g0) (oP [] g1 (oP [] g2 (oB [] (decide_eq_false g3) (oP [] g4 (oP [] g5 (oB [] (decide_eq_false g6) (oP [] g7 (oP [] g8 (oP [] g9 (oP [] g10 (oB [] (congrArg not (decide_eq_false g11)) .nil))))))))))))⟩
theorem ds_k_6 (rw : List HV) (n : Nat) (i : Nat) (j : Nat)(g0 : ¬ ((j : Int) < (n : Int))) : RunsTo Try.prog pol 18 (sub [1, 1, 1, 1, 0, 1, 0, 0, 1, 0, 0, 1, 0, 0] B18) (env18 (.imm .arg 1 rw) (.bool false) (.i (n : Int)) .undef (.i (i : Int)) (.i (j : Int))) [] (.exit 4) (pol.keys 18) (env18 (.imm .arg 1 rw) (.bool false) (.i (n : Int)) .undef (.i (i : Int)) (.i (j : Int))) [] :=
  RunsTo.hin 0 60 [⟨13, 2, .bool false, []⟩] fun kf hk => ⟨_, by kernel_rfl, (oB [] (decide_eq_false g0) .nil)⟩
theorem ds_n_0 (rw : List HV) (n : Nat) (i : Nat) (j : Nat) : RunsTo Try.prog pol 18 (sub [1, 1, 1, 1, 0, 1, 0, 0, 1, 1] B18) (env18 (.imm .arg 1 rw) (.bool false) (.i (n : Int)) .undef (.i (i : Int)) (.i (j : Int))) [] .normal (pol.keys 18) (env18 (.imm .arg 1 rw) (.bool false) (.i (n : Int)) .undef (.i (IntKind.i64.wrap ((i : Int) + 1))) (.i (j : Int))) [] :=
  RunsTo.hin 0 60 [] fun kf hk => ⟨_, by kernel_rfl, .nil⟩
theorem ds_z_0 (rw : List HV) (n : Nat) (i : Nat) : RunsTo Try.prog pol 18 (sub [1, 1, 1, 1, 1] B18) (env18 (.imm .arg 1 rw) (.bool false) (.i (n : Int)) .undef (.i (i : Int)) .undef) [] .ret (pol.keys 18) (env18 (.imm .arg 1 rw) (.bool true) (.i (n : Int)) .undef (.i (i : Int)) .undef) [] :=
  RunsTo.hin 0 60 [] fun kf hk => ⟨_, by kernel_rfl, .nil⟩
end Go.Proofs.Ytlendaofkmhgmaa
end
section
open Go Go.HL
namespace Go.Proofs.Ytlendaofkmhgmaa
theorem soundW (n : Nat) : CallSound Try.prog (callN Try.prog polW n) := sound_prim _ (fun g f h => by
  split at h
  · rename_i hg; cases h; rw [eq_of_beq hg]; exact within_ok
  · cases h) n
theorem res68 : Try.f68.results.toList = [.tmp 2] := by kernel_rfl
theorem mile_ok : PrimOk Try.prog 68 mile68 := by
  refine primOk_pure (pol := polW) (fn := Try.f68) (cd := B68) follows_mixed soundW (by kernel_rfl) (by kernel_rfl) (fnok polW.prim _ _ (by kernel_rfl)) (by kernel_rfl) ?_
  intro args res h
  unfold mile68 at h
  split at h
  · rename_i n
    cases h
    by_cases g : (0 : Int) ≤ n ∧ n ≤ 1000
    · exact ⟨_, _, _, .bool false, m1_0 n g, by simp, by simp only [resultsV, res68]; rfl, by rw [decide_eq_true g]; rfl⟩
    · exact ⟨_, _, _, .bool true, m1_1 n g, by simp, by simp only [resultsV, res68]; rfl, by rw [decide_eq_false g]; rfl⟩
  · cases h
theorem soundM (n : Nat) : CallSound Try.prog (callN Try.prog polM n) := sound_prim _ (fun g f h => by
  split at h
  · rename_i hg; cases h; rw [eq_of_beq hg]; exact within_ok
  split at h
  · rename_i hg; cases h; rw [eq_of_beq hg]; exact mile_ok
  · cases h) n
theorem CallsTo.shared {P : Program} {pol : Pol} {g : FuncId} {fn : Func} {cd : Code} {args : List HV} {x : X} {E : Env} {H H' : Heap} {v : HV} (hp : pol.prim g = none) (hf : P.funcs[g]? = some fn) (hb : fn.body = some cd) (hs : pol.shared g = true)
    (hrun : RunsTo P pol g cd (args0 args) H x (pol.keys g) E H') (hres : (fn.results.toList.all fun r => match r with | .tmp t => (pol.keys g).contains t | .cell t _ => (pol.keys g).contains t) = true) (hx : ∀ i, x ≠ .exit i) (hv : resultsV P fn E H' = some v) :
    CallsTo (P := P) (pol := pol) g args H v (gc H.length (bnd v) H') := by
  obtain ⟨m, h⟩ := hrun
  refine ⟨m + 1, fun k hk => ?_⟩
  obtain ⟨k, rfl⟩ : ∃ n', k = n' + 1 := ⟨k - 1, by omega⟩
  obtain ⟨e1, g1, g2⟩ := h k k (by omega) (by omega)
  subst g2
  rw [resultsV_restr hres] at hv
  simp only [callN, doCall, hp, hf, hb, hs, if_true, sharedCall, g1]
  cases x with
  | exit i => exact absurd rfl (hx i)
  | normal => simp only [hv]
  | ret => simp only [hv]
theorem CallsTo.from {pol : Pol} {g : FuncId} {args : List HV} {H H' : Heap} {r : HV} (h : CallsTo (P := Try.prog) (pol := pol) g args H r H') : ∃ N, ∀ kf, N ≤ kf → callN Try.prog pol (kf + 1) g args H = some (r, H') := by
  obtain ⟨m, h⟩ := h
  exact ⟨m, fun kf hk => h (kf + 1) (by omega)⟩
theorem res69 : Try.f69.results.toList = [.tmp 4] := by kernel_rfl
theorem res47 : Try.f47.results.toList = [.tmp 4] := by kernel_rfl
abbrev jxE (l : List Int) (j : Nat) : Env := env69 (.imm .arg 1 (l.map encI)) (.func 68 [] []) (.int .i64 0) .undef (.int .i64 (l.length : Int)) (.int .i64 (j : Int))
def mi (v : Int) : Prop := 0 ≤ v ∧ v ≤ 1000
theorem prim_mile (n : Int) (H : Heap) (b : Bool) (hb : (!decide (0 ≤ n ∧ n ≤ 1000)) = b) : ∀ k, callN Try.prog polM (k + 1) 68 [.int .i64 n] H = some (.bool b, H) := fun k => by
  rw [prim_call (pol := polM) (g := 68) (F := mile68) (by kernel_rfl) (rs := [.int .i64 n]) rfl (res := .bool b) (by rw [← hb]; rfl)]; rfl
theorem jx_loop (l : List Int) (H : Heap) (hl : l.length ≤ 1000) : ∀ (d j : Nat), j + d = l.length →
    ∃ x E r, RunsTo Try.prog polM 69 (sub [1, 0, 1, 0] B69) (jxE l j) H x (polM.keys 69) E H ∧
      (((∀ v, v ∈ l.drop j → mi v) ∧ x = .exit 0 ∧ E = jxE l l.length) ∨ (x = .ret ∧ E.get 4 = .int .i64 r ∧ 0 ≤ r ∧ ¬ ∀ v, v ∈ l.drop j → mi v)) := by
  intro d
  induction d with
  | zero =>
    intro j hj
    have hj : j = l.length := by omega
    subst hj
    have s1 := jx_l_2 (l.map encI) H l.length (by simp)
    rw [List.length_map] at s1
    exact ⟨_, _, 0, RunsTo.loop_out s1 (by simp) (by kernel_rfl) (by kernel_rfl), .inl ⟨by simp, rfl, rfl⟩⟩
  | succ d ih =>
    intro j hj
    have hjl : j < l.length := by omega
    have g1 := gx hjl
    rw [getD_at hjl] at g1
    rw [List.drop_eq_getElem_cons hjl]
    by_cases he : 0 ≤ l[j] ∧ l[j] ≤ 1000
    · obtain ⟨x, E, r, h1, h2⟩ := ih (j + 1) (by omega)
      have s1 := jx_l_1 (l.map encI) H j _ H (by simp; omega) g1 (prim_mile _ H false (by rw [decide_eq_true he]; rfl))
      rw [wrap_succ (by omega), List.length_map] at s1
      refine ⟨x, E, r, RunsTo.loop s1 (by kernel_rfl) (gc_eq _ rfl) h1 rfl (by kernel_rfl) (by kernel_rfl), ?_⟩
      rcases h2 with ⟨k1, k2, k3⟩ | ⟨k1, k2, k3, k4⟩
      · exact .inl ⟨fun v hv => by
          rcases List.mem_cons.1 hv with rfl | hv
          · exact he
          · exact k1 v hv, k2, k3⟩
      · exact .inr ⟨k1, k2, k3, fun h => k4 fun v hv => h v (List.mem_cons_of_mem _ hv)⟩
    · have s1 := jx_l_0 (l.map encI) H j _ H (by simp; omega) g1 (prim_mile _ H true (by rw [decide_eq_false he]; rfl))
      rw [List.length_map] at s1
      exact ⟨_, _, (j : Int), RunsTo.loop_out s1 (by simp) (by kernel_rfl) (by kernel_rfl), .inr ⟨rfl, rfl, by omega, fun h => he (h _ List.mem_cons_self)⟩⟩
theorem jx_call (l : List Int) (H : Heap) (hl : l.length ≤ 1000) : ∃ r, CallsTo (P := Try.prog) (pol := polM) 69 [.imm .arg 1 (l.map encI), .func 68 [] []] H (.int .i64 r) H ∧ (0 ≤ r ↔ ¬ ∀ v, v ∈ l → mi v) := by
  have a1 := jx_a_0 (l.map encI) H
  have b1 := jx_b_0 (l.map encI) H
  rw [List.length_map] at b1
  obtain ⟨x, E, r, h1, h2⟩ := jx_loop l H hl l.length 0 (by omega)
  rw [List.drop_zero] at h2
  rcases h2 with ⟨k1, rfl, rfl⟩ | ⟨rfl, k2, k3, k4⟩
  · have t1 := RunsTo.seq b1 (RunsTo.block_exit (c := sub [1, 0, 1] B69) h1 (by kernel_rfl)) (c := sub [1, 0] B69) (by kernel_rfl) (by kernel_rfl)
    have z1 := jx_z_0 (l.map encI) H l.length
    rw [List.length_map] at z1
    have t2 := RunsTo.seq a1 (RunsTo.seq t1 z1 (c := sub [1] B69) (by kernel_rfl) (by kernel_rfl)) (c := B69) (by kernel_rfl) (by kernel_rfl)
    have := CallsTo.shared (P := Try.prog) (pol := polM) (g := 69) (fn := Try.f69) (cd := B69) (args := [.imm .arg 1 (l.map encI), .func 68 [] []]) (v := .int .i64 (-1)) (by kernel_rfl) (by kernel_rfl) (by kernel_rfl) (by kernel_rfl) t2 (by kernel_rfl) (by simp) (by simp only [resultsV, res69]; rfl)
    rw [gc_eq _ rfl] at this
    exact ⟨-1, this, fun h => absurd h (by omega), fun h => absurd k1 h⟩
  · have t1 := RunsTo.seq b1 (RunsTo.block_ret (c := sub [1, 0, 1] B69) (i := 0) h1 (by kernel_rfl)) (c := sub [1, 0] B69) (by kernel_rfl) (by kernel_rfl)
    have t2 := RunsTo.seq a1 (RunsTo.seq_out t1 (by simp) (c := sub [1] B69) (b := sub [1, 1] B69) (by kernel_rfl)) (c := B69) (by kernel_rfl) (by kernel_rfl)
    have := CallsTo.shared (P := Try.prog) (pol := polM) (g := 69) (fn := Try.f69) (cd := B69) (args := [.imm .arg 1 (l.map encI), .func 68 [] []]) (v := .int .i64 r) (by kernel_rfl) (by kernel_rfl) (by kernel_rfl) (by kernel_rfl) t2 (by kernel_rfl) (by simp) (by simp only [resultsV, res69, mapO, resultV, k2])
    rw [gc_eq _ rfl] at this
    exact ⟨r, this, by simp only [k3, true_iff]; exact k4⟩
open Classical in
theorem cf_call (l : List Int) (H : Heap) (hl : l.length ≤ 1000) : CallsTo (P := Try.prog) (pol := polM) 47 [.imm .arg 1 (l.map encI), .func 68 [] []] H (.bool (decide (¬ ∀ v, v ∈ l → mi v))) H := by
  obtain ⟨r, hc, hr⟩ := jx_call l H hl
  obtain ⟨N, hN⟩ := CallsTo.from hc
  by_cases h0 : 0 ≤ r
  · rw [decide_eq_true (hr.1 h0)]
    have := CallsTo.shared (P := Try.prog) (pol := polM) (g := 47) (fn := Try.f47) (cd := B47) (args := [.imm .arg 1 (l.map encI), .func 68 [] []]) (v := .bool true) (by kernel_rfl) (by kernel_rfl) (by kernel_rfl) (by kernel_rfl) (cf_0 N (l.map encI) H r H hN h0) (by kernel_rfl) (by simp) (by simp only [resultsV, res47]; rfl)
    rw [gc_eq _ rfl] at this
    exact this
  · rw [decide_eq_false (fun h => h0 (hr.2 h))]
    have := CallsTo.shared (P := Try.prog) (pol := polM) (g := 47) (fn := Try.f47) (cd := B47) (args := [.imm .arg 1 (l.map encI), .func 68 [] []]) (v := .bool false) (by kernel_rfl) (by kernel_rfl) (by kernel_rfl) (by kernel_rfl) (cf_1 N (l.map encI) H r H hN h0) (by kernel_rfl) (by simp) (by simp only [resultsV, res47]; rfl)
    rw [gc_eq _ rfl] at this
    exact this
def rowLen (d : List (List Int)) (i : Nat) : Prop := (d.getD i []).length = d.length
def symAt (d : List (List Int)) (i j : Nat) : Prop := at2 d i j = at2 d j i ∧ (i = j → at2 d i j = 0)
def cellAt (d : List (List Int)) (i j : Nat) : Prop := (0 ≤ at2 d i j ∧ at2 d i j ≤ 1000) ∧ symAt d i j
section
variable {d : List (List Int)}
theorem gri' {i : Nat} (hi : i < d.length) : idxV Try.prog 22 (.imm .arg 1 (d.map encR)) (.int .i64 (i : Int)) = some (.vptr (.imm .arg 1 ((d.getD i []).map encI))) := gr hi
end
section
variable {d : List (List Int)}
theorem gat {i j : Nat} (hr : rowLen d i) (hj : j < d.length) : idxV Try.prog 23 (.imm .arg 1 ((d.getD i []).map encI)) (.int .i64 (j : Int)) = some (.vptr (.int .i64 (at2 d i j))) := gx (by rw [hr]; exact hj)
end
section
variable {d : List (List Int)}
abbrev dsE (d : List (List Int)) (v4 v5 v6 : HV) : Env := env18 (.imm .arg 1 (d.map encR)) (.bool false) (.int .i64 (d.length : Int)) v4 v5 v6
end
section
variable {d : List (List Int)}
theorem ds_rows (hd : d.length ≤ 1000) : ∀ (k i : Nat), i + k = d.length →
    ∃ x E, RunsTo Try.prog pol 18 (sub [1, 1, 1, 0, 1, 0] B18) (dsE d (.int .i64 (i : Int)) .undef .undef) [] x (pol.keys 18) E [] ∧
      ((x = .exit 0 ∧ E = dsE d (.int .i64 (d.length : Int)) .undef .undef ∧ ∀ a, i ≤ a → a < d.length → rowLen d a) ∨ (x = .ret ∧ E.get 2 = .bool false ∧ ¬ ∀ a, a < d.length → rowLen d a)) := by
  intro k
  induction k with
  | zero =>
    intro i hi
    have hi : i = d.length := by omega
    subst hi
    exact ⟨_, _, RunsTo.loop_out (ds_l_2 (d.map encR) d.length d.length (by omega)) (by simp) (by kernel_rfl) (by kernel_rfl), .inl ⟨rfl, rfl, fun a h1 h2 => by omega⟩⟩
  | succ k ih =>
    intro i hi
    have hil : i < d.length := by omega
    by_cases c : (d.getD i []).length = d.length
    · obtain ⟨x, E, h1, h2⟩ := ih (i + 1) (by omega)
      have s1 := ds_l_0 (d.map encR) d.length i _ (by omega) (gri' hil) (by rw [List.length_map]; omega)
      rw [wrap_succ (by omega)] at s1
      refine ⟨x, E, RunsTo.loop s1 (by kernel_rfl) rfl h1 rfl (by kernel_rfl) (by kernel_rfl), ?_⟩
      rcases h2 with ⟨k1, k2, k3⟩ | h2
      · exact .inl ⟨k1, k2, fun a h1 h2 => by
          by_cases e : a = i
          · rw [e]; exact c
          · exact k3 a (by omega) h2⟩
      · exact .inr h2
    · have s1 := ds_l_1 (d.map encR) d.length i _ (by omega) (gri' hil) (by rw [List.length_map]; omega)
      exact ⟨_, _, RunsTo.loop_out s1 (by simp) (by kernel_rfl) (by kernel_rfl), .inr ⟨rfl, rfl, fun h => c (h i hil)⟩⟩
end
section
variable {d : List (List Int)}
theorem ds_cells (hd : d.length ≤ 1000) (hr : ∀ a, a < d.length → rowLen d a) {i : Nat} (hi : i < d.length) : ∀ (k j : Nat), j + k = d.length →
    ∃ x E, RunsTo Try.prog pol 18 (sub [1, 1, 1, 1, 0, 1, 0, 0, 1, 0, 0, 1, 0] B18) (dsE d .undef (.int .i64 (i : Int)) (.int .i64 (j : Int))) [] x (pol.keys 18) E [] ∧
      ((x = .exit 4 ∧ E = dsE d .undef (.int .i64 (i : Int)) (.int .i64 (d.length : Int)) ∧ ∀ a, j ≤ a → a < d.length → cellAt d i a) ∨ (x = .ret ∧ E.get 2 = .bool false ∧ ¬ ∀ a, a < d.length → cellAt d i a)) := by
  intro k
  induction k with
  | zero =>
    intro j hj
    have hj : j = d.length := by omega
    subst hj
    exact ⟨_, _, RunsTo.loop_out (ds_k_6 (d.map encR) d.length i d.length (by omega)) (by simp) (by kernel_rfl) (by kernel_rfl), .inl ⟨rfl, rfl, fun a h1 h2 => by omega⟩⟩
  | succ k ih =>
    intro j hj
    have hjl : j < d.length := by omega
    have bad : ∀ E, RunsTo Try.prog pol 18 (sub [1, 1, 1, 1, 0, 1, 0, 0, 1, 0, 0, 1, 0, 0] B18) (dsE d .undef (.int .i64 (i : Int)) (.int .i64 (j : Int))) [] .ret (pol.keys 18) E [] → E.get 2 = .bool false → ¬ cellAt d i j → _ := fun E t hE hc =>
      (⟨_, E, RunsTo.loop_out t (by simp) (by kernel_rfl) (by kernel_rfl), .inr ⟨rfl, hE, fun h => hc (h j hjl)⟩⟩ : ∃ x E, RunsTo Try.prog pol 18 (sub [1, 1, 1, 1, 0, 1, 0, 0, 1, 0, 0, 1, 0] B18) (dsE d .undef (.int .i64 (i : Int)) (.int .i64 (j : Int))) [] x (pol.keys 18) E [] ∧
      ((x = .exit 4 ∧ E = dsE d .undef (.int .i64 (i : Int)) (.int .i64 (d.length : Int)) ∧ ∀ a, j ≤ a → a < d.length → cellAt d i a) ∨ (x = .ret ∧ E.get 2 = .bool false ∧ ¬ ∀ a, a < d.length → cellAt d i a)))
    have good : cellAt d i j → RunsTo Try.prog pol 18 (sub [1, 1, 1, 1, 0, 1, 0, 0, 1, 0, 0, 1, 0, 0] B18) (dsE d .undef (.int .i64 (i : Int)) (.int .i64 (j : Int))) [] .normal (pol.keys 18) (dsE d .undef (.int .i64 (i : Int)) (.int .i64 (IntKind.i64.wrap ((j : Int) + 1)))) [] → _ := fun hc t => (by
      rw [wrap_succ (by omega)] at t
      obtain ⟨x, E, h1, h2⟩ := ih (j + 1) (by omega)
      refine ⟨x, E, RunsTo.loop t (by kernel_rfl) rfl h1 rfl (by kernel_rfl) (by kernel_rfl), ?_⟩
      rcases h2 with ⟨k1, k2, k3⟩ | h2
      · exact .inl ⟨k1, k2, fun a h1 h2 => by
          by_cases e : a = j
          · rw [e]; exact hc
          · exact k3 a (by omega) h2⟩
      · exact .inr h2 : ∃ x E, RunsTo Try.prog pol 18 (sub [1, 1, 1, 1, 0, 1, 0, 0, 1, 0, 0, 1, 0] B18) (dsE d .undef (.int .i64 (i : Int)) (.int .i64 (j : Int))) [] x (pol.keys 18) E [] ∧
      ((x = .exit 4 ∧ E = dsE d .undef (.int .i64 (i : Int)) (.int .i64 (d.length : Int)) ∧ ∀ a, j ≤ a → a < d.length → cellAt d i a) ∨ (x = .ret ∧ E.get 2 = .bool false ∧ ¬ ∀ a, a < d.length → cellAt d i a)))
    have gi := gri' hi
    have gj := gri' hjl
    have g1 := gat (hr i hi) hjl
    have g2 := gat (hr j hjl) hi
    by_cases c1 : at2 d i j < 0
    · exact bad _ (ds_k_0 (d.map encR) d.length i j _ _ (by omega) gi g1 c1) rfl fun h => by have := h.1.1; omega
    · by_cases c2 : 1000 < at2 d i j
      · exact bad _ (ds_k_1 (d.map encR) d.length i j _ _ _ _ (by omega) gi g1 c1 gi g1 c2) rfl fun h => by have := h.1.2; omega
      · by_cases c3 : at2 d i j = at2 d j i
        · by_cases c4 : i = j
          · by_cases c5 : at2 d i j = 0
            · exact good ⟨⟨by omega, by omega⟩, c3, fun _ => c5⟩ (ds_k_2 (d.map encR) d.length i j _ _ _ _ _ _ _ _ _ _ (by omega) gi g1 c1 gi g1 c2 gi g1 gj g2 c3 (by omega) gi g1 c5)
            · exact bad _ (ds_k_3 (d.map encR) d.length i j _ _ _ _ _ _ _ _ _ _ (by omega) gi g1 c1 gi g1 c2 gi g1 gj g2 c3 (by omega) gi g1 c5) rfl fun h => c5 (h.2.2 c4)
          · exact good ⟨⟨by omega, by omega⟩, c3, fun h => absurd h c4⟩ (ds_k_4 (d.map encR) d.length i j _ _ _ _ _ _ _ _ (by omega) gi g1 c1 gi g1 c2 gi g1 gj g2 c3 (by omega))
        · exact bad _ (ds_k_5 (d.map encR) d.length i j _ _ _ _ _ _ _ _ (by omega) gi g1 c1 gi g1 c2 gi g1 gj g2 c3) rfl fun h => c3 h.2.1
end
section
variable {d : List (List Int)}
theorem ds_outer (hd : d.length ≤ 1000) (hr : ∀ a, a < d.length → rowLen d a) : ∀ (k i : Nat), i + k = d.length →
    ∃ x E, RunsTo Try.prog pol 18 (sub [1, 1, 1, 1, 0, 1, 0] B18) (dsE d .undef (.int .i64 (i : Int)) .undef) [] x (pol.keys 18) E [] ∧
      ((x = .exit 2 ∧ E = dsE d .undef (.int .i64 (d.length : Int)) .undef ∧ ∀ b, i ≤ b → b < d.length → ∀ a, a < d.length → cellAt d b a) ∨ (x = .ret ∧ E.get 2 = .bool false ∧ ¬ ∀ b, b < d.length → ∀ a, a < d.length → cellAt d b a)) := by
  intro k
  induction k with
  | zero =>
    intro i hi
    have hi : i = d.length := by omega
    subst hi
    exact ⟨_, _, RunsTo.loop_out (RunsTo.seq_out (ds_f_1 (d.map encR) d.length d.length (by omega)) (by simp) (c := sub [1, 1, 1, 1, 0, 1, 0, 0] B18) (b := sub [1, 1, 1, 1, 0, 1, 0, 0, 1] B18) (by kernel_rfl)) (by simp) (by kernel_rfl) (by kernel_rfl), .inl ⟨rfl, rfl, fun a h1 h2 => by omega⟩⟩
  | succ k ih =>
    intro i hi
    have hil : i < d.length := by omega
    have f1 := ds_f_0 (d.map encR) d.length i (by omega)
    have g1 := ds_g_0 (d.map encR) d.length i
    obtain ⟨x, E, h1, h2⟩ := ds_cells hd hr hil d.length 0 (by omega)
    have h1' := RunsTo.loop_in (e0 := dsE d .undef (.int .i64 (i : Int)) (.int .i64 0)) h1 (b := sub [1, 1, 1, 1, 0, 1, 0, 0, 1, 0, 0, 1, 0, 0] B18) (by kernel_rfl) (by kernel_rfl) (by kernel_rfl)
    rcases h2 with ⟨rfl, rfl, k3⟩ | ⟨rfl, k2, k3⟩
    · have n1 := ds_n_0 (d.map encR) d.length i d.length
      rw [wrap_succ (by omega)] at n1
      have t1 := RunsTo.seq g1 (RunsTo.block_exit (c := sub [1, 1, 1, 1, 0, 1, 0, 0, 1, 0, 0, 1] B18) h1' (by kernel_rfl)) (c := sub [1, 1, 1, 1, 0, 1, 0, 0, 1, 0, 0] B18) (by kernel_rfl) (by kernel_rfl)
      have t2 := RunsTo.block_normal (i := 3) (c := sub [1, 1, 1, 1, 0, 1, 0, 0, 1, 0] B18) t1 (by kernel_rfl)
      have t3 := RunsTo.seq f1 (RunsTo.seq t2 n1 (c := sub [1, 1, 1, 1, 0, 1, 0, 0, 1] B18) (by kernel_rfl) (by kernel_rfl)) (c := sub [1, 1, 1, 1, 0, 1, 0, 0] B18) (by kernel_rfl) (by kernel_rfl)
      obtain ⟨x, E, r1, r2⟩ := ih (i + 1) (by omega)
      refine ⟨x, E, RunsTo.loop t3 (by kernel_rfl) rfl r1 rfl (by kernel_rfl) (by kernel_rfl), ?_⟩
      rcases r2 with ⟨q1, q2, q3⟩ | r2
      · exact .inl ⟨q1, q2, fun b h1 h2 => by
          by_cases e : b = i
          · rw [e]; exact fun a ha => k3 a (by omega) ha
          · exact q3 b (by omega) h2⟩
      · exact .inr r2
    · have t1 := RunsTo.seq g1 (RunsTo.block_ret (c := sub [1, 1, 1, 1, 0, 1, 0, 0, 1, 0, 0, 1] B18) (i := 4) h1' (by kernel_rfl)) (c := sub [1, 1, 1, 1, 0, 1, 0, 0, 1, 0, 0] B18) (by kernel_rfl) (by kernel_rfl)
      have t2 := RunsTo.block_ret (i := 3) (c := sub [1, 1, 1, 1, 0, 1, 0, 0, 1, 0] B18) t1 (by kernel_rfl)
      have t3 := RunsTo.seq f1 (RunsTo.seq_out t2 (by simp) (c := sub [1, 1, 1, 1, 0, 1, 0, 0, 1] B18) (b := sub [1, 1, 1, 1, 0, 1, 0, 0, 1, 1] B18) (by kernel_rfl)) (c := sub [1, 1, 1, 1, 0, 1, 0, 0] B18) (by kernel_rfl) (by kernel_rfl)
      exact ⟨_, E, RunsTo.loop_out t3 (by simp) (by kernel_rfl) (by kernel_rfl), .inr ⟨rfl, k2, fun h => k3 (h i hil)⟩⟩
end
theorem okD_iff {d : List (List Int)} : okD d ↔ (1 ≤ d.length ∧ d.length ≤ 11) ∧ (∀ a, a < d.length → rowLen d a) ∧ ∀ b, b < d.length → ∀ a, a < d.length → cellAt d b a := Iff.rfl
theorem okB_true {d : List (List Int)} (h : okD d) : okB d = true := by unfold okB; simp [h]
theorem okB_false {d : List (List Int)} (h : ¬ okD d) : okB d = false := by unfold okB; simp [h]
theorem res18 : Try.f18.results.toList = [.tmp 2] := by kernel_rfl
theorem dist_ok : PrimOk Try.prog 18 miles46 := by
  refine primOk_pure (pol := pol) (fn := Try.f18) (cd := B18) follows_mixed sound (by kernel_rfl) (by kernel_rfl) (fnok pol.prim _ _ (by kernel_rfl)) (by kernel_rfl) ?_
  intro args res h
  obtain ⟨d, rfl, hq⟩ := rwF_inv h
  clear h
  split at hq
  · rename_i hc
    cases hq
    have a1 := ds_a_0 (d.map encR)
    have b1 := ds_b_0 (d.map encR)
    rw [List.length_map] at b1
    have fin : ∀ b E, RunsTo Try.prog pol 18 (sub [1, 1] B18) (dsE d .undef .undef .undef) [] .ret (pol.keys 18) E [] → E.get 2 = .bool b → okB d = b →
        ∃ x E H' v, RunsTo Try.prog pol 18 B18 (args0 [.imm .arg 1 (d.map encR)]) [] x (pol.keys 18) E H' ∧ (∀ i, x ≠ .exit i) ∧ resultsV Try.prog Try.f18 E H' = some v ∧ toRes H' (pol.deep 18) v = some (.bool (okB d)) := by
      intro b E t hE hb
      have t2 := RunsTo.seq a1 (RunsTo.seq b1 t (c := sub [1] B18) (by kernel_rfl) (by kernel_rfl)) (c := B18) (by kernel_rfl) (by kernel_rfl)
      exact ⟨_, E, [], .bool b, t2, by simp, by simp only [resultsV, res18, mapO, resultV, hE], by rw [hb]; rfl⟩
    by_cases c1 : (d.length : Int) < 1
    · exact fin false _ (RunsTo.seq_out (ds_c_0 (d.map encR) d.length c1) (by simp) (c := sub [1, 1] B18) (b := sub [1, 1, 1] B18) (by kernel_rfl)) rfl (okB_false fun h => by have := h.1.1; omega)
    · by_cases c2 : 11 < (d.length : Int)
      · exact fin false _ (RunsTo.seq_out (ds_c_1 (d.map encR) d.length c1 c2) (by simp) (c := sub [1, 1] B18) (b := sub [1, 1, 1] B18) (by kernel_rfl)) rfl (okB_false fun h => by have := h.1.2; omega)
      · have c3 := ds_c_2 (d.map encR) d.length c1 c2
        have d1 := ds_d_0 (d.map encR) d.length
        obtain ⟨x, E, h1, h2⟩ := ds_rows hc.1 d.length 0 (by omega)
        rcases h2 with ⟨rfl, rfl, k3⟩ | ⟨rfl, k2, k3⟩
        · have hr : ∀ a, a < d.length → rowLen d a := fun a ha => k3 a (Nat.zero_le _) ha
          have e1 := ds_e_0 (d.map encR) d.length d.length
          obtain ⟨x, E, r1, r2⟩ := ds_outer hc.1 hr d.length 0 (by omega)
          have r1' := RunsTo.loop_in (e0 := dsE d (.int .i64 (d.length : Int)) (.int .i64 0) .undef) r1 (b := sub [1, 1, 1, 1, 0, 1, 0, 0] B18) (by kernel_rfl) (by kernel_rfl) (by kernel_rfl)
          have t1 := RunsTo.seq d1 (RunsTo.block_exit (c := sub [1, 1, 1, 0, 1] B18) h1 (by kernel_rfl)) (c := sub [1, 1, 1, 0] B18) (by kernel_rfl) (by kernel_rfl)
          rcases r2 with ⟨rfl, rfl, q3⟩ | ⟨rfl, q2, q3⟩
          · have z1 := ds_z_0 (d.map encR) d.length d.length
            have t2 := RunsTo.seq e1 (RunsTo.block_exit (c := sub [1, 1, 1, 1, 0, 1] B18) r1' (by kernel_rfl)) (c := sub [1, 1, 1, 1, 0] B18) (by kernel_rfl) (by kernel_rfl)
            have t3 := RunsTo.seq t1 (RunsTo.seq t2 z1 (c := sub [1, 1, 1, 1] B18) (by kernel_rfl) (by kernel_rfl)) (c := sub [1, 1, 1] B18) (by kernel_rfl) (by kernel_rfl)
            exact fin true _ (RunsTo.seq c3 t3 (c := sub [1, 1] B18) (by kernel_rfl) (by kernel_rfl)) rfl (okB_true (okD_iff.2 ⟨⟨by omega, by omega⟩, hr, fun b hb => q3 b (Nat.zero_le _) hb⟩))
          · have t2 := RunsTo.seq e1 (RunsTo.block_ret (c := sub [1, 1, 1, 1, 0, 1] B18) (i := 2) r1' (by kernel_rfl)) (c := sub [1, 1, 1, 1, 0] B18) (by kernel_rfl) (by kernel_rfl)
            have t3 := RunsTo.seq t1 (RunsTo.seq_out t2 (by simp) (c := sub [1, 1, 1, 1] B18) (b := sub [1, 1, 1, 1, 1] B18) (by kernel_rfl)) (c := sub [1, 1, 1] B18) (by kernel_rfl) (by kernel_rfl)
            exact fin false _ (RunsTo.seq c3 t3 (c := sub [1, 1] B18) (by kernel_rfl) (by kernel_rfl)) q2 (okB_false fun h => q3 h.2.2)
        · have t1 := RunsTo.seq d1 (RunsTo.block_ret (c := sub [1, 1, 1, 0, 1] B18) (i := 0) h1 (by kernel_rfl)) (c := sub [1, 1, 1, 0] B18) (by kernel_rfl) (by kernel_rfl)
          have t3 := RunsTo.seq c3 (RunsTo.seq_out t1 (by simp) (c := sub [1, 1, 1] B18) (b := sub [1, 1, 1, 1] B18) (by kernel_rfl)) (c := sub [1, 1] B18) (by kernel_rfl) (by kernel_rfl)
          exact fin false _ t3 k2 (okB_false fun h => k3 h.2.1)
  · cases hq
end Go.Proofs.Ytlendaofkmhgmaa
end
section
open Go Go.HL
namespace Go.Proofs.Ytlendaofkmhgmaa
def recL (x x' : Option (HV × Heap)) (H H' : Heap) : Bool :=
  match x, x' with
  | some (v, H1), some (v', H1') => same v v' && sameH H1 H && sameH H1' H'
  | _, _ => false
def lkG (P : Program) (T : TypeId) (H : Heap) (b : Nat) (k : HV) (ok : Bool) : Option (HV × Heap) :=
  match H[b]? with
  | some (.map ks vs _) => (lookV P T ks vs k ok).map fun v => (v, H)
  | _ => none
theorem u82 : Try.prog.underlying 82 = some (.map 77 3) := by kernel_rfl
theorem z3q : tyZero Try.prog 3 = some (.int .i64 0) := by kernel_rfl
theorem key77 (p : Int × Int) : keyTy Try.prog 77 (encP p) = true := by kernel_rfl
theorem a77 : tyAgg Try.prog 77 = true := by kernel_rfl
theorem s77 : tySize Try.prog 77 = some 2 := by kernel_rfl
abbrev valT (T : Nat → Nat → Int) (k : Int × Int) : HV := .int .i64 (T k.1.toNat k.2.toNat)
theorem keyEq_pair (p q : Int × Int) : keyEq (encP p) (encP q) = some (decide (p = q)) := by
  obtain ⟨a, b⟩ := p
  obtain ⟨c, d⟩ := q
  simp only [encP, keyEq, aggEq, scEq, if_true, Bool.and_true, Prod.mk.injEq]
  by_cases h1 : a = c <;> by_cases h2 : b = d <;> simp [h1, h2]
theorem findK_pairs (x : Int × Int) : ∀ (ks : List (Int × Int)) (i : Nat), ∃ r, findK (encP x) (ks.map encP) i = some r ∧ ((x ∈ ks ∧ ∃ j, r = some (i + j) ∧ ks[j]? = some x) ∨ (x ∉ ks ∧ r = none))
  | [], i => ⟨none, rfl, .inr ⟨by simp, rfl⟩⟩
  | k :: ks, i => by
    by_cases e : x = k
    · subst e
      refine ⟨some i, ?_, .inl ⟨by simp, 0, rfl, by simp⟩⟩
      simp only [List.map_cons, findK, keyEq_pair, decide_true]
    · obtain ⟨r, h1, h2⟩ := findK_pairs x ks (i + 1)
      refine ⟨r, ?_, ?_⟩
      · simp only [List.map_cons, findK, keyEq_pair, decide_eq_false e]
        exact h1
      · rcases h2 with ⟨h3, j, h4, h5⟩ | ⟨h3, h4⟩
        · exact .inl ⟨by simp [h3], j + 1, by rw [h4]; congr 1; omega, by simpa using h5⟩
        · exact .inr ⟨by simp [h3, e], h4⟩
theorem mxs_le {m : Nat} : ∀ {H : Heap}, mxs H ≤ m ↔ ∀ B ∈ H, B.mx ≤ m
  | [] => by simp [mxs]
  | B :: H => by
    have := mxs_le (m := m) (H := H)
    simp only [mxs, List.mem_cons, forall_eq_or_imp, ← this]
    omega
theorem sameH_iff : ∀ {H : Heap}, sameH H H = true ↔ ∀ B ∈ H, sameH [B] [B] = true
  | [] => by simp [sameH]
  | B :: H => by
    have ih := sameH_iff (H := H)
    cases B with
    | arr k els w m => simp only [sameH, List.forall_mem_cons, ← ih, Bool.and_eq_true, and_true, Bool.and_true]
    | map ks vs m => simp only [sameH, List.forall_mem_cons, ← ih, Bool.and_eq_true, and_true, Bool.and_true]
    | dead => simp only [sameH, List.forall_mem_cons, ← ih, true_and]
theorem sameH_set {H : Heap} {B : Blk} {i : Nat} (h : sameH H H = true) (hB : sameH [B] [B] = true) : sameH (H.set i B) (H.set i B) = true := by
  rw [sameH_iff] at h ⊢
  intro C hC
  rcases List.mem_or_eq_of_mem_set hC with hC | rfl
  · exact h C hC
  · exact hB
theorem sameH_app {H : Heap} {B : Blk} (h : sameH H H = true) (hB : sameH [B] [B] = true) : sameH (H ++ [B]) (H ++ [B]) = true := by
  rw [sameH_iff] at h ⊢
  intro C hC
  rcases List.mem_append.1 hC with hC | hC
  · exact h C hC
  · rw [List.mem_singleton] at hC; rw [hC]; exact hB
theorem sameH_take {H : Heap} {k : Nat} (h : sameH H H = true) : sameH (H.take k) (H.take k) = true := by
  rw [sameH_iff] at h ⊢
  exact fun C hC => h C (List.mem_of_mem_take hC)
theorem sameL_all : ∀ {l : List HV}, (∀ v ∈ l, same v v = true) → sameL l l = true
  | [], _ => rfl
  | v :: l, h => by simp only [sameL, h v (by simp), sameL_all (l := l) (fun w hw => h w (by simp [hw])), Bool.and_self]
theorem same_arr {k m : Nat} {l : List HV} {w : Bool} (h : ∀ v ∈ l, same v v = true) : sameH [.arr k l w m] [.arr k l w m] = true := by
  simp [sameH, sameL_all h]
theorem same_bI (l : List Int) : sameH [bI l] [bI l] = true := same_arr fun v hv => by
  obtain ⟨k, _, rfl⟩ := List.mem_map.1 hv
  simp [encI, same]
theorem same_li (l : List Int) : sameL (l.map encI) (l.map encI) = true := sameL_all fun v hv => by
  obtain ⟨k, _, rfl⟩ := List.mem_map.1 hv
  simp [encI, same]
theorem same_imm (l : List Int) : same (.imm .arg 1 (l.map encI)) (.imm .arg 1 (l.map encI)) = true := by simp [same, same_li]
abbrev boxK (v w : Int) : Blk := .arr 2 [encP (v, w)] true 0
theorem same_box (v w : Int) : sameH [boxK v w] [boxK v w] = true := same_arr fun x hx => by
  rw [List.mem_singleton] at hx; subst hx
  simp [encP, same, sameL]
structure Mem (T : Nat → Nat → Int) (H : Heap) : Prop where
  memo : ∃ ks : List (Int × Int), H[0]? = some (.map (ks.map encP) (ks.map (valT T)) 0)
  rf : sameH H H = true
  mx : mxs H ≤ 0
structure Fr (H H' : Heap) : Prop where
  len : H'.length = H.length
  same : ∀ k, k ≠ 0 → H'[k]? = H[k]?
theorem Fr.refl (H : Heap) : Fr H H := ⟨rfl, fun _ _ => rfl⟩
theorem Fr.trans {H H' H'' : Heap} (h : Fr H H') (h' : Fr H' H'') : Fr H H'' := ⟨h'.len.trans h.len, fun k hk => (h'.same k hk).trans (h.same k hk)⟩
section
variable {T : Nat → Nat → Int} {H : Heap}
theorem Mem.pos (h : Mem T H) : 0 < H.length := by
  obtain ⟨ks, hk⟩ := h.memo
  exact lt_of_get hk
end
section
variable {T : Nat → Nat → Int} {H : Heap}
theorem Mem.lk (h : Mem T H) (k : Int × Int) : ∃ b : Bool, lkG Try.prog 82 H 0 (encP k) true = some (.tuple [.int .i64 (if b then T k.1.toNat k.2.toNat else 0), .bool b], H) ∧ (b = true → lkG Try.prog 82 H 0 (encP k) false = some (valT T k, H)) := by
  obtain ⟨ks, hm⟩ := h.memo
  obtain ⟨r, h1, h2⟩ := findK_pairs k ks 0
  have hk := key77 k
  have hz := z3q
  rcases h2 with ⟨h3, j, rfl, h5⟩ | ⟨h3, rfl⟩
  · have hj : (ks.map (valT T))[0 + j]? = some (valT T k) := by rw [Nat.zero_add, List.getElem?_map, h5]; rfl
    refine ⟨true, ?_, fun _ => ?_⟩
    · simp only [lkG, hm, lookV, u82, hk, if_true, h1, hj, Option.map]
    · simp only [lkG, hm, lookV, u82, hk, if_true, h1, hj, Option.map, Bool.false_eq_true, if_false]
  · refine ⟨false, ?_, fun h => absurd h (by simp)⟩
    simp only [lkG, hm, lookV, u82, hk, if_true, h1, hz]
    rfl
end
section
variable {T : Nat → Nat → Int} {H : Heap}
theorem same_map (T : Nat → Nat → Int) (ks : List (Int × Int)) : sameH [.map (ks.map encP) (ks.map (valT T)) 0] [.map (ks.map encP) (ks.map (valT T)) 0] = true := by
  have e1 : sameL (ks.map encP) (ks.map encP) = true := sameL_all fun v hv => by
    obtain ⟨k, _, rfl⟩ := List.mem_map.1 hv
    simp [encP, same, sameL]
  have e2 : sameL (ks.map (valT T)) (ks.map (valT T)) = true := sameL_all fun v hv => by
    obtain ⟨k, _, rfl⟩ := List.mem_map.1 hv
    simp [same]
  simp only [sameH, e1, e2, beq_self_eq_true, Bool.and_self]
end
section
variable {T : Nat → Nat → Int} {H : Heap}
theorem Mem.set (h : Mem T H) {k : Nat} {B : Blk} (h1 : k ≠ 0) (hB : sameH [B] [B] = true) (hm : B.mx = 0) : Mem T (H.set k B) := by
  obtain ⟨ks, hk⟩ := h.memo
  refine ⟨⟨ks, by rw [List.getElem?_set_ne (by omega)]; exact hk⟩, sameH_set h.rf hB, ?_⟩
  rw [mxs_le]
  intro C hC
  rcases List.mem_or_eq_of_mem_set hC with hC | rfl
  · exact mxs_le.1 h.mx C hC
  · omega
end
section
variable {T : Nat → Nat → Int} {H : Heap}
theorem Mem.app (h : Mem T H) {B : Blk} (hB : sameH [B] [B] = true) (hm : B.mx = 0) : Mem T (H ++ [B]) := by
  obtain ⟨ks, hk⟩ := h.memo
  have h2 := h.pos
  refine ⟨⟨ks, by rw [List.getElem?_append_left (by omega)]; exact hk⟩, sameH_app h.rf hB, ?_⟩
  rw [mxs_le]
  intro C hC
  rcases List.mem_append.1 hC with hC | hC
  · exact mxs_le.1 h.mx C hC
  · rw [List.mem_singleton.1 hC]; omega
end
section
variable {T : Nat → Nat → Int} {H : Heap}
theorem Mem.take (h : Mem T H) {m : Nat} (h1 : 0 < m) : Mem T (H.take m) := by
  obtain ⟨ks, hk⟩ := h.memo
  refine ⟨⟨ks, by rw [List.getElem?_take, if_pos (by omega)]; exact hk⟩, sameH_take h.rf, ?_⟩
  rw [mxs_le]
  intro C hC
  exact mxs_le.1 h.mx C (List.mem_of_mem_take hC)
end
section
variable {T : Nat → Nat → Int} {H : Heap}
theorem Mem.gc (h : Mem T H) {b r : Nat} : gc b r H = H.take (max b r) := by
  have := h.mx
  unfold HL.gc
  congr 1
  omega
end
section
variable {T : Nat → Nat → Int} {H : Heap}
theorem Mem.upd (h : Mem T H) (k : Int × Int) : ∃ H', updV Try.prog false 82 (.map 0) (encP k) (valT T k) H = some H' ∧ Mem T H' ∧ Fr H H' ∧ lkG Try.prog 82 H' 0 (encP k) false = some (valT T k, H') := by
  obtain ⟨ks, hm⟩ := h.memo
  obtain ⟨r, h1, h2⟩ := findK_pairs k ks 0
  have hk := key77 k
  have h1l := lt_of_get hm
  have key : ∀ ks' : List (Int × Int), k ∈ ks' → updV Try.prog false 82 (.map 0) (encP k) (valT T k) H = some (H.set 0 (.map (ks'.map encP) (ks'.map (valT T)) 0)) → ∃ H', updV Try.prog false 82 (.map 0) (encP k) (valT T k) H = some H' ∧ Mem T H' ∧ Fr H H' ∧ lkG Try.prog 82 H' 0 (encP k) false = some (valT T k, H') := by
    intro ks' hin hu
    have hM : Mem T (H.set 0 (.map (ks'.map encP) (ks'.map (valT T)) 0)) := by
      refine ⟨⟨ks', List.getElem?_set_self h1l⟩, sameH_set h.rf (same_map T ks'), ?_⟩
      rw [mxs_le]
      intro C hC
      rcases List.mem_or_eq_of_mem_set hC with hC | rfl
      · exact mxs_le.1 h.mx C hC
      · exact Nat.zero_le _
    have hs : ∀ j, j ≠ 0 → (H.set 0 (.map (ks'.map encP) (ks'.map (valT T)) 0))[j]? = H[j]? := fun j hj => List.getElem?_set_ne (by omega)
    refine ⟨_, hu, hM, ⟨by simp, hs⟩, ?_⟩
    obtain ⟨r, h1, h2⟩ := findK_pairs k ks' 0
    rcases h2 with ⟨h3, j, rfl, h5⟩ | ⟨h3, rfl⟩
    · have hj : (ks'.map (valT T))[0 + j]? = some (valT T k) := by rw [Nat.zero_add, List.getElem?_map, h5]; rfl
      simp only [lkG, List.getElem?_set_self h1l, lookV, u82, hk, if_true, h1, hj, Option.map, Bool.false_eq_true, if_false]
    · exact absurd hin h3
  rcases h2 with ⟨h3, j, rfl, h5⟩ | ⟨h3, rfl⟩
  · refine key ks h3 ?_
    simp only [updV, u82, hk, if_true, hm, h1, Bool.false_eq_true, if_false]
    have hs : (ks.map (valT T)).set (0 + j) (valT T k) = ks.map (valT T) := by
      apply List.ext_getElem?
      intro i
      rw [List.getElem?_set, List.length_map]
      have hjl := lt_of_get h5
      by_cases e : 0 + j = i
      · subst e
        rw [if_pos rfl, if_pos (by omega), Nat.zero_add, List.getElem?_map, h5]; rfl
      · rw [if_neg e]
    simp only [hs, bnd, Nat.max_zero]
  · refine key (ks ++ [k]) (by simp) ?_
    have ha : (aggEq (cellsOf (encP k)) (cellsOf (encP k))).isSome = true := by simp [encP, cellsOf, aggEq, scEq]
    simp only [updV, u82, hk, if_true, hm, h1, ha, Bool.false_eq_true, if_false, bnd, Nat.max_zero, List.map_append, List.map_cons, List.map_nil]
end
section
variable {T : Nat → Nat → Int} {H : Heap}
theorem ld_k {v w : Int} {b : Nat} (h : H[b]? = some (boxK v w)) : loadV Try.prog H 77 (.ptr b 0 0 1) = some (encP (v, w)) := load_agg h rfl rfl a77 s77
end
section
variable {T : Nat → Nat → Int} {H : Heap}
theorem ld_k0 {v w : Int} {b : Nat} (h : H[b]? = some (boxK v w)) : loadV Try.prog H 3 (.ptr b 0 0 1) = some (.int .i64 v) := load_cell h rfl rfl a3 i3 rfl
end
section
variable {T : Nat → Nat → Int} {H : Heap}
theorem ld_k1 {v w : Int} {b : Nat} (h : H[b]? = some (boxK v w)) : loadV Try.prog H 3 (.ptr b 0 1 1) = some (.int .i64 w) := load_cell h rfl rfl a3 i3 rfl
end
section
variable {T : Nat → Nat → Int} {H : Heap}
theorem st_k {v w x y : Int} {b : Nat} (h : H[b]? = some (boxK v w)) : storeV Try.prog H 77 (.ptr b 0 0 1) (encP (x, y)) = some (H.set b (boxK x y)) := by
  have := store_agg (P := Try.prog) (t := 77) (b := b) (i := 0) (tot := 1) (new := [.int .i64 x, .int .i64 y]) h rfl rfl s77 rfl (by simp) rfl rfl
  exact this
end
section
variable {T : Nat → Nat → Int} {H : Heap}
theorem new_k (v w : Int) (H : Heap) : newV (encP (v, w)) H = (.ptr H.length 0 0 1, H ++ [boxK v w]) := by
  simp only [encP, newV, cellsOf, bnd, bndL, List.length_cons, List.length_nil]
  simp
  rfl
end
def bitsOk : Bool := (List.range 2048).all fun L => (List.range 11).all fun v => decide (IntKind.i64.wrap (BitVec.ofInt IntKind.i64.bits (L : Int) &&& ~~~(BitVec.ofInt IntKind.i64.bits ((2 ^ v : Nat) : Int))).toNat = ((wo L v : Nat) : Int)) && decide (IntKind.i64.wrap (BitVec.ofInt IntKind.i64.bits ((L / 2 ^ v : Nat) : Int) &&& (BitVec.ofInt IntKind.i64.bits 1)).toNat = if L.testBit v then 1 else 0)
theorem bitsOk_true : bitsOk = true := by kernel_rfl
theorem bo_andn {L v : Nat} (hL : L < 2048) (hv : v < 11) : binV Try.prog .andNot 3 (.int .i64 (L : Int)) (.int .i64 ((2 ^ v : Nat) : Int)) = some (.int .i64 ((wo L v : Nat) : Int)) := by
  have h1 := List.all_eq_true.1 (List.all_eq_true.1 bitsOk_true L (List.mem_range.2 hL)) v (List.mem_range.2 hv)
  simp only [Bool.and_eq_true, decide_eq_true_eq] at h1
  rw [← h1.1]; rfl
theorem bo_and {L v : Nat} (hL : L < 2048) (hv : v < 11) : binV Try.prog .and 3 (.int .i64 ((L / 2 ^ v : Nat) : Int)) (.int .i64 1) = some (.int .i64 (if L.testBit v then 1 else 0)) := by
  have h1 := List.all_eq_true.1 (List.all_eq_true.1 bitsOk_true L (List.mem_range.2 hL)) v (List.mem_range.2 hv)
  simp only [Bool.and_eq_true, decide_eq_true_eq] at h1
  rw [← h1.2]; rfl
theorem bo_shl {v : Nat} (hv : v < 60) : binV Try.prog .shl 3 (.int .i64 1) (.int .i64 (v : Int)) = some (.int .i64 ((2 ^ v : Nat) : Int)) := by
  have e : binV Try.prog .shl 3 (.int .i64 1) (.int .i64 (v : Int)) = if (v : Int) < 0 then none else some (.int .i64 (IntKind.i64.wrap (1 * 2 ^ min (v : Int).toNat 64))) := rfl
  rw [e, if_neg (by omega), Int.toNat_natCast, show min v 64 = v by omega, Int.one_mul]
  have : (2 : Nat) ^ v < 2 ^ 60 := Nat.pow_lt_pow_right (by omega) hv
  have h2 : 2 ^ v < 1152921504606846976 := this
  rw [show ((2 : Int) ^ v) = ((2 ^ v : Nat) : Int) by push_cast; rfl]
  generalize 2 ^ v = x at h2
  rw [wrap_id (by omega) (by omega)]
theorem bo_shr {L v : Nat} (hv : v < 60) : binV Try.prog .shr 3 (.int .i64 (L : Int)) (.int .i64 (v : Int)) = some (.int .i64 ((L / 2 ^ v : Nat) : Int)) := by
  have e : binV Try.prog .shr 3 (.int .i64 (L : Int)) (.int .i64 (v : Int)) = if (v : Int) < 0 then none else some (.int .i64 ((L : Int).fdiv (2 ^ min (v : Int).toNat 64))) := rfl
  rw [e, if_neg (by omega), Int.toNat_natCast, show min v 64 = v by omega]
  rw [show ((2 : Int) ^ v) = ((2 ^ v : Nat) : Int) by push_cast; rfl, Int.fdiv_eq_ediv_of_nonneg _ (Int.natCast_nonneg _)]
  rfl
end Go.Proofs.Ytlendaofkmhgmaa
end
section
open Go Go.HL
namespace Go.Proofs.Ytlendaofkmhgmaa
theorem info3m : (Try.prog.info? 3).map (fun i => (i.size, i.bytes, i.zero.map ofConst)) = some (1, 8, some (.int .i64 0)) := by kernel_rfl
abbrev slT (n a : Nat) : HV := .sl (a + 1) 0 n (some n) n 1
structure TS (n i : Nat) (H : Heap) : Prop where
  len : H.length = i + 1
  out : H[0]? = some (.arr 1 ((List.range i).map (slT n)) true (if i = 0 then 0 else i + 1))
  row : ∀ a, a < i → H[a + 1]? = some (bI (List.replicate n 0))
section
variable {R : List (List Int)} {n : Nat} {mo : Int}
structure TM (n : Nat) (f : Nat → Nat → Int) (H : Heap) : Prop where
  len : H.length = n + 1
  out : H[0]? = some (.arr 1 ((List.range n).map (slT n)) true (n + 1))
  row : ∀ a, a < n → H[a + 1]? = some (bI ((List.range n).map (f a)))
end
section
variable {R : List (List Int)} {n : Nat} {mo : Int}
theorem TS.mem {H : Heap} (h : TS n n H) (hn : 1 ≤ n) : TM n (fun _ _ => 0) H := by
  refine ⟨h.len, by rw [h.out, if_neg (by omega)], fun a ha => ?_⟩
  rw [h.row a ha]
  have e : List.replicate n (0 : Int) = (List.range n).map fun _ => (0 : Int) := by
    apply List.ext_getElem?
    intro i
    by_cases h : i < n
    · rw [List.getElem?_map, List.getElem?_range h, List.getElem?_replicate, if_pos h]; simp
    · rw [List.getElem?_eq_none (by simp; omega), List.getElem?_eq_none (by simp; omega)]
  rw [e]
end
section
variable {R : List (List Int)} {n : Nat} {mo : Int}
theorem TM.st {f : Nat → Nat → Int} {H : Heap} (h : TM n f H) {i k : Nat} (hi : i < n) (hk : k < n) (x : Int) : storeV Try.prog H 3 (.ptr (i + 1) k 0 n) (.int .i64 x) = some (H.set (i + 1) (bI (((List.range n).map (f i)).set k x))) := by
  have := store_out (h.row i hi) (y := k) (by simpa using hk) x
  rwa [show ((List.range n).map (f i)).length = n by simp] at this
end
section
variable {R : List (List Int)} {n : Nat} {mo : Int}
theorem TM.congr {f g : Nat → Nat → Int} {H : Heap} (h : TM n f H) (e : ∀ a b, a < n → b < n → f a b = g a b) : TM n g H := ⟨h.len, h.out, fun a ha => by rw [h.row a ha, row_congr fun b hb => e a b ha hb]⟩
end
end Go.Proofs.Ytlendaofkmhgmaa
end
section
open Go Go.HL
namespace Go.Proofs.Ytlendaofkmhgmaa
section
variable {d : List (List Int)}
theorem g22 {v : Nat} (hv : v < d.length) : idxV Try.prog 22 (.imm .arg 1 (d.map encR)) (.int .i64 (v : Int)) = some (.vptr (.imm .arg 1 ((d.getD v []).map encI))) := gr hv
end
section
variable {d : List (List Int)}
theorem g23 (h : okD d) {v u : Nat} (hv : v < d.length) (hu : u < d.length) : idxV Try.prog 23 (.imm .arg 1 ((d.getD v []).map encI)) (.int .i64 (u : Int)) = some (.vptr (.int .i64 (at2 d v u))) := gx (by rw [h.2.1 v hv]; exact hu)
end
end Go.Proofs.Ytlendaofkmhgmaa
end
section
open Go Go.HL
namespace Go.Proofs.Ytlendaofkmhgmaa
section
variable {d : List (List Int)}
abbrev imE (d : List (List Int)) (v4 v5 v6 v7 v8 v13 v14 v15 v29 v30 v31 v36 v37 v38 : HV) : Env := env46 (.imm .arg 1 (d.map encR)) (.bool false) v4 v5 v6 v7 v8 v13 v14 v15 v29 v30 v31 v36 v37 v38
end
section
variable {d : List (List Int)}
abbrev imA (d : List (List Int)) (i : Nat) : Env := imE d .undef .undef .undef .undef .undef (.imm .arg 1 (d.map encR)) (.int .i64 (d.length : Int)) (.int .i64 (i : Int)) .undef .undef .undef .undef .undef .undef
end
section
variable {d : List (List Int)}
abbrev imB (d : List (List Int)) (i : Nat) : Env := imE d .undef .undef .undef .undef .undef .undef .undef .undef (.imm .arg 1 (d.map encR)) (.int .i64 (d.length : Int)) (.int .i64 (i : Int)) .undef .undef .undef
end
section
variable {d : List (List Int)}
abbrev imC (d : List (List Int)) (i : Nat) (l : List Int) (j : Nat) : Env := imE d .undef (.int .i64 (i : Int)) .undef .undef .undef .undef .undef .undef (.imm .arg 1 (d.map encR)) (.int .i64 (d.length : Int)) (.int .i64 (i : Int)) (.imm .arg 1 (l.map encI)) (.int .i64 (l.length : Int)) (.int .i64 (j : Int))
end
section
variable {d : List (List Int)}
def rowOk (d : List (List Int)) (i : Nat) : Prop := rowLen d i ∧ ∀ v, v ∈ d.getD i [] → mi v
end
section
variable {d : List (List Int)}
open Classical in
theorem im_rows (hd : d.length ≤ 1000) (hw : ∀ r, r ∈ d → r.length ≤ 1000) : ∀ (k i : Nat), i + k = d.length →
    ∃ x E, RunsTo Try.prog polM 46 (sub [1, 1, 0, 1, 0] B46) (imA d i) [] x (polM.keys 46) E [] ∧
      ((x = .exit 0 ∧ E = imA d d.length ∧ ∀ a, i ≤ a → a < d.length → rowOk d a) ∨ (x = .ret ∧ E.get 2 = .bool false ∧ ¬ ∀ a, a < d.length → rowOk d a)) := by
  intro k
  induction k with
  | zero =>
    intro i hi
    have hi : i = d.length := by omega
    subst hi
    have s1 := im_l_3 0 (d.map encR) d.length [] [] (by rw [List.length_map]; omega)
    rw [List.length_map] at s1
    exact ⟨_, _, RunsTo.loop_out s1 (by simp) (by kernel_rfl) (by kernel_rfl), .inl ⟨rfl, rfl, fun a h1 h2 => by omega⟩⟩
  | succ k ih =>
    intro i hi
    have hil : i < d.length := by omega
    have hg := gri' hil
    by_cases c : (d.getD i []).length = d.length
    · have hr9 : (d.getD i []).length ≤ 1000 := by omega
      have hcf := cf_call (d.getD i []) [] hr9
      obtain ⟨N, hN⟩ := CallsTo.from hcf
      by_cases c2 : ∀ v, v ∈ d.getD i [] → mi v
      · rw [decide_eq_false (fun h => h c2)] at hN
        have s1 := im_l_1 N (d.map encR) i [] [] _ [] (by rw [List.length_map]; omega) hg (by rw [List.length_map, List.length_map]; omega) hN
        rw [wrap_succ (by omega), List.length_map] at s1
        obtain ⟨x, E, h1, h2⟩ := ih (i + 1) (by omega)
        refine ⟨x, E, RunsTo.loop s1 (by kernel_rfl) rfl h1 rfl (by kernel_rfl) (by kernel_rfl), ?_⟩
        rcases h2 with ⟨k1, k2, k3⟩ | h2
        · exact .inl ⟨k1, k2, fun a h1 h2 => by
            by_cases e : a = i
            · rw [e]; exact ⟨c, c2⟩
            · exact k3 a (by omega) h2⟩
        · exact .inr h2
      · rw [decide_eq_true c2] at hN
        have s1 := im_l_0 N (d.map encR) i [] [] _ [] (by rw [List.length_map]; omega) hg (by rw [List.length_map, List.length_map]; omega) hN
        rw [List.length_map] at s1
        exact ⟨_, _, RunsTo.loop_out s1 (by simp) (by kernel_rfl) (by kernel_rfl), .inr ⟨rfl, rfl, fun h => c2 (h i hil).2⟩⟩
    · have s1 := im_l_2 0 (d.map encR) i [] [] _ (by rw [List.length_map]; omega) hg (by rw [List.length_map, List.length_map]; omega)
      rw [List.length_map] at s1
      exact ⟨_, _, RunsTo.loop_out s1 (by simp) (by kernel_rfl) (by kernel_rfl), .inr ⟨rfl, rfl, fun h => c (h i hil).1⟩⟩
end
section
variable {d : List (List Int)}
theorem im_cells (hd : d.length ≤ 1000) (hr : ∀ a, a < d.length → rowLen d a) {i : Nat} (hi : i < d.length) : ∀ (k j : Nat), j + k = d.length →
    ∃ x E, RunsTo Try.prog polM 46 (sub [1, 1, 1, 0, 1, 0, 0, 1, 1, 0, 0, 1, 1, 0] B46) (imC d i (d.getD i []) j) [] x (polM.keys 46) E [] ∧
      ((x = .exit 4 ∧ E = imC d i (d.getD i []) d.length ∧ ∀ a, j ≤ a → a < d.length → symAt d i a) ∨ (x = .ret ∧ E.get 2 = .bool false ∧ ¬ ∀ a, a < d.length → symAt d i a)) := by
  intro k
  have hl : ((d.getD i []).map encI).length = d.length := by rw [List.length_map]; exact hr i hi
  induction k with
  | zero =>
    intro j hj
    have hj : j = d.length := by omega
    subst hj
    have s1 := im_k_4 0 (d.map encR) i [] ((d.getD i []).map encI) d.length (by rw [hl]; omega)
    rw [List.length_map, List.length_map] at s1
    exact ⟨_, _, RunsTo.loop_out s1 (by simp) (by kernel_rfl) (by kernel_rfl), .inl ⟨rfl, rfl, fun a h1 h2 => by omega⟩⟩
  | succ k ih =>
    intro j hj
    have hjl : j < d.length := by omega
    have bad : ∀ E, RunsTo Try.prog polM 46 (sub [1, 1, 1, 0, 1, 0, 0, 1, 1, 0, 0, 1, 1, 0, 0] B46) (imC d i (d.getD i []) j) [] .ret (polM.keys 46) E [] → E.get 2 = .bool false → ¬ symAt d i j → _ := fun E t hE hc =>
      (⟨_, E, RunsTo.loop_out t (by simp) (by kernel_rfl) (by kernel_rfl), .inr ⟨rfl, hE, fun h => hc (h j hjl)⟩⟩ : ∃ x E, RunsTo Try.prog polM 46 (sub [1, 1, 1, 0, 1, 0, 0, 1, 1, 0, 0, 1, 1, 0] B46) (imC d i (d.getD i []) j) [] x (polM.keys 46) E [] ∧
      ((x = .exit 4 ∧ E = imC d i (d.getD i []) d.length ∧ ∀ a, j ≤ a → a < d.length → symAt d i a) ∨ (x = .ret ∧ E.get 2 = .bool false ∧ ¬ ∀ a, a < d.length → symAt d i a)))
    have good : ∀ v7 v8, symAt d i j → RunsTo Try.prog polM 46 (sub [1, 1, 1, 0, 1, 0, 0, 1, 1, 0, 0, 1, 1, 0, 0] B46) (imC d i (d.getD i []) j) [] .normal (polM.keys 46) (imE d .undef (.int .i64 (i : Int)) .undef v7 v8 .undef .undef .undef (.imm .arg 1 (d.map encR)) (.int .i64 (d.length : Int)) (.int .i64 (i : Int)) (.imm .arg 1 ((d.getD i []).map encI)) (.int .i64 ((d.getD i []).length : Int)) (.int .i64 (IntKind.i64.wrap ((j : Int) + 1)))) [] → _ := fun v7 v8 hc t => (by
      rw [wrap_succ (by omega)] at t
      obtain ⟨x, E, h1, h2⟩ := ih (j + 1) (by omega)
      refine ⟨x, E, RunsTo.loop t (by kernel_rfl) rfl h1 rfl (by kernel_rfl) (by kernel_rfl), ?_⟩
      rcases h2 with ⟨k1, k2, k3⟩ | h2
      · exact .inl ⟨k1, k2, fun a h1 h2 => by
          by_cases e : a = j
          · rw [e]; exact hc
          · exact k3 a (by omega) h2⟩
      · exact .inr h2 : ∃ x E, RunsTo Try.prog polM 46 (sub [1, 1, 1, 0, 1, 0, 0, 1, 1, 0, 0, 1, 1, 0] B46) (imC d i (d.getD i []) j) [] x (polM.keys 46) E [] ∧
      ((x = .exit 4 ∧ E = imC d i (d.getD i []) d.length ∧ ∀ a, j ≤ a → a < d.length → symAt d i a) ∨ (x = .ret ∧ E.get 2 = .bool false ∧ ¬ ∀ a, a < d.length → symAt d i a)))
    have gj := gri' hjl
    have g1 := gat (hr i hi) hjl
    have g2 := gat (hr j hjl) hi
    have hjm : (j : Int) < ((((d.getD i []).map encI).length : Nat) : Int) := by rw [hl]; omega
    by_cases c3 : at2 d i j = at2 d j i
    · by_cases c4 : i = j
      · by_cases c5 : at2 d i j = 0
        · have s := im_k_0 0 (d.map encR) i [] ((d.getD i []).map encI) j _ _ _ hjm g1 gj g2 c3 (by omega) c5
          rw [List.length_map, List.length_map] at s
          exact good _ _ ⟨c3, fun _ => c5⟩ s
        · have s := im_k_1 0 (d.map encR) i [] ((d.getD i []).map encI) j _ _ _ hjm g1 gj g2 c3 (by omega) c5
          rw [List.length_map, List.length_map] at s
          exact bad _ s rfl fun h => c5 (h.2 c4)
      · have s := im_k_2 0 (d.map encR) i [] ((d.getD i []).map encI) j _ _ _ hjm g1 gj g2 c3 (by omega)
        rw [List.length_map, List.length_map] at s
        exact good _ _ ⟨c3, fun h => absurd h c4⟩ s
    · have s := im_k_3 0 (d.map encR) i [] ((d.getD i []).map encI) j _ _ _ hjm g1 gj g2 c3
      rw [List.length_map, List.length_map] at s
      exact bad _ s rfl fun h => c3 h.1
end
section
variable {d : List (List Int)}
theorem im_outer (hd : d.length ≤ 1000) (hr : ∀ a, a < d.length → rowLen d a) : ∀ (k i : Nat), i + k = d.length →
    ∃ x E, RunsTo Try.prog polM 46 (sub [1, 1, 1, 0, 1, 0] B46) (imB d i) [] x (polM.keys 46) E [] ∧
      ((x = .exit 2 ∧ E = imB d d.length ∧ ∀ b, i ≤ b → b < d.length → ∀ a, a < d.length → symAt d b a) ∨ (x = .ret ∧ E.get 2 = .bool false ∧ ¬ ∀ b, b < d.length → ∀ a, a < d.length → symAt d b a)) := by
  intro k
  induction k with
  | zero =>
    intro i hi
    have hi : i = d.length := by omega
    subst hi
    have s1 := im_e_1 0 (d.map encR) d.length [] (by rw [List.length_map]; omega)
    have s2 := im_ff_0 0 (d.map encR) d.length []
    rw [List.length_map] at s1 s2
    have t1 := RunsTo.seq_out s2 (by simp) (c := sub [1, 1, 1, 0, 1, 0, 0, 1] B46) (b := sub [1, 1, 1, 0, 1, 0, 0, 1, 1] B46) (by kernel_rfl)
    have t2 := RunsTo.seq s1 t1 (c := sub [1, 1, 1, 0, 1, 0, 0] B46) (by kernel_rfl) (by kernel_rfl)
    exact ⟨_, _, RunsTo.loop_out t2 (by simp) (by kernel_rfl) (by kernel_rfl), .inl ⟨rfl, rfl, fun a h1 h2 => by omega⟩⟩
  | succ k ih =>
    intro i hi
    have hil : i < d.length := by omega
    have s1 := im_e_0 0 (d.map encR) i [] (by rw [List.length_map]; omega)
    have s2 := im_ft_0 0 (d.map encR) i []
    have g1 := im_g_0 0 (d.map encR) i [] [] _ (gri' hil)
    have g2 := im_h_0 0 (d.map encR) i [] ((d.getD i []).map encI)
    rw [List.length_map] at s1 s2 g1
    rw [List.length_map, List.length_map] at g2
    obtain ⟨x, E, h1, h2⟩ := im_cells hd hr hil d.length 0 (by omega)
    have h1' := RunsTo.loop_in (e0 := imE d .undef (.int .i64 (i : Int)) (.imm .arg 1 ((d.getD i []).map encI)) .undef .undef .undef .undef .undef (.imm .arg 1 (d.map encR)) (.int .i64 (d.length : Int)) (.int .i64 (i : Int)) (.imm .arg 1 ((d.getD i []).map encI)) (.int .i64 ((d.getD i []).length : Int)) (.int .i64 0)) h1 (b := sub [1, 1, 1, 0, 1, 0, 0, 1, 1, 0, 0, 1, 1, 0, 0] B46) (by kernel_rfl) (by kernel_rfl) (by kernel_rfl)
    rcases h2 with ⟨rfl, rfl, k3⟩ | ⟨rfl, k2, k3⟩
    · have n1 := im_n_0 0 (d.map encR) i [] ((d.getD i []).map encI) d.length
      rw [wrap_succ (by omega), List.length_map, List.length_map] at n1
      have t1 := RunsTo.seq g2 (RunsTo.block_exit (c := sub [1, 1, 1, 0, 1, 0, 0, 1, 1, 0, 0, 1, 1] B46) h1' (by kernel_rfl)) (c := sub [1, 1, 1, 0, 1, 0, 0, 1, 1, 0, 0, 1] B46) (by kernel_rfl) (by kernel_rfl)
      have t2 := RunsTo.block_normal (i := 3) (c := sub [1, 1, 1, 0, 1, 0, 0, 1, 1, 0] B46) (RunsTo.seq g1 t1 (c := sub [1, 1, 1, 0, 1, 0, 0, 1, 1, 0, 0] B46) (by kernel_rfl) (by kernel_rfl)) (by kernel_rfl)
      have t3 := RunsTo.seq s2 (RunsTo.seq t2 n1 (c := sub [1, 1, 1, 0, 1, 0, 0, 1, 1] B46) (by kernel_rfl) (by kernel_rfl)) (c := sub [1, 1, 1, 0, 1, 0, 0, 1] B46) (by kernel_rfl) (by kernel_rfl)
      have t4 := RunsTo.seq s1 t3 (c := sub [1, 1, 1, 0, 1, 0, 0] B46) (by kernel_rfl) (by kernel_rfl)
      obtain ⟨x, E, r1, r2⟩ := ih (i + 1) (by omega)
      refine ⟨x, E, RunsTo.loop t4 (by kernel_rfl) rfl r1 rfl (by kernel_rfl) (by kernel_rfl), ?_⟩
      rcases r2 with ⟨q1, q2, q3⟩ | r2
      · exact .inl ⟨q1, q2, fun b h1 h2 => by
          by_cases e : b = i
          · rw [e]; exact fun a ha => k3 a (by omega) ha
          · exact q3 b (by omega) h2⟩
      · exact .inr r2
    · have t1 := RunsTo.seq g2 (RunsTo.block_ret (c := sub [1, 1, 1, 0, 1, 0, 0, 1, 1, 0, 0, 1, 1] B46) (i := 4) h1' (by kernel_rfl)) (c := sub [1, 1, 1, 0, 1, 0, 0, 1, 1, 0, 0, 1] B46) (by kernel_rfl) (by kernel_rfl)
      have t2 := RunsTo.block_ret (i := 3) (c := sub [1, 1, 1, 0, 1, 0, 0, 1, 1, 0] B46) (RunsTo.seq g1 t1 (c := sub [1, 1, 1, 0, 1, 0, 0, 1, 1, 0, 0] B46) (by kernel_rfl) (by kernel_rfl)) (by kernel_rfl)
      have t3 := RunsTo.seq s2 (RunsTo.seq_out t2 (by simp) (c := sub [1, 1, 1, 0, 1, 0, 0, 1, 1] B46) (b := sub [1, 1, 1, 0, 1, 0, 0, 1, 1, 1] B46) (by kernel_rfl)) (c := sub [1, 1, 1, 0, 1, 0, 0, 1] B46) (by kernel_rfl) (by kernel_rfl)
      have t4 := RunsTo.seq s1 t3 (c := sub [1, 1, 1, 0, 1, 0, 0] B46) (by kernel_rfl) (by kernel_rfl)
      exact ⟨_, E, RunsTo.loop_out t4 (by simp) (by kernel_rfl) (by kernel_rfl), .inr ⟨rfl, k2, fun h => k3 (h i hil)⟩⟩
end
section
variable {d : List (List Int)}
theorem okD_iff2 : okD d ↔ (1 ≤ d.length ∧ d.length ≤ 11) ∧ (∀ a, a < d.length → rowOk d a) ∧ ∀ b, b < d.length → ∀ a, a < d.length → symAt d b a := by
  rw [okD_iff]
  constructor
  · rintro ⟨h1, h2, h3⟩
    refine ⟨h1, fun a ha => ⟨h2 a ha, fun v hv => ?_⟩, fun b hb a ha => (h3 b hb a ha).2⟩
    obtain ⟨j, hj, rfl⟩ := List.getElem_of_mem hv
    have hjd : j < d.length := by have := h2 a ha; unfold rowLen at this; omega
    have := (h3 a ha j hjd).1
    unfold at2 at this
    rw [getD_at hj] at this
    exact this
  · rintro ⟨h1, h2, h3⟩
    refine ⟨h1, fun a ha => (h2 a ha).1, fun b hb a ha => ⟨?_, h3 b hb a ha⟩⟩
    have hl : a < (d.getD b []).length := by have := (h2 b hb).1; unfold rowLen at this; omega
    have := (h2 b hb).2 _ (List.getElem_mem hl)
    unfold at2
    rw [getD_at hl]
    exact this
end
theorem res46 : Try.f46.results.toList = [.tmp 2] := by kernel_rfl
theorem miles_ok : PrimOk Try.prog 46 miles46 := by
  refine primOk_pure (pol := polM) (fn := Try.f46) (cd := B46) follows_mixed soundM (by kernel_rfl) (by kernel_rfl) (fnok polM.prim _ _ (by kernel_rfl)) (by kernel_rfl) ?_
  intro args res h
  obtain ⟨d, rfl, hq⟩ := rwF_inv h
  clear h
  split at hq
  · rename_i hc
    cases hq
    have hw : ∀ r, r ∈ d → r.length ≤ 1000 := fun r hr => by simpa using List.all_eq_true.1 hc.2 r hr
    have a1 := im_a_0 0 (d.map encR)
    have fin : ∀ b E, RunsTo Try.prog polM 46 (sub [1] B46) (imE d .undef .undef .undef .undef .undef .undef .undef .undef .undef .undef .undef .undef .undef .undef) [] .ret (polM.keys 46) E [] → E.get 2 = .bool b → okB d = b →
        ∃ x E H' v, RunsTo Try.prog polM 46 B46 (args0 [.imm .arg 1 (d.map encR)]) [] x (polM.keys 46) E H' ∧ (∀ i, x ≠ .exit i) ∧ resultsV Try.prog Try.f46 E H' = some v ∧ toRes H' (polM.deep 46) v = some (.bool (okB d)) := by
      intro b E t hE hb
      exact ⟨_, E, [], .bool b, RunsTo.seq a1 t (c := B46) (by kernel_rfl) (by kernel_rfl), by simp, by simp only [resultsV, res46, mapO, resultV, hE], by rw [hb]; rfl⟩
    by_cases c1 : (1 : Int) ≤ (((d.map encR).length : Nat) : Int) ∧ (((d.map encR).length : Nat) : Int) ≤ 11
    · have b1 := im_b_0 0 (d.map encR) c1
      have cc := im_c_0 0 (d.map encR)
      rw [List.length_map] at c1 cc
      obtain ⟨x, E, h1, h2⟩ := im_rows hc.1 hw d.length 0 (by omega)
      rcases h2 with ⟨rfl, rfl, k3⟩ | ⟨rfl, k2, k3⟩
      · have hr : ∀ a, a < d.length → rowLen d a := fun a ha => (k3 a (Nat.zero_le _) ha).1
        have d1 := im_d_0 0 (d.map encR) d.length [] .undef
        rw [List.length_map] at d1
        obtain ⟨x, E, r1, r2⟩ := im_outer hc.1 hr d.length 0 (by omega)
        have r1' := RunsTo.loop_in (e0 := imE d .undef .undef .undef .undef .undef (.imm .arg 1 (d.map encR)) (.int .i64 (d.length : Int)) (.int .i64 (d.length : Int)) (.imm .arg 1 (d.map encR)) (.int .i64 (d.length : Int)) (.int .i64 0) .undef .undef .undef) r1 (b := sub [1, 1, 1, 0, 1, 0, 0] B46) (by kernel_rfl) (by kernel_rfl) (by kernel_rfl)
        have t1 := RunsTo.seq cc (RunsTo.block_exit (c := sub [1, 1, 0, 1] B46) h1 (by kernel_rfl)) (c := sub [1, 1, 0] B46) (by kernel_rfl) (by kernel_rfl)
        rcases r2 with ⟨rfl, rfl, q3⟩ | ⟨rfl, q2, q3⟩
        · have z1 := im_z_0 0 (d.map encR) d.length []
          rw [List.length_map] at z1
          have t2 := RunsTo.seq d1 (RunsTo.block_exit (c := sub [1, 1, 1, 0, 1] B46) r1' (by kernel_rfl)) (c := sub [1, 1, 1, 0] B46) (by kernel_rfl) (by kernel_rfl)
          have t3 := RunsTo.seq t1 (RunsTo.seq t2 z1 (c := sub [1, 1, 1] B46) (by kernel_rfl) (by kernel_rfl)) (c := sub [1, 1] B46) (by kernel_rfl) (by kernel_rfl)
          exact fin true _ (RunsTo.seq b1 t3 (c := sub [1] B46) (by kernel_rfl) (by kernel_rfl)) rfl (okB_true (okD_iff2.2 ⟨⟨by omega, by omega⟩, fun a ha => k3 a (Nat.zero_le _) ha, fun b hb => q3 b (Nat.zero_le _) hb⟩))
        · have t2 := RunsTo.seq d1 (RunsTo.block_ret (c := sub [1, 1, 1, 0, 1] B46) (i := 2) r1' (by kernel_rfl)) (c := sub [1, 1, 1, 0] B46) (by kernel_rfl) (by kernel_rfl)
          have t3 := RunsTo.seq t1 (RunsTo.seq_out t2 (by simp) (c := sub [1, 1, 1] B46) (b := sub [1, 1, 1, 1] B46) (by kernel_rfl)) (c := sub [1, 1] B46) (by kernel_rfl) (by kernel_rfl)
          exact fin false _ (RunsTo.seq b1 t3 (c := sub [1] B46) (by kernel_rfl) (by kernel_rfl)) q2 (okB_false fun h => q3 (okD_iff2.1 h).2.2)
      · have t1 := RunsTo.seq cc (RunsTo.block_ret (c := sub [1, 1, 0, 1] B46) (i := 0) h1 (by kernel_rfl)) (c := sub [1, 1, 0] B46) (by kernel_rfl) (by kernel_rfl)
        have t3 := RunsTo.seq b1 (RunsTo.seq_out t1 (by simp) (c := sub [1, 1] B46) (b := sub [1, 1, 1] B46) (by kernel_rfl)) (c := sub [1] B46) (by kernel_rfl) (by kernel_rfl)
        exact fin false _ t3 k2 (okB_false fun h => k3 (okD_iff2.1 h).2.1)
    · have b1 := im_b_1 0 (d.map encR) c1
      rw [List.length_map] at c1
      exact fin false _ (RunsTo.seq_out b1 (by simp) (c := sub [1] B46) (b := sub [1, 1] B46) (by kernel_rfl)) rfl (okB_false fun h => c1 ⟨by have := h.1.1; omega, by have := h.1.2; omega⟩)
  · cases hq
end Go.Proofs.Ytlendaofkmhgmaa
end
section
open Go Go.HL
namespace Go.Proofs.Ytlendaofkmhgmaa
set_option maxRecDepth 100000
noncomputable def B57 : Code := Try.f57.body.getD .skip
abbrev env57 (v0 v1 v4 v5 v6 v18 v19 v20 : HV) : Env := [(0, v0), (1, v1), (4, v4), (5, v5), (6, v6), (18, v18), (19, v19), (20, v20)]
theorem it_a_0 (rw la : List HV) : RunsTo Try.prog polT 57 (sub [0] B57) [(0, .imm .arg 1 rw), (1, .imm .arg 1 la)] [] .normal (polT.keys 57) (env57 (.imm .arg 1 rw) (.imm .arg 1 la) (.bool false) .undef .undef .undef .undef .undef) [] :=
  RunsTo.hin 0 60 [] fun kf hk => ⟨_, by kernel_rfl, .nil⟩
theorem it_b_0 (rw la : List HV) (x0 : Int) (g0 : (la.length : Int) = (rw.length : Int)) (g1 : idxV Try.prog 23 (.imm .arg 1 la) (.i 0) = some (.vptr (.i x0))) (g2 : x0 = 0) : RunsTo Try.prog polT 57 (sub [1, 0] B57) (env57 (.imm .arg 1 rw) (.imm .arg 1 la) (.bool false) .undef .undef .undef .undef .undef) [] .normal (polT.keys 57) (env57 (.imm .arg 1 rw) (.imm .arg 1 la) (.bool false) .undef .undef .undef .undef .undef) [] :=
  RunsTo.hin 0 60 [⟨1, 4, .bool false, []⟩, ⟨1, 7, .vptr (.i x0), []⟩, ⟨1, 9, .bool false, []⟩] fun kf hk => ⟨_, by kernel_rfl, (oB [] (congrArg not (decide_eq_true g0)) (oP [] g1 (oB [] (congrArg not (decide_eq_true g2)) .nil)))⟩
theorem it_b_1 (rw la : List HV) (x0 : Int) (g0 : (la.length : Int) = (rw.length : Int)) (g1 : idxV Try.prog 23 (.imm .arg 1 la) (.i 0) = some (.vptr (.i x0))) (g2 : ¬ (x0 = 0)) : RunsTo Try.prog polT 57 (sub [1, 0] B57) (env57 (.imm .arg 1 rw) (.imm .arg 1 la) (.bool false) .undef .undef .undef .undef .undef) [] .ret (polT.keys 57) (env57 (.imm .arg 1 rw) (.imm .arg 1 la) (.bool false) .undef .undef .undef .undef .undef) [] :=
  RunsTo.hin 0 60 [⟨1, 4, .bool false, []⟩, ⟨1, 7, .vptr (.i x0), []⟩, ⟨1, 9, .bool true, []⟩] fun kf hk => ⟨_, by kernel_rfl, (oB [] (congrArg not (decide_eq_true g0)) (oP [] g1 (oB [] (congrArg not (decide_eq_false g2)) .nil)))⟩
theorem it_b_2 (rw la : List HV)(g0 : ¬ ((la.length : Int) = (rw.length : Int))) : RunsTo Try.prog polT 57 (sub [1, 0] B57) (env57 (.imm .arg 1 rw) (.imm .arg 1 la) (.bool false) .undef .undef .undef .undef .undef) [] .ret (polT.keys 57) (env57 (.imm .arg 1 rw) (.imm .arg 1 la) (.bool false) .undef .undef .undef .undef .undef) [] :=
  RunsTo.hin 0 60 [⟨1, 4, .bool true, []⟩] fun kf hk => ⟨_, by kernel_rfl, (oB [] (congrArg not (decide_eq_false g0)) .nil)⟩
theorem it_c_0 (rw la : List HV) : RunsTo Try.prog polT 57 (sub [1, 1, 0, 0] B57) (env57 (.imm .arg 1 rw) (.imm .arg 1 la) (.bool false) .undef .undef .undef .undef .undef) [] .normal (polT.keys 57) (env57 (.imm .arg 1 rw) (.imm .arg 1 la) (.bool false) .undef .undef (.imm .arg 1 la) (.i (la.length : Int)) (.i 0)) [] :=
  RunsTo.hin 0 60 [] fun kf hk => ⟨_, by kernel_rfl, .nil⟩
theorem it_l_0 (rw la : List HV) (j : Nat) (x0 : Int) (g0 : (j : Int) < (la.length : Int)) (g1 : idxV Try.prog 23 (.imm .arg 1 la) (.i (j : Int)) = some (.vptr (.i x0))) (g2 : (0 : Int) ≤ x0 ∧ x0 ≤ IntKind.i64.wrap ((rw.length : Int) - 1)) (g3 : sliceV Try.prog 23 (.imm .arg 1 la) none (some (.i (j : Int))) none = some (.imm .arg 1 (la.take j))) (g4 : ∀ kf, callN Try.prog polT (kf + 1) 60 [.imm .arg 1 (la.take j), .i x0] [] = some (.bool true, [])) : RunsTo Try.prog polT 57 (sub [1, 1, 0, 1, 0, 0] B57) (env57 (.imm .arg 1 rw) (.imm .arg 1 la) (.bool false) .undef .undef (.imm .arg 1 la) (.i (la.length : Int)) (.i (j : Int))) [] .ret (polT.keys 57) (env57 (.imm .arg 1 rw) (.imm .arg 1 la) (.bool false) (.i (j : Int)) (.i x0) (.imm .arg 1 la) (.i (la.length : Int)) (.i (j : Int))) [] :=
  RunsTo.hin 0 60 [⟨4, 0, .bool true, []⟩, ⟨5, 1, .vptr (.i x0), []⟩, ⟨6, 4, .bool true, []⟩, ⟨6, 9, .imm .arg 1 (la.take j), []⟩, ⟨6, 11, .bool true, []⟩] fun kf hk => ⟨_, by kernel_rfl, (oB [] (decide_eq_true g0) (oP [] g1 (oB [] (decide_eq_true g2) (oP [] g3 (oC (g4 kf) .nil)))))⟩
theorem it_l_1 (rw la : List HV) (j : Nat) (x0 : Int) (g0 : (j : Int) < (la.length : Int)) (g1 : idxV Try.prog 23 (.imm .arg 1 la) (.i (j : Int)) = some (.vptr (.i x0))) (g2 : (0 : Int) ≤ x0 ∧ x0 ≤ IntKind.i64.wrap ((rw.length : Int) - 1)) (g3 : sliceV Try.prog 23 (.imm .arg 1 la) none (some (.i (j : Int))) none = some (.imm .arg 1 (la.take j))) (g4 : ∀ kf, callN Try.prog polT (kf + 1) 60 [.imm .arg 1 (la.take j), .i x0] [] = some (.bool false, [])) : RunsTo Try.prog polT 57 (sub [1, 1, 0, 1, 0, 0] B57) (env57 (.imm .arg 1 rw) (.imm .arg 1 la) (.bool false) .undef .undef (.imm .arg 1 la) (.i (la.length : Int)) (.i (j : Int))) [] .normal (polT.keys 57) (env57 (.imm .arg 1 rw) (.imm .arg 1 la) (.bool false) (.i (j : Int)) (.i x0) (.imm .arg 1 la) (.i (la.length : Int)) (.i (IntKind.i64.wrap ((j : Int) + 1)))) [] :=
  RunsTo.hin 0 60 [⟨4, 0, .bool true, []⟩, ⟨5, 1, .vptr (.i x0), []⟩, ⟨6, 4, .bool true, []⟩, ⟨6, 9, .imm .arg 1 (la.take j), []⟩, ⟨6, 11, .bool false, []⟩] fun kf hk => ⟨_, by kernel_rfl, (oB [] (decide_eq_true g0) (oP [] g1 (oB [] (decide_eq_true g2) (oP [] g3 (oC (g4 kf) .nil)))))⟩
theorem it_l_2 (rw la : List HV) (j : Nat) (x0 : Int) (g0 : (j : Int) < (la.length : Int)) (g1 : idxV Try.prog 23 (.imm .arg 1 la) (.i (j : Int)) = some (.vptr (.i x0))) (g2 : ¬ ((0 : Int) ≤ x0 ∧ x0 ≤ IntKind.i64.wrap ((rw.length : Int) - 1))) : RunsTo Try.prog polT 57 (sub [1, 1, 0, 1, 0, 0] B57) (env57 (.imm .arg 1 rw) (.imm .arg 1 la) (.bool false) .undef .undef (.imm .arg 1 la) (.i (la.length : Int)) (.i (j : Int))) [] .ret (polT.keys 57) (env57 (.imm .arg 1 rw) (.imm .arg 1 la) (.bool false) (.i (j : Int)) (.i x0) (.imm .arg 1 la) (.i (la.length : Int)) (.i (j : Int))) [] :=
  RunsTo.hin 0 60 [⟨4, 0, .bool true, []⟩, ⟨5, 1, .vptr (.i x0), []⟩, ⟨6, 4, .bool false, []⟩] fun kf hk => ⟨_, by kernel_rfl, (oB [] (decide_eq_true g0) (oP [] g1 (oB [] (decide_eq_false g2) .nil)))⟩
theorem it_l_3 (rw la : List HV) (j : Nat)(g0 : ¬ ((j : Int) < (la.length : Int))) : RunsTo Try.prog polT 57 (sub [1, 1, 0, 1, 0, 0] B57) (env57 (.imm .arg 1 rw) (.imm .arg 1 la) (.bool false) .undef .undef (.imm .arg 1 la) (.i (la.length : Int)) (.i (j : Int))) [] (.exit 0) (polT.keys 57) (env57 (.imm .arg 1 rw) (.imm .arg 1 la) (.bool false) .undef .undef (.imm .arg 1 la) (.i (la.length : Int)) (.i (j : Int))) [] :=
  RunsTo.hin 0 60 [⟨4, 0, .bool false, []⟩] fun kf hk => ⟨_, by kernel_rfl, (oB [] (decide_eq_false g0) .nil)⟩
theorem it_z_0 (rw la : List HV) (j : Nat) : RunsTo Try.prog polT 57 (sub [1, 1, 1] B57) (env57 (.imm .arg 1 rw) (.imm .arg 1 la) (.bool false) .undef .undef (.imm .arg 1 la) (.i (la.length : Int)) (.i (j : Int))) [] .ret (polT.keys 57) (env57 (.imm .arg 1 rw) (.imm .arg 1 la) (.bool true) .undef .undef (.imm .arg 1 la) (.i (la.length : Int)) (.i (j : Int))) [] :=
  RunsTo.hin 0 60 [] fun kf hk => ⟨_, by kernel_rfl, .nil⟩
noncomputable def B52 : Code := Try.f52.body.getD .skip
abbrev env52 (v0 v2 : HV) : Env := [(0, v0), (2, v2)]
theorem cl_1 (l : List HV)(g0 : nilTest Try.prog .eql 23 (.imm .arg 1 l) = some (.bool false)) (g1 : appV [] 1 8 (.imm .lit 1 []) l = some (.sl 0 0 l.length none l.length 1, [.arr 1 l true 0])) : RunsTo Try.prog pol 52 (sub [] B52) [(0, .imm .arg 1 l)] [] .ret (pol.keys 52) (env52 (.imm .arg 1 l) (.sl 0 0 l.length none l.length 1)) [.arr 1 l true 0] :=
  RunsTo.hin 0 60 [⟨1, 1, .bool false, []⟩, ⟨3, 2, .sl 0 0 l.length none l.length 1, [.arr 1 l true 0]⟩] fun kf hk => ⟨_, by kernel_rfl, (oP [] g0 (oC (g1) .nil))⟩
end Go.Proofs.Ytlendaofkmhgmaa
end
section
open Go Go.HL
namespace Go.Proofs.Ytlendaofkmhgmaa
theorem soundT (n : Nat) : CallSound Try.prog (callN Try.prog polT n) := sound_prim _ (fun g f h => by
  split at h
  · rename_i hg; cases h; rw [eq_of_beq hg]; exact within_ok
  split at h
  · rename_i hg; cases h; rw [eq_of_beq hg]; exact contains_ok
  · cases h) n
theorem prim_contains {pol' : Pol} (hp : pol'.prim 60 = some contains60) {l : List Int} (hl : l.length ≤ 1000) (v : Int) (H : Heap) (b : Bool) (hb : decide (v ∈ l) = b) : ∀ k, callN Try.prog pol' (k + 1) 60 [.imm .arg 1 (l.map encI), .int .i64 v] H = some (.bool b, H) := fun k => by
  rw [prim_call (pol := pol') (g := 60) (F := contains60) hp (rs := [.imm .arg 1 (l.map encI), .int .i64 v]) (by simp only [mapO, arg_li]; rfl) (res := .bool b) (by simp only [contains60, lnF, mapO_map decI_enc]; rw [if_pos hl, hb])]; rfl
abbrev itE (d : List (List Int)) (l : List Int) (j : Nat) : Env := env57 (.imm .arg 1 (d.map encR)) (.imm .arg 1 (l.map encI)) (.bool false) .undef .undef (.imm .arg 1 (l.map encI)) (.int .i64 (l.length : Int)) (.int .i64 (j : Int))
theorem it_loop {d : List (List Int)} {l : List Int} (hd : d.length ≤ 1000) (hl : l.length ≤ 1000) : ∀ (k j : Nat), j + k = l.length → Gd d.length l j →
    ∃ x E, RunsTo Try.prog polT 57 (sub [1, 1, 0, 1, 0] B57) (itE d l j) [] x (polT.keys 57) E [] ∧
      ((x = .exit 0 ∧ E = itE d l l.length ∧ (inT d.length l ∧ l.Nodup)) ∨ (x = .ret ∧ E.get 4 = .bool false ∧ ¬ (inT d.length l ∧ l.Nodup))) := by
  intro k
  induction k with
  | zero =>
    intro j hj hG
    have hj : j = l.length := by omega
    subst hj
    have s1 := it_l_3 (d.map encR) (l.map encI) l.length (by simp)
    rw [List.length_map] at s1
    exact ⟨_, _, RunsTo.loop_out s1 (by simp) (by kernel_rfl) (by kernel_rfl), .inl ⟨rfl, rfl, hG.all⟩⟩
  | succ k ih =>
    intro j hj hG
    have hjl : j < l.length := by omega
    have g := gx hjl
    rw [getD_at hjl] at g
    have hmem : l[j] ∈ l := List.getElem_mem hjl
    have hw : IntKind.i64.wrap (((d.map encR).length : Int) - 1) = (d.length : Int) - 1 := by rw [List.length_map, wrapI64]; omega
    by_cases c1 : (0 : Int) ≤ l[j] ∧ l[j] ≤ IntKind.i64.wrap (((d.map encR).length : Int) - 1)
    · have c1' := c1
      rw [hw] at c1'
      have gs : sliceV Try.prog 23 (.imm .arg 1 (l.map encI)) none (some (.int .i64 (j : Int))) none = some (.imm .arg 1 ((l.map encI).take j)) := slice_imm (by rw [List.length_map]; omega)
      have et : (l.map encI).take j = (l.take j).map encI := List.map_take.symm
      by_cases c2 : l[j] ∈ l.take j
      · have s1 := it_l_0 (d.map encR) (l.map encI) j _ (by simp; omega) g c1 gs (by rw [et]; exact prim_contains (by kernel_rfl) (by rw [List.length_take]; omega) _ _ true (decide_eq_true c2))
        rw [List.length_map] at s1
        exact ⟨_, _, RunsTo.loop_out s1 (by simp) (by kernel_rfl) (by kernel_rfl), .inr ⟨rfl, rfl, fun h => dup_not hjl c2 h.2⟩⟩
      · have s1 := it_l_1 (d.map encR) (l.map encI) j _ (by simp; omega) g c1 gs (by rw [et]; exact prim_contains (by kernel_rfl) (by rw [List.length_take]; omega) _ _ false (decide_eq_false c2))
        rw [wrap_succ (by omega), List.length_map] at s1
        obtain ⟨x, E, h1, h2⟩ := ih (j + 1) (by omega) (hG.succ hjl ⟨c1.1, by omega⟩ c2)
        exact ⟨x, E, RunsTo.loop s1 (by kernel_rfl) rfl h1 rfl (by kernel_rfl) (by kernel_rfl), h2⟩
    · have s1 := it_l_2 (d.map encR) (l.map encI) j _ (by simp; omega) g c1
      rw [List.length_map (f := encI)] at s1
      rw [hw] at c1
      exact ⟨_, _, RunsTo.loop_out s1 (by simp) (by kernel_rfl) (by kernel_rfl), .inr ⟨rfl, rfl, fun h => by have := h.1 _ hmem; omega⟩⟩
theorem res57 : Try.f57.results.toList = [.tmp 4] := by kernel_rfl
theorem mtour_ok : PrimOk Try.prog 57 tour57 := by
  refine primOk_pure (pol := polT) (fn := Try.f57) (cd := B57) follows_mixed soundT (by kernel_rfl) (by kernel_rfl) (fnok polT.prim _ _ (by kernel_rfl)) (by kernel_rfl) ?_
  intro args res h
  obtain ⟨d, l, rfl, hq⟩ := rlF_inv h
  clear h
  split at hq
  · rename_i hc
    cases hq
    have a1 := it_a_0 (d.map encR) (l.map encI)
    have fin : ∀ b E, RunsTo Try.prog polT 57 (sub [1] B57) (env57 (.imm .arg 1 (d.map encR)) (.imm .arg 1 (l.map encI)) (.bool false) .undef .undef .undef .undef .undef) [] .ret (polT.keys 57) E [] → E.get 4 = .bool b → trOk d.length l = b →
        ∃ x E H' v, RunsTo Try.prog polT 57 B57 (args0 [.imm .arg 1 (d.map encR), .imm .arg 1 (l.map encI)]) [] x (polT.keys 57) E H' ∧ (∀ i, x ≠ .exit i) ∧ resultsV Try.prog Try.f57 E H' = some v ∧ toRes H' (polT.deep 57) v = some (.bool (trOk d.length l)) := by
      intro b E t hE hb
      exact ⟨_, E, [], .bool b, RunsTo.seq a1 t (c := B57) (by kernel_rfl) (by kernel_rfl), by simp, by simp only [resultsV, res57, mapO, resultV, hE], by rw [hb]; rfl⟩
    by_cases e1 : l.length = d.length
    · have g0 := gx (l := l) (y := 0) (by omega)
      by_cases e2 : l.getD 0 0 = 0
      · have b1 := it_b_0 (d.map encR) (l.map encI) _ (by simp [e1]) g0 e2
        have c1 := it_c_0 (d.map encR) (l.map encI)
        rw [List.length_map (f := encI)] at c1
        obtain ⟨x, E, h1, h2⟩ := it_loop (d := d) (by omega) hc.2 l.length 0 (by omega) (Gd.zero _ l)
        rcases h2 with ⟨rfl, rfl, h3⟩ | ⟨rfl, k2, k3⟩
        · have z1 := it_z_0 (d.map encR) (l.map encI) l.length
          rw [List.length_map (f := encI)] at z1
          have t1 := RunsTo.seq c1 (RunsTo.block_exit (c := sub [1, 1, 0, 1] B57) h1 (by kernel_rfl)) (c := sub [1, 1, 0] B57) (by kernel_rfl) (by kernel_rfl)
          exact fin true _ (RunsTo.seq b1 (RunsTo.seq t1 z1 (c := sub [1, 1] B57) (by kernel_rfl) (by kernel_rfl)) (c := sub [1] B57) (by kernel_rfl) (by kernel_rfl)) rfl (decide_eq_true ⟨e1, e2, h3.1, h3.2⟩)
        · have t1 := RunsTo.seq c1 (RunsTo.block_ret (c := sub [1, 1, 0, 1] B57) (i := 0) h1 (by kernel_rfl)) (c := sub [1, 1, 0] B57) (by kernel_rfl) (by kernel_rfl)
          exact fin false _ (RunsTo.seq b1 (RunsTo.seq_out t1 (by simp) (c := sub [1, 1] B57) (b := sub [1, 1, 1] B57) (by kernel_rfl)) (c := sub [1] B57) (by kernel_rfl) (by kernel_rfl)) k2 (decide_eq_false fun h => k3 ⟨h.2.2.1, h.2.2.2⟩)
      · exact fin false _ (RunsTo.seq_out (it_b_1 (d.map encR) (l.map encI) _ (by simp [e1]) g0 e2) (by simp) (c := sub [1] B57) (b := sub [1, 1] B57) (by kernel_rfl)) rfl (decide_eq_false fun h => e2 h.2.1)
    · exact fin false _ (RunsTo.seq_out (it_b_2 (d.map encR) (l.map encI) (by simp; omega)) (by simp) (c := sub [1] B57) (b := sub [1, 1] B57) (by kernel_rfl)) rfl (decide_eq_false fun h => e1 h.1)
  · cases hq
theorem soundN (n : Nat) : CallSound Try.prog (callN Try.prog polN n) := sound_prim _ (fun g f h => by
  split at h
  · rename_i hg; cases h; rw [eq_of_beq hg]; exact miles_ok
  split at h
  · rename_i hg; cases h; rw [eq_of_beq hg]; exact mtour_ok
  split at h
  · rename_i hg; cases h; rw [eq_of_beq hg]; exact mlen_ok
  · cases h) n
theorem prim_miles {pol' : Pol} (hp : pol'.prim 46 = some miles46) {d : List (List Int)} (h1 : d.length ≤ 1000) (h2 : (d.all fun r => decide (r.length ≤ 1000)) = true) (H : Heap) (b : Bool) (hb : okB d = b) : ∀ k, callN Try.prog pol' (k + 1) 46 [.imm .arg 1 (d.map encR)] H = some (.bool b, H) := fun k => by
  rw [prim_call (pol := pol') (g := 46) (F := miles46) hp (rs := [.imm .arg 1 (d.map encR)]) (by simp only [mapO, arg_rw]) (res := .bool b) (by simp only [miles46, rwF, mapO_map decR_enc]; rw [if_pos ⟨h1, h2⟩, hb])]; rfl
theorem revP_len {l : List Int} {i j : Nat} (h : i ≤ j) (hj : j < l.length) : (revP l i j).length = l.length := by
  simp only [revP, List.length_append, List.length_take, List.length_reverse, List.length_drop]
  omega
theorem revP_get {l : List Int} {i j : Nat} (h : i ≤ j) (hj : j < l.length) (k : Nat) : (revP l i j)[k]? = if i ≤ k ∧ k ≤ j then l[i + j - k]? else l[k]? := by
  unfold revP
  by_cases c1 : k < i
  · rw [List.getElem?_append_left (by simp; omega), List.getElem?_take, if_pos c1, if_neg (by omega)]
  · rw [List.getElem?_append_right (by simp; omega), List.length_take, Nat.min_eq_left (by omega)]
    by_cases c2 : k ≤ j
    · rw [if_pos ⟨by omega, c2⟩, List.getElem?_append_left (by simp; omega), List.getElem?_reverse (by simp; omega), List.length_take, List.length_drop, Nat.min_eq_left (by omega), List.getElem?_take, if_pos (by omega), List.getElem?_drop]
      congr 1
      omega
    · rw [if_neg (by omega), List.getElem?_append_right (by simp; omega), List.length_reverse, List.length_take, List.length_drop, Nat.min_eq_left (by omega), List.getElem?_drop]
      congr 1
      omega
end Go.Proofs.Ytlendaofkmhgmaa
end
section
open Go Go.HL
namespace Go.Proofs.Ytlendaofkmhgmaa
theorem res52 : Try.f52.results.toList = [.tmp 2] := by kernel_rfl
theorem clone_run (v : Int) (l : List Int) (hl : (v :: l).length ≤ 1000) : ∃ k, callN Try.prog pol k 52 [.imm .arg 1 ((v :: l).map encI)] [] = some (.sl 0 0 (v :: l).length none (v :: l).length 1, [bI (v :: l)]) := by
  have hb : ∀ (l : List Int), bndL (l.map encI) = 0 := by
    intro l
    induction l with
    | nil => rfl
    | cons a l ih => simp only [List.map_cons, bndL, ih, encI, bnd]; rfl
  have hap : appV [] 1 8 (.imm .lit 1 []) ((v :: l).map encI) = some (.sl 0 0 ((v :: l).map encI).length none ((v :: l).map encI).length 1, [.arr 1 ((v :: l).map encI) true 0]) := by
    have hne : (v :: l).map encI ≠ [] := by simp
    simp only [appV, if_neg hne]
    rw [if_pos ⟨.inr trivial, by simp only [List.length_nil, List.length_map, roomMax]; omega⟩, hb]
    simp
  have hnt : nilTest Try.prog .eql 23 (.imm .arg 1 ((v :: l).map encI)) = some (.bool false) := by
    have hu : Try.prog.underlying 23 = some (.slice 3) := u23
    simp only [nilTest, hu, knownNil, List.map_cons, nilOp]
  obtain ⟨m, h⟩ := cl_1 ((v :: l).map encI) hnt hap
  obtain ⟨e1, g1, g2⟩ := h m m (Nat.le_refl m) (Nat.le_refl m)
  refine ⟨m + 1, ?_⟩
  have hrc := resCell_sl (H := [bI (v :: l)]) (no := [0]) (b := 0) (k := 1) (m := (v :: l).length) (cap := none) (els := (v :: l).map encI) rfl (by simp) (mapO_self (fun r => frz_int 4 r) _)
  have hown : ownedAll [bI (v :: l)] false (.sl 0 0 (v :: l).length none (v :: l).length 1) = [0] := rfl
  have hpr : pureRun Try.prog pol (evC Try.prog pol (callN Try.prog pol m) m) 52 Try.f52 B52 [.imm .arg 1 ((v :: l).map encI)] = some (.own 1 ((v :: l).map encI)) := by
    unfold pureRun
    have hg1 : evC Try.prog pol (callN Try.prog pol m) m 52 B52 (args0 [.imm .arg 1 ((v :: l).map encI)]) [] = some (.ret, e1, [bI (v :: l)]) := g1
    rw [hg1]
    have hres : resultsV Try.prog Try.f52 e1 [bI (v :: l)] = some (.sl 0 0 (v :: l).length none (v :: l).length 1) := by
      have := resultsV_restr (P := Try.prog) (fn := Try.f52) (K := pol.keys 52) (e := e1) (H := [bI (v :: l)]) (by kernel_rfl)
      rw [← this, g2]
      simp only [resultsV, res52, mapO, resultV]
      simp [Env.get]
    simp only [hres]
    show toRes _ false _ = _
    simp only [toRes, hown, List.nodup_cons, List.not_mem_nil, not_false_eq_true, List.nodup_nil, and_self, if_true, resVal, hrc]
  have hp : pol.prim 52 = none := by kernel_rfl
  have hs : pol.shared 52 = false := by kernel_rfl
  have hf : Try.prog.funcs[52]? = some Try.f52 := by kernel_rfl
  have hbd : Try.f52.body = some B52 := by kernel_rfl
  have ha : toArg [] 6 (.imm .arg 1 ((v :: l).map encI)) = some (.imm .arg 1 ((v :: l).map encI)) := by
    show argP (.imm .arg 1 ((v :: l).map encI)) = _
    simp only [argP, argP_ints']
  have hno : ((v :: l).map encI).any isOwn = false := by
    rw [List.any_eq_false]
    intro v hv
    obtain ⟨k, _, rfl⟩ := List.mem_map.1 hv
    simp [encI, isOwn]
  simp only [callN, doCall, hp, hf, hbd, hs, Bool.false_eq_true, if_false, mapO, ha]
  have hpc : pureCall Try.prog pol (evC Try.prog pol (callN Try.prog pol m) m) 52 Try.f52 B52 [.imm .arg 1 ((v :: l).map encI)] = some (.own 1 ((v :: l).map encI)) := by
    unfold pureCall
    rw [if_pos (by kernel_rfl)]
    simp only [List.map_cons] at hpr ⊢
    exact hpr
  rw [hpc]
  simp only [recv, recvVal, recvCell, hno, List.length_map]
  rfl
theorem clone_ok : PrimOk Try.prog 52 clone52 := by
  refine primOk_of (pol := pol) sound (by kernel_rfl) fun args res h => ?_
  obtain ⟨l, rfl, hq⟩ := liF_inv h
  clear h
  split at hq
  · rename_i hl
    cases hq
    cases l with
    | nil => exact ⟨30, .sl 0 0 0 none 0 1, [.arr 1 [] true 0], false, by kernel_rfl, rfl⟩
    | cons v l =>
      obtain ⟨k, hk⟩ := clone_run v l hl
      exact ⟨k, _, _, false, hk, res_li (b := 0) rfl rfl⟩
  · cases hq
end Go.Proofs.Ytlendaofkmhgmaa
end
section
open Go Go.HL
namespace Go.Proofs.Ytlendaofkmhgmaa
structure Rv (o : List Int) (lo n i : Nat) (c : List Int) : Prop where
  len : c.length = o.length
  get : ∀ k, k < o.length → c.getD k 0 = if lo ≤ k ∧ k < lo + n ∧ (k < lo + i ∨ lo + n ≤ k + i) then o.getD (2 * lo + n - 1 - k) 0 else o.getD k 0
theorem Rv.zero (o : List Int) (lo n : Nat) : Rv o lo n 0 o := ⟨rfl, fun k hk => by rw [if_neg (by omega)]⟩
theorem getD_set (o : List Int) (i k : Nat) (v : Int) (hi : i < o.length) : (o.set i v).getD k 0 = if i = k then v else o.getD k 0 := by
  simp only [List.getD, List.getElem?_set]
  by_cases e : i = k
  · subst e; simp [hi]
  · simp [e]
theorem Rv.step {o c : List Int} {lo n i : Nat} (h : Rv o lo n i c) (hb : lo + n ≤ o.length) (hi : 2 * i + 1 < n) : Rv o lo n (i + 1) ((c.set (lo + i) (c.getD (lo + (n - 1 - i)) 0)).set (lo + (n - 1 - i)) (c.getD (lo + i) 0)) := by
  have hl := h.len
  refine ⟨by simp [hl], fun k hk => ?_⟩
  rw [getD_set _ _ _ _ (by rw [List.length_set]; omega), getD_set _ _ _ _ (by omega)]
  have e1 := h.get (lo + i) (by omega)
  have e2 := h.get (lo + (n - 1 - i)) (by omega)
  rw [if_neg (by omega)] at e1 e2
  by_cases c1 : lo + (n - 1 - i) = k
  · rw [if_pos c1, if_pos (by omega), e1]
    congr 1
    omega
  · rw [if_neg c1]
    by_cases c2 : lo + i = k
    · rw [if_pos c2, if_pos (by omega), e2]
      congr 1
      omega
    · rw [if_neg c2, h.get k hk]
      by_cases c3 : lo ≤ k ∧ k < lo + n ∧ (k < lo + i ∨ lo + n ≤ k + i)
      · rw [if_pos c3, if_pos (by omega)]
      · rw [if_neg c3, if_neg (by omega)]
theorem Rv.done {o c : List Int} {lo n i : Nat} (h : Rv o lo n i c) (hn : 1 ≤ n) (hb : lo + n ≤ o.length) (hi : n ≤ 2 * i + 1) : c = revP o lo (lo + n - 1) := by
  have hr := revP_len (l := o) (i := lo) (j := lo + n - 1) (by omega) (by omega)
  apply List.ext_getElem (by rw [hr]; exact h.len)
  intro k h1 h2
  have hk : k < o.length := by rw [← h.len]; exact h1
  have e := h.get k hk
  have e2 := revP_get (l := o) (i := lo) (j := lo + n - 1) (by omega) (by omega) k
  rw [List.getElem?_eq_getElem h2] at e2
  rw [← getD_at h1, e]
  by_cases c1 : lo ≤ k ∧ k ≤ lo + n - 1
  · rw [if_pos c1, List.getElem?_eq_getElem (by omega)] at e2
    have e3 := Option.some.inj e2
    rw [e3]
    by_cases c2 : k < lo + i ∨ lo + n ≤ k + i
    · rw [if_pos ⟨c1.1, by omega, c2⟩, getD_at (by omega)]
      congr 1
      omega
    · rw [if_neg (by omega), getD_at hk]
      congr 1
      omega
  · rw [if_neg c1, List.getElem?_eq_getElem hk] at e2
    rw [if_neg (by omega), getD_at hk]
    exact (Option.some.inj e2).symm
end Go.Proofs.Ytlendaofkmhgmaa
end
section
open Go Go.HL
namespace Go.Proofs.Ytlendaofkmhgmaa
theorem toRes_li2 {H : Heap} {b k : Nat} {cap : Option Nat} {o : List Int} (hb : H[b]? = some (bI o)) (hk : o.length = k) (x e : Int) : toRes H false (.tuple [.sl b 0 k cap k 1, .int .i64 x, .int .i64 e]) = some (.tuple [.own 1 (o.map encI), .int .i64 x, .int .i64 e]) := by
  have hr := resCell_sl (H := H) (no := [b]) (b := b) (k := 1) (m := k) (cap := cap) (els := o.map encI) hb (by simpa using hk) (mapO_self (fun r => frz_int 4 r) _)
  have ho : ownedAll H false (.tuple [.sl b 0 k cap k 1, .int .i64 x, .int .i64 e]) = [b] := by simp [ownedAll, cellsOf, owned, hb]
  simp only [toRes, ho, List.nodup_cons, List.not_mem_nil, not_false_eq_true, List.nodup_nil, and_self, if_true, mapO, resVal, hr]
  rfl
section
variable {d : List (List Int)}
abbrev tv4 (m : Nat) : HV := .sl 4 0 m none m 1
end
section
variable {d : List (List Int)}
structure BI (d : List (List Int)) (v w : Nat) (o : List Int) (tv : HV) (H : Heap) : Prop where
  mem : Mem (rsT d) H
  box : H[1]? = some (boxK v w)
  st : (tv = .sl 2 0 1 (some 1) 1 1 ∧ o = [0] ∧ H.length = 3 ∧ H[2]? = some (bI o)) ∨ (tv = tv4 o.length ∧ H.length = 5 ∧ H[4]? = some (bI o))
end
section
variable {d : List (List Int)}
theorem BI.len {d : List (List Int)} {v w : Nat} {o : List Int} {tv : HV} {H : Heap} (h : BI d v w o tv H) : 3 ≤ H.length ∧ H.length ≤ 5 ∧ bnd tv ≤ H.length := by
  rcases h.st with ⟨h1, _, h3, _⟩ | ⟨h1, h3, _⟩ <;> rw [h1, h3] <;> simp [bnd]
end
section
variable {d : List (List Int)}
theorem BI.app {d : List (List Int)} {v w : Nat} {o : List Int} {tv : HV} {H H3 : Heap} (h : BI d v w o tv H) (hM : Mem (rsT d) H3) (hl : H3.length = H.length + 1) (hs : ∀ k, 2 ≤ k → k < H.length → H3[k]? = H[k]?) (ho : o.length ≤ 500) (x : Int) :
    ∃ H4, appV H3 1 8 tv [.int .i64 x] = some (tv4 (o.length + 1), H4) ∧ Mem (rsT d) H4 ∧ H4[1]? = H3[1]? ∧ H4[4]? = some (bI (o ++ [x])) ∧ 5 ≤ H4.length := by
  rcases h.st with ⟨h1, h2, h3, h4⟩ | ⟨h1, h3, h4⟩
  · have e := hs 2 (by omega) (by omega)
    rw [h4] at e
    subst h2; subst h1
    refine ⟨H3 ++ [bI ([0] ++ [x])], ?_, hM.app (same_bI _) rfl, List.getElem?_append_left (by omega), ?_, by simp; omega⟩
    · have e4 : H3.length = 4 := by omega
      simp only [appV, e, e4]
      simp [roomMax, bnd, bndL, encI]
    · rw [List.getElem?_append_right (by omega)]; simp [hl, h3]
  · have e := hs 4 (by omega) (by omega)
    rw [h4] at e
    subst h1
    have ap := app_ints (xs := [x]) e (by simp; omega) (by simp)
    rw [show (o ++ [x]).length = o.length + 1 by simp] at ap
    exact ⟨_, ap, hM.set (by omega) (same_bI _) rfl, List.getElem?_set_ne (by omega), List.getElem?_set_self (by omega), by simp; omega⟩
end
end Go.Proofs.Ytlendaofkmhgmaa
end
section
open Go Go.HL
namespace Go.Proofs.Ytlendaofkmhgmaa
section
variable {d : List (List Int)}
def pc (d : List (List Int)) : Nat → List Int → Int
  | _, [] => 0
  | s, v :: p => at2 d s v.toNat + pc d v.toNat p
end
section
variable {d : List (List Int)}
def lastP : Nat → List Int → Nat
  | s, [] => s
  | _, v :: p => lastP v.toNat p
end
section
variable {d : List (List Int)}
theorem pc_app (d : List (List Int)) : ∀ (p : List Int) (y s : Nat), pc d s (p ++ [(y : Int)]) = pc d s p + at2 d (lastP s p) y
  | [], y, s => by simp [pc, lastP]
  | v :: p, y, s => by
    rw [List.cons_append, pc, pc_app d p y, pc, lastP]; omega
end
section
variable {d : List (List Int)}
theorem lastP_app : ∀ (p : List Int) (y s : Nat), lastP s (p ++ [(y : Int)]) = y
  | [], y, s => by simp [lastP]
  | v :: p, y, s => by rw [List.cons_append, lastP, lastP_app p y]
end
section
variable {d : List (List Int)}
theorem lastP_lt {n : Nat} : ∀ (p : List Int) (s : Nat), s < n → inT n p → lastP s p < n
  | [], s, h, _ => h
  | v :: p, s, h, hp => by
    have := hp v (by simp)
    exact lastP_lt p v.toNat (by omega) fun w hw => hp w (by simp [hw])
end
section
variable {d : List (List Int)}
structure Pre (n : Nat) (p : List Int) (L : Nat) : Prop where
  inn : inT n (0 :: p)
  nd : (0 :: p).Nodup
  left : ∀ y : Nat, L.testBit y = true ↔ y < n ∧ (y : Int) ∉ (0 :: p)
end
section
variable {d : List (List Int)}
theorem Pre.lt {n L : Nat} {p : List Int} (h : Pre n p L) : L < 2 ^ n := Nat.lt_pow_two_of_testBit _ fun i hi => by
  cases hb : L.testBit i with
  | false => rfl
  | true => have := ((h.left i).1 hb).1; omega
end
section
variable {d : List (List Int)}
theorem Pre.step {n L y : Nat} {p : List Int} (h : Pre n p L) (hn : n ≤ 11) (hb : L.testBit y = true) : Pre n (p ++ [(y : Int)]) (wo L y) := by
  obtain ⟨h1, h2⟩ := (h.left y).1 hb
  have hL := h.lt
  have hp := pow_le hn
  have e : (0 :: (p ++ [(y : Int)])) = (0 :: p) ++ [(y : Int)] := rfl
  refine ⟨fun v hv => ?_, ?_, fun u => ?_⟩
  · rw [e, List.mem_append, List.mem_singleton] at hv
    rcases hv with hv | rfl
    · exact h.inn v hv
    · omega
  · rw [e, List.nodup_append]
    refine ⟨h.nd, by simp, fun a ha b hb' => ?_⟩
    rw [List.mem_singleton] at hb'
    subst hb'
    exact fun e => h2 (e ▸ ha)
  · rw [wo_bit (by omega) (by omega), e, Bool.and_eq_true, h.left, decide_eq_true_eq]
    simp only [List.mem_append, List.mem_singleton, not_or]
    constructor
    · rintro ⟨⟨g1, g2⟩, g3⟩; exact ⟨g1, g2, by omega⟩
    · rintro ⟨g1, g2, g3⟩; exact ⟨⟨g1, g2⟩, by omega⟩
end
end Go.Proofs.Ytlendaofkmhgmaa
end
section
open Go Go.HL
namespace Go.Proofs.Ytlendaofkmhgmaa
def rl (d : List (List Int)) (A : List Int) (p : Nat × Nat) : List Int := A.set p.2 (min (A.getD p.2 0) (A.getD p.1 0 + at2 d p.1 p.2))
def rowP (ok : Nat → Nat → Bool) (x : Nat) : Nat → Nat → List (Nat × Nat)
  | 0, _ => []
  | k + 1, y => if ok x y then (x, y) :: rowP ok x k (y + 1) else rowP ok x k (y + 1)
def allP (ok : Nat → Nat → Bool) (n : Nat) : Nat → Nat → List (Nat × Nat)
  | 0, _ => []
  | k + 1, x => rowP ok x n 0 ++ allP ok n k (x + 1)
def rnds (d : List (List Int)) (ps : List (Nat × Nat)) : Nat → List Int → List Int
  | 0, A => A
  | k + 1, A => rnds d ps k (ps.foldl (rl d) A)
def okO (o : List Bool) (x y : Nat) : Bool := !(o.getD x false) && !(o.getD y false)
def sh (d : List (List Int)) (o : List Bool) (f t : Nat) : Int := (rnds d (allP (okO o) d.length d.length 0) d.length ((List.replicate d.length 1099511627776).set f 0)).getD t 0
def rowQ (u : Nat) : Nat → Nat → List (Nat × Nat)
  | 0, _ => []
  | k + 1, v => (v, u) :: rowQ u k (v + 1)
def allQ (n : Nat) : Nat → Nat → List (Nat × Nat)
  | 0, _ => []
  | k + 1, u => rowQ u n 0 ++ allQ n k (u + 1)
def farL (d : List (List Int)) (t : Nat) : List Int := rnds d (allQ d.length d.length 0) d.length (d.getD t [])
def BdA (n : Nat) (A : List Int) : Prop := A.length = n ∧ ∀ v, v < n → 0 ≤ A.getD v 0 ∧ A.getD v 0 ≤ 1099511627776
theorem getD_set' (o : List Int) (i k : Nat) (v : Int) (hi : i < o.length) : (o.set i v).getD k 0 = if i = k then v else o.getD k 0 := by
  simp only [List.getD, List.getElem?_set, hi]
  split
  · rename_i e; subst e; simp
  · rfl
section
variable {d : List (List Int)}
theorem BdA.rl (h : okD d) {A : List Int} (hA : BdA d.length A) {p : Nat × Nat} (h1 : p.1 < d.length) (h2 : p.2 < d.length) : BdA d.length (rl d A p) := by
  refine ⟨by simp [Ytlendaofkmhgmaa.rl, hA.1], fun v hv => ?_⟩
  unfold Ytlendaofkmhgmaa.rl
  rw [getD_set' _ _ _ _ (by rw [hA.1]; exact h2)]
  have a1 := hA.2 p.1 h1
  have a2 := hA.2 p.2 h2
  have a3 := h.at h1 h2
  split
  · omega
  · exact hA.2 v hv
end
section
variable {d : List (List Int)}
theorem BdA.fold (h : okD d) : ∀ (ps : List (Nat × Nat)) (A : List Int), BdA d.length A → (∀ p ∈ ps, p.1 < d.length ∧ p.2 < d.length) → BdA d.length (ps.foldl (Ytlendaofkmhgmaa.rl d) A)
  | [], A, hA, _ => hA
  | p :: ps, A, hA, hp => by
    rw [List.foldl_cons]
    exact BdA.fold h ps _ (hA.rl h (hp p (by simp)).1 (hp p (by simp)).2) fun q hq => hp q (by simp [hq])
end
section
variable {d : List (List Int)}
theorem rowP_in {ok : Nat → Nat → Bool} {n x : Nat} (hx : x < n) : ∀ k y, y + k ≤ n → ∀ p ∈ rowP ok x k y, p.1 < n ∧ p.2 < n
  | 0, y, _, p, hp => by cases hp
  | k + 1, y, hk, p, hp => by
    rw [rowP] at hp
    split at hp
    · rcases List.mem_cons.1 hp with rfl | hp
      · exact ⟨hx, by show y < n; omega⟩
      · exact rowP_in hx k (y + 1) (by omega) p hp
    · exact rowP_in hx k (y + 1) (by omega) p hp
end
section
variable {d : List (List Int)}
theorem allP_in {ok : Nat → Nat → Bool} {n : Nat} : ∀ k x, x + k ≤ n → ∀ p ∈ allP ok n k x, p.1 < n ∧ p.2 < n
  | 0, x, _, p, hp => by cases hp
  | k + 1, x, hk, p, hp => by
    rw [allP, List.mem_append] at hp
    rcases hp with hp | hp
    · exact rowP_in (by omega) n 0 (by omega) p hp
    · exact allP_in k (x + 1) (by omega) p hp
end
section
variable {d : List (List Int)}
theorem rowQ_in {n u : Nat} (hu : u < n) : ∀ k v, v + k ≤ n → ∀ p ∈ rowQ u k v, p.1 < n ∧ p.2 < n
  | 0, v, _, p, hp => by cases hp
  | k + 1, v, hk, p, hp => by
    rw [rowQ] at hp
    rcases List.mem_cons.1 hp with rfl | hp
    · exact ⟨by show v < n; omega, hu⟩
    · exact rowQ_in hu k (v + 1) (by omega) p hp
end
section
variable {d : List (List Int)}
theorem allQ_in {n : Nat} : ∀ k u, u + k ≤ n → ∀ p ∈ allQ n k u, p.1 < n ∧ p.2 < n
  | 0, u, _, p, hp => by cases hp
  | k + 1, u, hk, p, hp => by
    rw [allQ, List.mem_append] at hp
    rcases hp with hp | hp
    · exact rowQ_in (by omega) n 0 (by omega) p hp
    · exact allQ_in k (u + 1) (by omega) p hp
end
section
variable {d : List (List Int)}
theorem BdA.rnds (h : okD d) {ps : List (Nat × Nat)} (hp : ∀ p ∈ ps, p.1 < d.length ∧ p.2 < d.length) : ∀ k A, BdA d.length A → BdA d.length (rnds d ps k A)
  | 0, A, hA => hA
  | k + 1, A, hA => by
    rw [Ytlendaofkmhgmaa.rnds]
    exact BdA.rnds h hp k _ (BdA.fold h ps A hA hp)
end
section
variable {d : List (List Int)}
theorem init_bd {n f : Nat} (hf : f < n) : BdA n ((List.replicate n 1099511627776).set f 0) := by
  refine ⟨by simp, fun v hv => ?_⟩
  rw [getD_set' _ _ _ _ (by simpa using hf)]
  split
  · omega
  · simp [List.getD, List.getElem?_replicate, hv]
end
section
variable {d : List (List Int)}
theorem row_bd (h : okD d) {t : Nat} (ht : t < d.length) : BdA d.length (d.getD t []) := by
  refine ⟨h.2.1 t ht, fun v hv => ?_⟩
  have := h.at ht hv
  unfold at2 at this
  omega
end
def decBo : HV → Option Bool | .bool b => some b | _ => none
theorem decBo_enc (b : Bool) : decBo (.bool b) = some b := rfl
theorem decBo_inv (b : HV) (a : Bool) (h : decBo b = some a) : b = .bool a := by
  unfold decBo at h
  split at h
  · cases h; rfl
  · cases h
def roF (f : List (List Int) → List Bool → Int → Int → Option HV) : List HV → Option HV
  | [.imm .arg 1 rw, .imm .arg 1 lo, .int .i64 a, .int .i64 b] => (match mapO decR rw, mapO decBo lo with | some R, some o => f R o a b | _, _ => none)
  | _ => none
theorem roF_inv {f : List (List Int) → List Bool → Int → Int → Option HV} {args : List HV} {res : HV} (h : roF f args = some res) : ∃ R o a b, args = [.imm .arg 1 (R.map encR), .imm .arg 1 (o.map HV.bool), .int .i64 a, .int .i64 b] ∧ f R o a b = some res := by
  unfold roF at h
  split at h
  · rename_i rw lo a b
    split at h
    · rename_i R o hR ho
      exact ⟨R, o, a, b, by rw [mapO_inv decR_inv hR, mapO_inv decBo_inv ho], h⟩
    · cases h
  · cases h
open Classical in
noncomputable def short54 : List HV → Option HV := roF fun R o a b => if okD R ∧ o.length = R.length ∧ (0 ≤ a ∧ a < R.length) ∧ 0 ≤ b ∧ b < R.length then some (.int .i64 (sh R o a.toNat b.toNat)) else none
end Go.Proofs.Ytlendaofkmhgmaa
end
section
open Go Go.HL
namespace Go.Proofs.Ytlendaofkmhgmaa
set_option maxRecDepth 100000 in
theorem awake_fast : callNF Try.prog pol 200 20 [] [] = some (.bool true, []) := by kernel_rfl
theorem awake_prim : PrimOk Try.prog 20 awakeF := by
  refine primOk_of (pol := pol) sound (by kernel_rfl) fun args res h => ?_
  match args, h with
  | [], h =>
    cases h
    exact ⟨200, _, _, false, by rw [← callNF_eq]; exact awake_fast, rfl⟩
end Go.Proofs.Ytlendaofkmhgmaa
end
section
open Go Go.HL
namespace Go.Proofs.Ytlendaofkmhgmaa
theorem tabL_len (R : List (List Int)) : (tabL R).length ≤ 12 ∧ ((tabL R).all fun r => decide (r.length ≤ 1000)) = true := by
  refine ⟨by simp only [tabL, List.length_map, List.length_take]; omega, List.all_eq_true.2 fun r hr => ?_⟩
  unfold tabL at hr
  obtain ⟨q, _, rfl⟩ := List.mem_map.1 hr
  exact decide_eq_true (by rw [List.length_take]; omega)
section
variable {d : List (List Int)} {l : List Int} {H : Heap} (hx : H[0]? = some (.arr 1 (d.map encO) true 0)) (ht : H[1]? = some (bI l))
theorem q18 (hx : H[0]? = some (.arr 1 (d.map encO) true 0)) (h1 : d.length ≤ 1000) (h2 : (d.all fun r => decide (r.length ≤ 1000)) = true) (b : Bool) (hb : okB d = b) : ∀ k, callN Try.prog polZ (k + 1) 18 [.sl 0 0 d.length none d.length 1] H = some (.bool b, H) := fun k => by
  rw [prim_call (pol := polZ) (g := 18) (F := miles46) (by kernel_rfl) (rs := [.imm .arg 1 (d.map encR)]) (by simp only [mapO, arg_rs rfl hx]) (res := .bool b) (by simp only [miles46, rwF, mapO_map decR_enc]; rw [if_pos ⟨h1, h2⟩, hb])]; rfl
end
end Go.Proofs.Ytlendaofkmhgmaa
end
section
open Go Go.HL
namespace Go.Proofs.Ytlendaofkmhgmaa
theorem sameH_cons {B : Blk} {H : Heap} (hB : sameH [B] [B] = true) (hH : sameH H H = true) : sameH (B :: H) (B :: H) = true := by
  rw [sameH_iff] at hH ⊢
  intro C hC
  rcases List.mem_cons.1 hC with rfl | hC
  · exact hB
  · exact hH C hC
end Go.Proofs.Ytlendaofkmhgmaa
end
section
open Go Go.HL
namespace Go.Proofs.Ytlendaofkmhgmaa
def anyF (f : Nat → Bool) : Nat → Nat → Bool
  | 0, _ => false
  | k + 1, i => f i || anyF f k (i + 1)
def tight (d : List (List Int)) (fa : List Int) (v u : Nat) : Bool := decide (at2 d v u + fa.getD u 0 = fa.getD v 0)
def ldF (d : List (List Int)) (fa : List Int) (to : Nat) : Nat → Nat → Nat → Bool
  | 0, v, _ => decide (v = to)
  | k + 1, v, L => decide (v = to) || anyF (fun u => L.testBit u && tight d fa v u && ldF d fa to k u (wo L u)) d.length 0
def ldT (d : List (List Int)) (fa : List Int) (to v L : Nat) : Bool := ldF d fa to L v L
theorem anyF_congr {f g : Nat → Bool} : ∀ k i, (∀ u, f u = g u) → anyF f k i = anyF g k i
  | 0, _, _ => rfl
  | k + 1, i, h => by rw [anyF, anyF, h i, anyF_congr k (i + 1) h]
theorem anyF_none {f : Nat → Bool} : ∀ k i, (∀ u, f u = false) → anyF f k i = false
  | 0, _, _ => rfl
  | k + 1, i, h => by rw [anyF, h i, anyF_none k (i + 1) h]; rfl
theorem anyF_iff {f : Nat → Bool} : ∀ k i, anyF f k i = true ↔ ∃ u, (i ≤ u ∧ u < i + k) ∧ f u = true
  | 0, i => by simp [anyF]; intro u h1 h2; omega
  | k + 1, i => by
    rw [anyF, Bool.or_eq_true, anyF_iff k (i + 1)]
    constructor
    · rintro (h | ⟨u, h1, h2⟩)
      · exact ⟨i, by omega, h⟩
      · exact ⟨u, by omega, h2⟩
    · rintro ⟨u, h1, h2⟩
      by_cases e : u = i
      · subst e; exact .inl h2
      · exact .inr ⟨u, by omega, h2⟩
theorem ldF_fuel (d : List (List Int)) (fa : List Int) (to : Nat) : ∀ k k' v L, L ≤ k → L ≤ k' → ldF d fa to k v L = ldF d fa to k' v L := by
  have h0 : ∀ k' v, ldF d fa to k' v 0 = decide (v = to) := by
    intro k' v
    cases k' with
    | zero => rfl
    | succ k' => rw [ldF, anyF_none _ _ (fun u => by simp), Bool.or_false]
  intro k
  induction k with
  | zero =>
    intro k' v L h _
    have : L = 0 := by omega
    subst this
    rw [h0, h0]
  | succ k ih =>
    intro k' v L h h'
    by_cases c : L = 0
    · subst c; rw [h0, h0]
    · obtain ⟨k', rfl⟩ : ∃ n, k' = n + 1 := ⟨k' - 1, by omega⟩
      rw [ldF, ldF]
      congr 1
      refine anyF_congr _ _ fun u => ?_
      cases hb : L.testBit u with
      | false => rfl
      | true =>
        have := wo_lt hb
        rw [ih k' u (wo L u) (by omega) (by omega)]
theorem ldT_step (d : List (List Int)) (fa : List Int) (to v L : Nat) : ldT d fa to v L = (decide (v = to) || anyF (fun u => L.testBit u && tight d fa v u && ldT d fa to u (wo L u)) d.length 0) := by
  unfold ldT
  by_cases c : L = 0
  · subst c
    rw [ldF, anyF_none _ _ (fun u => by simp), Bool.or_false]
  · obtain ⟨k, rfl⟩ : ∃ k, L = k + 1 := ⟨L - 1, by omega⟩
    rw [ldF]
    congr 1
    refine anyF_congr _ _ fun u => ?_
    cases hb : (k + 1).testBit u with
    | false => rfl
    | true =>
      have := wo_lt hb
      rw [ldF_fuel d fa to k (wo (k + 1) u) u (wo (k + 1) u) (by omega) (Nat.le_refl _)]
noncomputable def polK : Pol := { pol with prim := fun g => if g == 46 then some miles46 else if g == 49 then some withinF else if g == 52 then some clone52 else none }
theorem u74 : Try.prog.underlying 74 = some (.map 77 4) := by kernel_rfl
theorem z4q : tyZero Try.prog 4 = some (.bool false) := by kernel_rfl
theorem a22 : tyAgg Try.prog 22 = false := by kernel_rfl
theorem i22 : (Try.prog.underlying 22).isSome = true := by kernel_rfl
theorem a74 : tyAgg Try.prog 74 = false := by kernel_rfl
theorem i74 : (Try.prog.underlying 74).isSome = true := by kernel_rfl
theorem a75 : tyAgg Try.prog 75 = false := by kernel_rfl
theorem i75 : (Try.prog.underlying 75).isSome = true := by kernel_rfl
abbrev fnK : HV := .func 53 [] [.ptr 1 0 0 1, .ptr 6 0 0 1, .ptr 0 0 0 1, .ptr 3 0 0 1, .ptr 7 0 0 1]
abbrev bB (g : Int × Int → Bool) (k : Int × Int) : HV := .bool (g k)
structure WM (d : List (List Int)) (fa : List Int) (to : Nat) (ks : List (Int × Int)) (g : Int × Int → Bool) (H : Heap) : Prop where
  b0 : H[0]? = some (.arr 1 [.imm .arg 1 (d.map encR)] true 0)
  b1 : H[1]? = some (.arr 1 [.int .i64 (to : Int)] true 0)
  b2 : H[2]? = some (bI fa)
  b3 : H[3]? = some (.arr 1 [.sl 2 0 d.length none d.length 1] true 5)
  b5 : H[5]? = some (.map (ks.map encP) (ks.map (bB g)) 0)
  b6 : H[6]? = some (.arr 1 [.map 5] true 6)
  b7 : H[7]? = some (.arr 1 [fnK] true 8)
  nd : ks.Nodup
  rf : sameH H H = true
  mx : mxs H ≤ 8
structure FrW (H H' : Heap) : Prop where
  len : H'.length = H.length
  same : ∀ k, k ≠ 5 → H'[k]? = H[k]?
theorem FrW.refl (H : Heap) : FrW H H := ⟨rfl, fun _ _ => rfl⟩
theorem FrW.trans {H H' H'' : Heap} (h : FrW H H') (h' : FrW H' H'') : FrW H H'' := ⟨h'.len.trans h.len, fun k hk => (h'.same k hk).trans (h.same k hk)⟩
section
variable {d : List (List Int)} {fa : List Int} {to : Nat} {ks : List (Int × Int)} {g : Int × Int → Bool} {H : Heap}
theorem WM.seven (h : WM d fa to ks g H) : 8 ≤ H.length := lt_of_get h.b7
end
section
variable {d : List (List Int)} {fa : List Int} {to : Nat} {ks : List (Int × Int)} {g : Int × Int → Bool} {H : Heap}
theorem WM.l0 (h : WM d fa to ks g H) : loadV Try.prog H 22 (.ptr 0 0 0 1) = some (.imm .arg 1 (d.map encR)) := load_elem (b := 0) h.b0 rfl rfl rfl a22 i22
end
section
variable {d : List (List Int)} {fa : List Int} {to : Nat} {ks : List (Int × Int)} {g : Int × Int → Bool} {H : Heap}
theorem WM.l1 (h : WM d fa to ks g H) : loadV Try.prog H 3 (.ptr 1 0 0 1) = some (.int .i64 (to : Int)) := load_elem (b := 1) h.b1 rfl rfl rfl a3 i3
end
section
variable {d : List (List Int)} {fa : List Int} {to : Nat} {ks : List (Int × Int)} {g : Int × Int → Bool} {H : Heap}
theorem WM.l3 (h : WM d fa to ks g H) : loadV Try.prog H 23 (.ptr 3 0 0 1) = some (.sl 2 0 d.length none d.length 1) := load_elem (b := 3) h.b3 rfl rfl rfl a23 i23
end
section
variable {d : List (List Int)} {fa : List Int} {to : Nat} {ks : List (Int × Int)} {g : Int × Int → Bool} {H : Heap}
theorem WM.l5 (h : WM d fa to ks g H) : loadV Try.prog H 74 (.ptr 6 0 0 1) = some (.map 5) := load_elem (b := 6) h.b6 rfl rfl rfl a74 i74
end
section
variable {d : List (List Int)} {fa : List Int} {to : Nat} {ks : List (Int × Int)} {g : Int × Int → Bool} {H : Heap}
theorem WM.l6 (h : WM d fa to ks g H) : loadV Try.prog H 75 (.ptr 7 0 0 1) = some fnK := load_elem (b := 7) h.b7 rfl rfl rfl a75 i75
end
section
variable {d : List (List Int)} {fa : List Int} {to : Nat} {ks : List (Int × Int)} {g : Int × Int → Bool} {H : Heap}
theorem WM.l2 (h : WM d fa to ks g H) (hf : fa.length = d.length) {v : Nat} (hv : v < d.length) : loadV Try.prog H 3 (.ptr 2 v 0 d.length) = some (.int .i64 (fa.getD v 0)) := by
  rw [← hf]
  exact load_out h.b2 (by omega)
end
section
variable {d : List (List Int)} {fa : List Int} {to : Nat} {ks : List (Int × Int)} {g : Int × Int → Bool} {H : Heap}
theorem ixF {v : Nat} (hv : v < d.length) : idxV Try.prog 23 (.sl 2 0 d.length none d.length 1) (.int .i64 (v : Int)) = some (.ptr 2 v 0 d.length) := by
  have := idx_sl (P := Try.prog) (t := 23) (b := 2) (len := d.length) (tot := d.length) (cap := none) (ik := .i64) (n := (v : Int)) u23 z3 (by omega) (by omega)
  rwa [Int.toNat_natCast] at this
end
section
variable {d : List (List Int)} {fa : List Int} {to : Nat} {ks : List (Int × Int)} {g : Int × Int → Bool} {H : Heap}
theorem WM.lkIn (h : WM d fa to ks g H) {k : Int × Int} (hk : k ∈ ks) : lkG Try.prog 74 H 5 (encP k) true = some (.tuple [.bool (g k), .bool true], H) ∧ lkG Try.prog 74 H 5 (encP k) false = some (.bool (g k), H) := by
  obtain ⟨r, h1, h2⟩ := findK_pairs k ks 0
  have ht := key77 k
  rcases h2 with ⟨h3, j, rfl, h5⟩ | ⟨h3, rfl⟩
  · have hj : (ks.map (bB g))[0 + j]? = some (.bool (g k)) := by rw [Nat.zero_add, List.getElem?_map, h5]; rfl
    constructor
    · simp only [lkG, h.b5, lookV, u74, ht, if_true, h1, hj, Option.map]
    · simp only [lkG, h.b5, lookV, u74, ht, if_true, h1, hj, Option.map, Bool.false_eq_true, if_false]
  · exact absurd hk h3
end
section
variable {d : List (List Int)} {fa : List Int} {to : Nat} {ks : List (Int × Int)} {g : Int × Int → Bool} {H : Heap}
theorem WM.lkOut (h : WM d fa to ks g H) {k : Int × Int} (hk : k ∉ ks) : lkG Try.prog 74 H 5 (encP k) true = some (.tuple [.bool false, .bool false], H) := by
  obtain ⟨r, h1, h2⟩ := findK_pairs k ks 0
  have ht := key77 k
  have hz := z4q
  rcases h2 with ⟨h3, j, rfl, h5⟩ | ⟨h3, rfl⟩
  · exact absurd h3 hk
  · simp only [lkG, h.b5, lookV, u74, ht, if_true, h1, hz]
    rfl
end
section
variable {d : List (List Int)} {fa : List Int} {to : Nat} {ks : List (Int × Int)} {g : Int × Int → Bool} {H : Heap}
theorem same_mapB (g : Int × Int → Bool) (ks : List (Int × Int)) : sameH [.map (ks.map encP) (ks.map (bB g)) 0] [.map (ks.map encP) (ks.map (bB g)) 0] = true := by
  have e1 : sameL (ks.map encP) (ks.map encP) = true := sameL_all fun v hv => by
    obtain ⟨k, _, rfl⟩ := List.mem_map.1 hv
    simp [encP, same, sameL]
  have e2 : sameL (ks.map (bB g)) (ks.map (bB g)) = true := sameL_all fun v hv => by
    obtain ⟨k, _, rfl⟩ := List.mem_map.1 hv
    simp [same]
  simp only [sameH, e1, e2, beq_self_eq_true, Bool.and_self]
end
section
variable {d : List (List Int)} {fa : List Int} {to : Nat} {ks : List (Int × Int)} {g : Int × Int → Bool} {H : Heap}
def put (g : Int × Int → Bool) (k : Int × Int) (b : Bool) (q : Int × Int) : Bool := if q = k then b else g q
end
section
variable {d : List (List Int)} {fa : List Int} {to : Nat} {ks : List (Int × Int)} {g : Int × Int → Bool} {H : Heap}
theorem WM.upd (h : WM d fa to ks g H) (k : Int × Int) (b : Bool) : ∃ ks' H', updV Try.prog false 74 (.map 5) (encP k) (.bool b) H = some H' ∧ WM d fa to ks' (put g k b) H' ∧ FrW H H' ∧ (∀ q, q ∈ ks' ↔ q ∈ ks ∨ q = k) := by
  obtain ⟨r, h1, h2⟩ := findK_pairs k ks 0
  have ht := key77 k
  have hl := lt_of_get h.b5
  have key : ∀ ks' : List (Int × Int), ks'.Nodup → (∀ q, q ∈ ks' ↔ q ∈ ks ∨ q = k) → updV Try.prog false 74 (.map 5) (encP k) (.bool b) H = some (H.set 5 (.map (ks'.map encP) (ks'.map (bB (put g k b))) 0)) → ∃ ks' H', updV Try.prog false 74 (.map 5) (encP k) (.bool b) H = some H' ∧ WM d fa to ks' (put g k b) H' ∧ FrW H H' ∧ (∀ q, q ∈ ks' ↔ q ∈ ks ∨ q = k) := by
    intro ks' hnd hin hu
    have hs : ∀ j, j ≠ 5 → (H.set 5 (.map (ks'.map encP) (ks'.map (bB (put g k b))) 0))[j]? = H[j]? := fun j hj => List.getElem?_set_ne (by omega)
    refine ⟨ks', _, hu, ⟨by rw [hs 0 (by omega)]; exact h.b0, by rw [hs 1 (by omega)]; exact h.b1, by rw [hs 2 (by omega)]; exact h.b2, by rw [hs 3 (by omega)]; exact h.b3, List.getElem?_set_self hl, by rw [hs 6 (by omega)]; exact h.b6, by rw [hs 7 (by omega)]; exact h.b7, hnd, sameH_set h.rf (same_mapB _ ks'), ?_⟩, ⟨by simp, hs⟩, hin⟩
    have hm := h.mx
    rw [mxs_le] at hm ⊢
    intro C hC
    rcases List.mem_or_eq_of_mem_set hC with hC | rfl
    · exact hm C hC
    · exact Nat.zero_le _
  rcases h2 with ⟨h3, j, rfl, h5⟩ | ⟨h3, rfl⟩
  · refine key ks h.nd (fun q => ⟨.inl, fun h => h.elim id fun e => e ▸ h3⟩) ?_
    simp only [updV, u74, ht, if_true, h.b5, h1, Bool.false_eq_true, if_false]
    have hs : (ks.map (bB g)).set (0 + j) (.bool b) = ks.map (bB (put g k b)) := by
      apply List.ext_getElem?
      intro i
      have hjl := lt_of_get h5
      rw [List.getElem?_set, List.length_map]
      by_cases e : 0 + j = i
      · subst e
        rw [if_pos rfl, if_pos (by omega), Nat.zero_add, List.getElem?_map, h5]
        simp [bB, put]
      · rw [if_neg e, List.getElem?_map, List.getElem?_map]
        cases hi : ks[i]? with
        | none => rfl
        | some q =>
          have hq : q ≠ k := fun e2 => by
            subst e2
            have hil := lt_of_get hi
            have hinj := (List.getElem?_inj hil h.nd).1 (by rw [hi, h5] : ks[i]? = ks[j]?)
            omega
          simp [bB, put, hq]
    simp only [hs, bnd, Nat.max_zero]
  · refine key (ks ++ [k]) (List.nodup_append.2 ⟨h.nd, by simp, fun a ha b hb => by rw [List.mem_singleton] at hb; subst hb; exact fun e => h3 (e ▸ ha)⟩) (fun q => by simp) ?_
    have ha : (aggEq (cellsOf (encP k)) (cellsOf (encP k))).isSome = true := by simp [encP, cellsOf, aggEq, scEq]
    have hs : ks.map (bB g) ++ [.bool b] = (ks ++ [k]).map (bB (put g k b)) := by
      have e1 : ks.map (bB g) = ks.map (bB (put g k b)) := List.map_congr_left fun q hq => by
        have : q ≠ k := fun e => h3 (e ▸ hq)
        simp only [bB, put, if_neg this]
      have e2 : bB (put g k b) k = .bool b := by simp only [bB, put, if_true]
      rw [e1, List.map_append, List.map_cons, List.map_nil, e2]
    simp only [updV, u74, ht, if_true, h.b5, h1, ha, Bool.false_eq_true, if_false, bnd, Nat.max_zero, ← hs, List.map_append, List.map_cons, List.map_nil]
end
section
variable {d : List (List Int)} {fa : List Int} {to : Nat} {ks : List (Int × Int)} {g : Int × Int → Bool} {H : Heap}
theorem WM.app (h : WM d fa to ks g H) {B : Blk} (hB : sameH [B] [B] = true) (hm : B.mx ≤ 8) : WM d fa to ks g (H ++ [B]) := by
  have h7 := h.seven
  have hs : ∀ j, j < 8 → (H ++ [B])[j]? = H[j]? := fun j hj => List.getElem?_append_left (by omega)
  refine ⟨by rw [hs 0 (by omega)]; exact h.b0, by rw [hs 1 (by omega)]; exact h.b1, by rw [hs 2 (by omega)]; exact h.b2, by rw [hs 3 (by omega)]; exact h.b3, by rw [hs 5 (by omega)]; exact h.b5, by rw [hs 6 (by omega)]; exact h.b6, by rw [hs 7 (by omega)]; exact h.b7, h.nd, sameH_app h.rf hB, ?_⟩
  have hx := h.mx
  rw [mxs_le] at hx ⊢
  intro C hC
  rcases List.mem_append.1 hC with hC | hC
  · exact hx C hC
  · rw [List.mem_singleton.1 hC]; exact hm
end
section
variable {d : List (List Int)} {fa : List Int} {to : Nat} {ks : List (Int × Int)} {g : Int × Int → Bool} {H : Heap}
theorem WM.set (h : WM d fa to ks g H) {k : Nat} {B : Blk} (hk : 8 ≤ k) (hB : sameH [B] [B] = true) (hm : B.mx ≤ 8) : WM d fa to ks g (H.set k B) := by
  have hs : ∀ j, j < 8 → (H.set k B)[j]? = H[j]? := fun j hj => List.getElem?_set_ne (by omega)
  refine ⟨by rw [hs 0 (by omega)]; exact h.b0, by rw [hs 1 (by omega)]; exact h.b1, by rw [hs 2 (by omega)]; exact h.b2, by rw [hs 3 (by omega)]; exact h.b3, by rw [hs 5 (by omega)]; exact h.b5, by rw [hs 6 (by omega)]; exact h.b6, by rw [hs 7 (by omega)]; exact h.b7, h.nd, sameH_set h.rf hB, ?_⟩
  have hx := h.mx
  rw [mxs_le] at hx ⊢
  intro C hC
  rcases List.mem_or_eq_of_mem_set hC with hC | rfl
  · exact hx C hC
  · exact hm
end
section
variable {d : List (List Int)} {fa : List Int} {to : Nat} {ks : List (Int × Int)} {g : Int × Int → Bool} {H : Heap}
theorem WM.take (h : WM d fa to ks g H) {m : Nat} (hm : 8 ≤ m) : WM d fa to ks g (H.take m) := by
  have hs : ∀ j, j < 8 → (H.take m)[j]? = H[j]? := fun j hj => by rw [List.getElem?_take, if_pos (by omega)]
  refine ⟨by rw [hs 0 (by omega)]; exact h.b0, by rw [hs 1 (by omega)]; exact h.b1, by rw [hs 2 (by omega)]; exact h.b2, by rw [hs 3 (by omega)]; exact h.b3, by rw [hs 5 (by omega)]; exact h.b5, by rw [hs 6 (by omega)]; exact h.b6, by rw [hs 7 (by omega)]; exact h.b7, h.nd, sameH_take h.rf, ?_⟩
  have hx := h.mx
  rw [mxs_le] at hx ⊢
  exact fun C hC => hx C (List.mem_of_mem_take hC)
end
section
variable {d : List (List Int)} {fa : List Int} {to : Nat} {ks : List (Int × Int)} {g : Int × Int → Bool} {H : Heap}
theorem WM.gc (h : WM d fa to ks g H) {b r : Nat} (hb : 8 ≤ b) : gc b r H = H.take (max b r) := by
  have := h.mx
  unfold HL.gc
  congr 1
  omega
end
end Go.Proofs.Ytlendaofkmhgmaa
end
