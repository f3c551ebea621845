/- A part of the proof. -/
import Derived.Test.YtiejmoglooaalaaP8A
set_option linter.unusedVariables false
set_option linter.unusedSimpArgs false
set_option linter.unnecessarySimpa false
open Go.IntKind renaming i64 → qA
open Nat renaming le_refl → qB, lt_or_ge → qH
open List renaming length_append → qC, length_map → qD, getElem?_eq_none → qE, length_singleton → qF, append_assoc → qG, getElem?_append_right → qI, take_of_length_le → qJ, set_append_right → qL, getElem?_append_left → qN, length_cons → qO, mem_of_mem_take → qP, length_take → qQ, getElem?_set_self → qR
open Int renaming toNat_natCast → qK, tdiv_eq_ediv_of_nonneg → qM
section
open Go Go.HL
namespace Go.Proofs.Ytiejmoglooaalaa
set_option maxRecDepth 100000
set_option linter.unusedSectionVars false
open Go.Proofs.Try renaming prog → Tp
open Go.HL.HV renaming undef → Ud
section
variable {xb:Nat}
noncomputable def QV:Code:=Try.f106.body.getD .skip
abbrev Ja (v0 v1 v2 v3 v4 v10 v11 v12 v13:HV):Env:=[(0,v0),(1,v1),(2,v2),(3,v3),(4,v4),(10,v10),(11,v11),(12,v12),(13,v13)]
end
abbrev WM (db:Nat) (n:Nat) (cap:Option Nat) (a:Nat) (b:Nat) (p:Nat) (u4 u7 u8:HV):Env:=Ja (.c db n cap) (.n a) (.n b) (.n p) u4 (.i 0) (.bool false) u7 u8
section
variable {xb:Nat}
variable (N:Nat) (db n:Nat) (cap:Option Nat) (H:Heap) (x:Nat) (a:Nat) (b:Nat) (p:Nat)
include N db n cap H x a b p
theorem Qlw:RT polSo 106 (sn 2 QV) [(0,.c db n cap),(1,.n a),(2,.n b),(3,.n p),(4,.func 69 [] [.q xb])] H .normal (WM db n cap a b p (.func 69 [] [.q xb]) Ud Ud) H :=
 hx N 60 []
end
section
variable {xb:Nat}
variable (N:Nat) (db n:Nat) (cap:Option Nat) (H:Heap) (x:Nat) (a:Nat) (b:Nat) (p:Nat)
include N db n cap H x a b p
theorem Qlx {y12 y13:HV} {a0:HV} {v0:HV} {a1:HV} {v1:HV} {a2:HV} {H0:Heap} {a3:HV} {H1:Heap} (g0:IX 24 (.c db n cap) (.n p) (a0)) (g1:LD H 3 (a0) (v0)) (g2:IX 24 (.c db n cap) (.n a) (a1)) (g3:LD H 3 (a1) (v1)) (g4:IX 24 (.c db n cap) (.n a) (a2)) (g5:ST H 3 (a2) (v0) H0) (g6:IX 24 (.c db n cap) (.n p) (a3)) (g7:ST H0 3 (a3) (v1) H1): RT polSo 106 (sn 6 QV) (WM db n cap a b p (.func 69 [] [.q xb]) y12 y13) H .normal (WM db n cap a b p (.func 69 [] [.q xb]) y12 y13) H1 :=
 hx N 60 [jO 1 6 H g0,jO 1 7 H g1,jO 1 10 H g2,jO 1 11 H g3,jO 1 12 H g4,jS 1 13 g5,jO 1 14 H0 g6,jS 1 15 g7]
theorem Qly {y12 y13:HV}: RT polSo 106 (sn 14 QV) (WM db n cap a b p (.func 69 [] [.q xb]) y12 y13) H .normal (WM db n cap a b p (.func 69 [] [.q xb]) (.i (qA.wrap ((a:Int)+1))) (.i (qA.wrap ((b:Int)-1)))) H :=
 hx N 60 []
theorem Qlz (i:Nat) (j:Nat) {a0:HV} {v0:HV} {a1:HV} {v1:HV} {c0:Int} {H0:Heap} (g0:(i:Int)≤(j:Int)) (g1:IX 24 (.c db n cap) (.n i) (a0)) (g2:LD H 3 (a0) (v0)) (g3:IX 24 (.c db n cap) (.n a) (a1)) (g4:LD H 3 (a1) (v1)) (g5:∀kf,N≤kf→Qc Tp polSo (kf+1) 69 [v0,v1,.q xb] H=some (.i c0,H0)) (g6:c0<0): RT polSo 106 (sn 120 QV) (WM db n cap a b p (.func 69 [] [.q xb]) (.n i) (.n j)) H .normal (WM db n cap a b p (.func 69 [] [.q xb]) (.i (qA.wrap ((i:Int)+1))) (.n j)) H0 :=
 hx N 60 [jT 3 2 H g0,jO 3 7 H g1,jO 3 8 H g2,jO 3 11 H g3,jO 3 12 H g4,jC 3 13 g5,jT 3 14 H0 g6]
theorem QlA (i:Nat) (j:Nat) {a0:HV} {v0:HV} {a1:HV} {v1:HV} {c0:Int} {H0:Heap} (g0:(i:Int)≤(j:Int)) (g1:IX 24 (.c db n cap) (.n i) (a0)) (g2:LD H 3 (a0) (v0)) (g3:IX 24 (.c db n cap) (.n a) (a1)) (g4:LD H 3 (a1) (v1)) (g5:∀kf,N≤kf→Qc Tp polSo (kf+1) 69 [v0,v1,.q xb] H=some (.i c0,H0)) (g6:¬(c0<0)): RT polSo 106 (sn 120 QV) (WM db n cap a b p (.func 69 [] [.q xb]) (.n i) (.n j)) H (.exit 0) (WM db n cap a b p (.func 69 [] [.q xb]) (.n i) (.n j)) H0 :=
 hx N 60 [jT 3 2 H g0,jO 3 7 H g1,jO 3 8 H g2,jO 3 11 H g3,jO 3 12 H g4,jC 3 13 g5,jF 3 14 H0 g6]
theorem Qew (i:Nat) (j:Nat) (g0:¬((i:Int)≤(j:Int))): RT polSo 106 (sn 120 QV) (WM db n cap a b p (.func 69 [] [.q xb]) (.n i) (.n j)) H (.exit 0) (WM db n cap a b p (.func 69 [] [.q xb]) (.n i) (.n j)) H :=
 hx N 60 [jF 3 2 H g0]
theorem QlB (i:Nat) (j:Nat) {a0:HV} {v0:HV} {a1:HV} {v1:HV} {c0:Int} {H0:Heap} (g0:(i:Int)≤(j:Int)) (g1:IX 24 (.c db n cap) (.n j) (a0)) (g2:LD H 3 (a0) (v0)) (g3:IX 24 (.c db n cap) (.n a) (a1)) (g4:LD H 3 (a1) (v1)) (g5:∀kf,N≤kf→Qc Tp polSo (kf+1) 69 [v0,v1,.q xb] H=some (.i c0,H0)) (g6:c0<0): RT polSo 106 (sn 248 QV) (WM db n cap a b p (.func 69 [] [.q xb]) (.n i) (.n j)) H (.exit 2) (WM db n cap a b p (.func 69 [] [.q xb]) (.n i) (.n j)) H0 :=
 hx N 60 [jT 5 2 H g0,jO 5 7 H g1,jO 5 8 H g2,jO 5 11 H g3,jO 5 12 H g4,jC 5 13 g5,jT 5 14 H0 g6]
theorem QlC (i:Nat) (j:Nat) {a0:HV} {v0:HV} {a1:HV} {v1:HV} {c0:Int} {H0:Heap} (g0:(i:Int)≤(j:Int)) (g1:IX 24 (.c db n cap) (.n j) (a0)) (g2:LD H 3 (a0) (v0)) (g3:IX 24 (.c db n cap) (.n a) (a1)) (g4:LD H 3 (a1) (v1)) (g5:∀kf,N≤kf→Qc Tp polSo (kf+1) 69 [v0,v1,.q xb] H=some (.i c0,H0)) (g6:¬(c0<0)): RT polSo 106 (sn 248 QV) (WM db n cap a b p (.func 69 [] [.q xb]) (.n i) (.n j)) H .normal (WM db n cap a b p (.func 69 [] [.q xb]) (.n i) (.i (qA.wrap ((j:Int)-1)))) H0 :=
 hx N 60 [jT 5 2 H g0,jO 5 7 H g1,jO 5 8 H g2,jO 5 11 H g3,jO 5 12 H g4,jC 5 13 g5,jF 5 14 H0 g6]
theorem Qex (i:Nat) (j:Nat) (g0:¬((i:Int)≤(j:Int))): RT polSo 106 (sn 248 QV) (WM db n cap a b p (.func 69 [] [.q xb]) (.n i) (.n j)) H (.exit 2) (WM db n cap a b p (.func 69 [] [.q xb]) (.n i) (.n j)) H :=
 hx N 60 [jF 5 2 H g0]
theorem QlD (i:Nat) (j:Nat) {a0:HV} {v0:HV} {a1:HV} {v1:HV} {a2:HV} {H0:Heap} {a3:HV} {H1:Heap} (g0:(j:Int)<(i:Int)) (g1:IX 24 (.c db n cap) (.n a) (a0)) (g2:LD H 3 (a0) (v0)) (g3:IX 24 (.c db n cap) (.n j) (a1)) (g4:LD H 3 (a1) (v1)) (g5:IX 24 (.c db n cap) (.n j) (a2)) (g6:ST H 3 (a2) (v0) H0) (g7:IX 24 (.c db n cap) (.n a) (a3)) (g8:ST H0 3 (a3) (v1) H1): RT polSo 106 (sn 126 QV) (WM db n cap a b p (.func 69 [] [.q xb]) (.n i) (.n j)) H .ret (Ja (.c db n cap) (.n a) (.n b) (.n p) (.func 69 [] [.q xb]) (.n j) (.bool true) (.n i) (.n j)) H1 :=
 hx N 60 [jT 7 2 H g0,jO 8 6 H g1,jO 8 7 H g2,jO 8 10 H g3,jO 8 11 H g4,jO 8 12 H g5,jS 8 13 g6,jO 8 14 H0 g7,jS 8 15 g8]
theorem QlE (i:Nat) (j:Nat) (g0:¬((j:Int)<(i:Int))): RT polSo 106 (sn 126 QV) (WM db n cap a b p (.func 69 [] [.q xb]) (.n i) (.n j)) H .normal (WM db n cap a b p (.func 69 [] [.q xb]) (.n i) (.n j)) H :=
 hx N 60 [jF 7 2 H g0]
theorem QlF (i:Nat) (j:Nat) {a0:HV} {v0:HV} {a1:HV} {v1:HV} {a2:HV} {H0:Heap} {a3:HV} {H1:Heap} (g0:IX 24 (.c db n cap) (.n j) (a0)) (g1:LD H 3 (a0) (v0)) (g2:IX 24 (.c db n cap) (.n i) (a1)) (g3:LD H 3 (a1) (v1)) (g4:IX 24 (.c db n cap) (.n i) (a2)) (g5:ST H 3 (a2) (v0) H0) (g6:IX 24 (.c db n cap) (.n j) (a3)) (g7:ST H0 3 (a3) (v1) H1): RT polSo 106 (sn 254 QV) (WM db n cap a b p (.func 69 [] [.q xb]) (.n i) (.n j)) H .normal (WM db n cap a b p (.func 69 [] [.q xb]) (.n i) (.n j)) H1 :=
 hx N 60 [jO 10 6 H g0,jO 10 7 H g1,jO 10 10 H g2,jO 10 11 H g3,jO 10 12 H g4,jS 10 13 g5,jO 10 14 H0 g6,jS 10 15 g7]
theorem QlG (i:Nat) (j:Nat): RT polSo 106 (sn 510 QV) (WM db n cap a b p (.func 69 [] [.q xb]) (.n i) (.n j)) H .normal (WM db n cap a b p (.func 69 [] [.q xb]) (.i (qA.wrap ((i:Int)+1))) (.n j)) H :=
 hx N 60 []
theorem QlH (i:Nat) (j:Nat): RT polSo 106 (sn 1022 QV) (WM db n cap a b p (.func 69 [] [.q xb]) (.n i) (.n j)) H .normal (WM db n cap a b p (.func 69 [] [.q xb]) (.n i) (.i (qA.wrap ((j:Int)-1)))) H :=
 hx N 60 []
theorem QlI (i:Nat) (j:Nat) {a0:HV} {v0:HV} {a1:HV} {v1:HV} {c0:Int} {H0:Heap} (g0:(i:Int)≤(j:Int)) (g1:IX 24 (.c db n cap) (.n i) (a0)) (g2:LD H 3 (a0) (v0)) (g3:IX 24 (.c db n cap) (.n a) (a1)) (g4:LD H 3 (a1) (v1)) (g5:∀kf,N≤kf→Qc Tp polSo (kf+1) 69 [v0,v1,.q xb] H=some (.i c0,H0)) (g6:c0<0): RT polSo 106 (sn 130944 QV) (WM db n cap a b p (.func 69 [] [.q xb]) (.n i) (.n j)) H .normal (WM db n cap a b p (.func 69 [] [.q xb]) (.i (qA.wrap ((i:Int)+1))) (.n j)) H0 :=
 hx N 60 [jT 13 2 H g0,jO 13 7 H g1,jO 13 8 H g2,jO 13 11 H g3,jO 13 12 H g4,jC 13 13 g5,jT 13 14 H0 g6]
theorem QlJ (i:Nat) (j:Nat) {a0:HV} {v0:HV} {a1:HV} {v1:HV} {c0:Int} {H0:Heap} (g0:(i:Int)≤(j:Int)) (g1:IX 24 (.c db n cap) (.n i) (a0)) (g2:LD H 3 (a0) (v0)) (g3:IX 24 (.c db n cap) (.n a) (a1)) (g4:LD H 3 (a1) (v1)) (g5:∀kf,N≤kf→Qc Tp polSo (kf+1) 69 [v0,v1,.q xb] H=some (.i c0,H0)) (g6:¬(c0<0)): RT polSo 106 (sn 130944 QV) (WM db n cap a b p (.func 69 [] [.q xb]) (.n i) (.n j)) H (.exit 6) (WM db n cap a b p (.func 69 [] [.q xb]) (.n i) (.n j)) H0 :=
 hx N 60 [jT 13 2 H g0,jO 13 7 H g1,jO 13 8 H g2,jO 13 11 H g3,jO 13 12 H g4,jC 13 13 g5,jF 13 14 H0 g6]
theorem Qey (i:Nat) (j:Nat) (g0:¬((i:Int)≤(j:Int))): RT polSo 106 (sn 130944 QV) (WM db n cap a b p (.func 69 [] [.q xb]) (.n i) (.n j)) H (.exit 6) (WM db n cap a b p (.func 69 [] [.q xb]) (.n i) (.n j)) H :=
 hx N 60 [jF 13 2 H g0]
theorem QlK (i:Nat) (j:Nat) {a0:HV} {v0:HV} {a1:HV} {v1:HV} {c0:Int} {H0:Heap} (g0:(i:Int)≤(j:Int)) (g1:IX 24 (.c db n cap) (.n j) (a0)) (g2:LD H 3 (a0) (v0)) (g3:IX 24 (.c db n cap) (.n a) (a1)) (g4:LD H 3 (a1) (v1)) (g5:∀kf,N≤kf→Qc Tp polSo (kf+1) 69 [v0,v1,.q xb] H=some (.i c0,H0)) (g6:c0<0): RT polSo 106 (sn 261896 QV) (WM db n cap a b p (.func 69 [] [.q xb]) (.n i) (.n j)) H (.exit 8) (WM db n cap a b p (.func 69 [] [.q xb]) (.n i) (.n j)) H0 :=
 hx N 60 [jT 15 2 H g0,jO 15 7 H g1,jO 15 8 H g2,jO 15 11 H g3,jO 15 12 H g4,jC 15 13 g5,jT 15 14 H0 g6]
theorem QlL (i:Nat) (j:Nat) {a0:HV} {v0:HV} {a1:HV} {v1:HV} {c0:Int} {H0:Heap} (g0:(i:Int)≤(j:Int)) (g1:IX 24 (.c db n cap) (.n j) (a0)) (g2:LD H 3 (a0) (v0)) (g3:IX 24 (.c db n cap) (.n a) (a1)) (g4:LD H 3 (a1) (v1)) (g5:∀kf,N≤kf→Qc Tp polSo (kf+1) 69 [v0,v1,.q xb] H=some (.i c0,H0)) (g6:¬(c0<0)): RT polSo 106 (sn 261896 QV) (WM db n cap a b p (.func 69 [] [.q xb]) (.n i) (.n j)) H .normal (WM db n cap a b p (.func 69 [] [.q xb]) (.n i) (.i (qA.wrap ((j:Int)-1)))) H0 :=
 hx N 60 [jT 15 2 H g0,jO 15 7 H g1,jO 15 8 H g2,jO 15 11 H g3,jO 15 12 H g4,jC 15 13 g5,jF 15 14 H0 g6]
theorem Qez (i:Nat) (j:Nat) (g0:¬((i:Int)≤(j:Int))): RT polSo 106 (sn 261896 QV) (WM db n cap a b p (.func 69 [] [.q xb]) (.n i) (.n j)) H (.exit 8) (WM db n cap a b p (.func 69 [] [.q xb]) (.n i) (.n j)) H :=
 hx N 60 [jF 15 2 H g0]
theorem QeA (i:Nat) (j:Nat) (g0:(j:Int)<(i:Int)): RT polSo 106 (sn 65475 QV) (WM db n cap a b p (.func 69 [] [.q xb]) (.n i) (.n j)) H (.exit 4) (WM db n cap a b p (.func 69 [] [.q xb]) (.n i) (.n j)) H :=
 hx N 60 [jT 17 2 H g0]
theorem QlM (i:Nat) (j:Nat) {a0:HV} {v0:HV} {a1:HV} {v1:HV} {a2:HV} {H0:Heap} {a3:HV} {H1:Heap} (g0:¬((j:Int)<(i:Int))) (g1:IX 24 (.c db n cap) (.n j) (a0)) (g2:LD H 3 (a0) (v0)) (g3:IX 24 (.c db n cap) (.n i) (a1)) (g4:LD H 3 (a1) (v1)) (g5:IX 24 (.c db n cap) (.n i) (a2)) (g6:ST H 3 (a2) (v0) H0) (g7:IX 24 (.c db n cap) (.n j) (a3)) (g8:ST H0 3 (a3) (v1) H1): RT polSo 106 (sn 65475 QV) (WM db n cap a b p (.func 69 [] [.q xb]) (.n i) (.n j)) H .normal (WM db n cap a b p (.func 69 [] [.q xb]) (.i (qA.wrap ((i:Int)+1))) (.i (qA.wrap ((j:Int)-1)))) H1 :=
 hx N 60 [jF 17 2 H g0,jO 18 6 H g1,jO 18 7 H g2,jO 18 10 H g3,jO 18 11 H g4,jO 18 12 H g5,jS 18 13 g6,jO 18 14 H0 g7,jS 18 15 g8]
theorem QlN (i:Nat) (j:Nat) {a0:HV} {v0:HV} {a1:HV} {v1:HV} {a2:HV} {H0:Heap} {a3:HV} {H1:Heap} (g0:IX 24 (.c db n cap) (.n a) (a0)) (g1:LD H 3 (a0) (v0)) (g2:IX 24 (.c db n cap) (.n j) (a1)) (g3:LD H 3 (a1) (v1)) (g4:IX 24 (.c db n cap) (.n j) (a2)) (g5:ST H 3 (a2) (v0) H0) (g6:IX 24 (.c db n cap) (.n a) (a3)) (g7:ST H0 3 (a3) (v1) H1): RT polSo 106 (sn 2047 QV) (WM db n cap a b p (.func 69 [] [.q xb]) (.n i) (.n j)) H .ret (Ja (.c db n cap) (.n a) (.n b) (.n p) (.func 69 [] [.q xb]) (.n j) (.bool false) (.n i) (.n j)) H1 :=
 hx N 60 [jO 21 6 H g0,jO 21 7 H g1,jO 21 10 H g2,jO 21 11 H g3,jO 21 12 H g4,jS 21 13 g5,jO 21 14 H0 g6,jS 21 15 g7]
end
section
variable {xb:Nat}
noncomputable def W8:Code:=Try.f105.body.getD .skip
abbrev VJ (v0 v1 v2 v3 v4 v10 v11 v12:HV):Env:=[(0,v0),(1,v1),(2,v2),(3,v3),(4,v4),(10,v10),(11,v11),(12,v12)]
end
abbrev Ka (db:Nat) (n:Nat) (cap:Option Nat) (a:Nat) (b:Nat) (p:Nat) (u4 u6 u7:HV):Env:=VJ (.c db n cap) (.n a) (.n b) (.n p) u4 (.i 0) u6 u7
section
variable {xb:Nat}
variable (N:Nat) (db n:Nat) (cap:Option Nat) (H:Heap) (x:Nat) (a:Nat) (b:Nat) (p:Nat)
include N db n cap H x a b p
theorem QlO:RT polSo 105 (sn 2 W8) [(0,.c db n cap),(1,.n a),(2,.n b),(3,.n p),(4,.func 69 [] [.q xb])] H .normal (Ka db n cap a b p (.func 69 [] [.q xb]) Ud Ud) H :=
 hx N 60 []
end
section
variable {xb:Nat}
variable (N:Nat) (db n:Nat) (cap:Option Nat) (H:Heap) (x:Nat) (a:Nat) (b:Nat) (p:Nat)
include N db n cap H x a b p
theorem QlP {y11 y12:HV} {a0:HV} {v0:HV} {a1:HV} {v1:HV} {a2:HV} {H0:Heap} {a3:HV} {H1:Heap} (g0:IX 24 (.c db n cap) (.n p) (a0)) (g1:LD H 3 (a0) (v0)) (g2:IX 24 (.c db n cap) (.n a) (a1)) (g3:LD H 3 (a1) (v1)) (g4:IX 24 (.c db n cap) (.n a) (a2)) (g5:ST H 3 (a2) (v0) H0) (g6:IX 24 (.c db n cap) (.n p) (a3)) (g7:ST H0 3 (a3) (v1) H1): RT polSo 105 (sn 6 W8) (Ka db n cap a b p (.func 69 [] [.q xb]) y11 y12) H .normal (Ka db n cap a b p (.func 69 [] [.q xb]) y11 y12) H1 :=
 hx N 60 [jO 1 6 H g0,jO 1 7 H g1,jO 1 10 H g2,jO 1 11 H g3,jO 1 12 H g4,jS 1 13 g5,jO 1 14 H0 g6,jS 1 15 g7]
theorem QlQ {y11 y12:HV}: RT polSo 105 (sn 14 W8) (Ka db n cap a b p (.func 69 [] [.q xb]) y11 y12) H .normal (Ka db n cap a b p (.func 69 [] [.q xb]) (.i (qA.wrap ((a:Int)+1))) (.i (qA.wrap ((b:Int)-1)))) H :=
 hx N 60 []
theorem QlR (i:Nat) (j:Nat) {a0:HV} {v0:HV} {a1:HV} {v1:HV} {c0:Int} {H0:Heap} (g0:(i:Int)≤(j:Int)) (g1:IX 24 (.c db n cap) (.n a) (a0)) (g2:LD H 3 (a0) (v0)) (g3:IX 24 (.c db n cap) (.n i) (a1)) (g4:LD H 3 (a1) (v1)) (g5:∀kf,N≤kf→Qc Tp polSo (kf+1) 69 [v0,v1,.q xb] H=some (.i c0,H0)) (g6:c0<0): RT polSo 105 (sn 1920 W8) (Ka db n cap a b p (.func 69 [] [.q xb]) (.n i) (.n j)) H (.exit 2) (Ka db n cap a b p (.func 69 [] [.q xb]) (.n i) (.n j)) H0 :=
 hx N 60 [jT 3 2 H g0,jO 3 7 H g1,jO 3 8 H g2,jO 3 11 H g3,jO 3 12 H g4,jC 3 13 g5,jT 3 14 H0 g6]
theorem QlS (i:Nat) (j:Nat) {a0:HV} {v0:HV} {a1:HV} {v1:HV} {c0:Int} {H0:Heap} (g0:(i:Int)≤(j:Int)) (g1:IX 24 (.c db n cap) (.n a) (a0)) (g2:LD H 3 (a0) (v0)) (g3:IX 24 (.c db n cap) (.n i) (a1)) (g4:LD H 3 (a1) (v1)) (g5:∀kf,N≤kf→Qc Tp polSo (kf+1) 69 [v0,v1,.q xb] H=some (.i c0,H0)) (g6:¬(c0<0)): RT polSo 105 (sn 1920 W8) (Ka db n cap a b p (.func 69 [] [.q xb]) (.n i) (.n j)) H .normal (Ka db n cap a b p (.func 69 [] [.q xb]) (.i (qA.wrap ((i:Int)+1))) (.n j)) H0 :=
 hx N 60 [jT 3 2 H g0,jO 3 7 H g1,jO 3 8 H g2,jO 3 11 H g3,jO 3 12 H g4,jC 3 13 g5,jF 3 14 H0 g6]
theorem QeB (i:Nat) (j:Nat) (g0:¬((i:Int)≤(j:Int))): RT polSo 105 (sn 1920 W8) (Ka db n cap a b p (.func 69 [] [.q xb]) (.n i) (.n j)) H (.exit 2) (Ka db n cap a b p (.func 69 [] [.q xb]) (.n i) (.n j)) H :=
 hx N 60 [jF 3 2 H g0]
theorem QlT (i:Nat) (j:Nat) {a0:HV} {v0:HV} {a1:HV} {v1:HV} {c0:Int} {H0:Heap} (g0:(i:Int)≤(j:Int)) (g1:IX 24 (.c db n cap) (.n a) (a0)) (g2:LD H 3 (a0) (v0)) (g3:IX 24 (.c db n cap) (.n j) (a1)) (g4:LD H 3 (a1) (v1)) (g5:∀kf,N≤kf→Qc Tp polSo (kf+1) 69 [v0,v1,.q xb] H=some (.i c0,H0)) (g6:c0<0): RT polSo 105 (sn 3848 W8) (Ka db n cap a b p (.func 69 [] [.q xb]) (.n i) (.n j)) H .normal (Ka db n cap a b p (.func 69 [] [.q xb]) (.n i) (.i (qA.wrap ((j:Int)-1)))) H0 :=
 hx N 60 [jT 5 2 H g0,jO 5 7 H g1,jO 5 8 H g2,jO 5 11 H g3,jO 5 12 H g4,jC 5 13 g5,jT 5 14 H0 g6]
theorem QlU (i:Nat) (j:Nat) {a0:HV} {v0:HV} {a1:HV} {v1:HV} {c0:Int} {H0:Heap} (g0:(i:Int)≤(j:Int)) (g1:IX 24 (.c db n cap) (.n a) (a0)) (g2:LD H 3 (a0) (v0)) (g3:IX 24 (.c db n cap) (.n j) (a1)) (g4:LD H 3 (a1) (v1)) (g5:∀kf,N≤kf→Qc Tp polSo (kf+1) 69 [v0,v1,.q xb] H=some (.i c0,H0)) (g6:¬(c0<0)): RT polSo 105 (sn 3848 W8) (Ka db n cap a b p (.func 69 [] [.q xb]) (.n i) (.n j)) H (.exit 4) (Ka db n cap a b p (.func 69 [] [.q xb]) (.n i) (.n j)) H0 :=
 hx N 60 [jT 5 2 H g0,jO 5 7 H g1,jO 5 8 H g2,jO 5 11 H g3,jO 5 12 H g4,jC 5 13 g5,jF 5 14 H0 g6]
theorem QeC (i:Nat) (j:Nat) (g0:¬((i:Int)≤(j:Int))): RT polSo 105 (sn 3848 W8) (Ka db n cap a b p (.func 69 [] [.q xb]) (.n i) (.n j)) H (.exit 4) (Ka db n cap a b p (.func 69 [] [.q xb]) (.n i) (.n j)) H :=
 hx N 60 [jF 5 2 H g0]
theorem QeD (i:Nat) (j:Nat) (g0:(j:Int)<(i:Int)): RT polSo 105 (sn 963 W8) (Ka db n cap a b p (.func 69 [] [.q xb]) (.n i) (.n j)) H (.exit 0) (Ka db n cap a b p (.func 69 [] [.q xb]) (.n i) (.n j)) H :=
 hx N 60 [jT 7 2 H g0]
theorem QlV (i:Nat) (j:Nat) {a0:HV} {v0:HV} {a1:HV} {v1:HV} {a2:HV} {H0:Heap} {a3:HV} {H1:Heap} (g0:¬((j:Int)<(i:Int))) (g1:IX 24 (.c db n cap) (.n j) (a0)) (g2:LD H 3 (a0) (v0)) (g3:IX 24 (.c db n cap) (.n i) (a1)) (g4:LD H 3 (a1) (v1)) (g5:IX 24 (.c db n cap) (.n i) (a2)) (g6:ST H 3 (a2) (v0) H0) (g7:IX 24 (.c db n cap) (.n j) (a3)) (g8:ST H0 3 (a3) (v1) H1): RT polSo 105 (sn 963 W8) (Ka db n cap a b p (.func 69 [] [.q xb]) (.n i) (.n j)) H .normal (Ka db n cap a b p (.func 69 [] [.q xb]) (.i (qA.wrap ((i:Int)+1))) (.i (qA.wrap ((j:Int)-1)))) H1 :=
 hx N 60 [jF 7 2 H g0,jO 8 6 H g1,jO 8 7 H g2,jO 8 10 H g3,jO 8 11 H g4,jO 8 12 H g5,jS 8 13 g6,jO 8 14 H0 g7,jS 8 15 g8]
theorem QlW (i:Nat) (j:Nat): RT polSo 105 (sn 31 W8) (Ka db n cap a b p (.func 69 [] [.q xb]) (.n i) (.n j)) H .ret (VJ (.c db n cap) (.n a) (.n b) (.n p) (.func 69 [] [.q xb]) (.n i) (.n i) (.n j)) H :=
 hx N 60 []
end
section
variable {xb:Nat}
noncomputable def QD:Code:=Try.f104.body.getD .skip
abbrev Wo (v0 v1 v2 v3 v8 v9 v10 v11 v12:HV):Env:=[(0,v0),(1,v1),(2,v2),(3,v3),(8,v8),(9,v9),(10,v10),(11,v11),(12,v12)]
end
abbrev WV (db:Nat) (n:Nat) (cap:Option Nat) (a:Nat) (b:Nat) (i:Nat) (k:Nat) (u3 u7 u8:HV):Env:=Wo (.c db n cap) (.n a) (.n b) u3 (.bool false) (.n i) (.n k) u7 u8
section
variable {xb:Nat}
variable (N:Nat) (db n:Nat) (cap:Option Nat) (H:Heap) (x:Nat) (a:Nat) (b:Nat)
include N db n cap H x a b
theorem QlX:RT polSo 104 (sn 2 QD) [(0,.c db n cap),(1,.n a),(2,.n b),(3,.func 69 [] [.q xb])] H .normal (Wo (.c db n cap) (.n a) (.n b) (.func 69 [] [.q xb]) (.bool false) Ud Ud Ud Ud) H :=
 hx N 60 []
end
section
variable {xb:Nat}
variable (N:Nat) (db n:Nat) (cap:Option Nat) (H:Heap) (x:Nat) (a:Nat) (b:Nat)
include N db n cap H x a b
theorem QlY {y9 y10 y11 y12:HV}: RT polSo 104 (sn 6 QD) (Wo (.c db n cap) (.n a) (.n b) (.func 69 [] [.q xb]) (.bool false) y9 y10 y11 y12) H .normal (Wo (.c db n cap) (.n a) (.n b) (.func 69 [] [.q xb]) (.bool false) (.i (qA.wrap ((a:Int)+1))) y10 y11 y12) H :=
 hx N 60 []
theorem QlZ (i:Nat) {y10 y11 y12:HV}: RT polSo 104 (sn 28 QD) (Wo (.c db n cap) (.n a) (.n b) (.func 69 [] [.q xb]) (.bool false) (.n i) y10 y11 y12) H .normal (Wo (.c db n cap) (.n a) (.n b) (.func 69 [] [.q xb]) (.bool false) (.n i) (.i 0) y11 y12) H :=
 hx N 60 []
theorem Ql0 (i:Nat) (k:Nat) {y11 y12:HV} (g0:(k:Int)<5): RT polSo 104 (sn 232 QD) (WV db n cap a b i k (.func 69 [] [.q xb]) y11 y12) H .normal (WV db n cap a b i k (.func 69 [] [.q xb]) y11 y12) H :=
 hx N 60 [jT 3 1 H g0]
theorem Ql1 (i:Nat) (k:Nat) {y11 y12:HV} (g0:¬((k:Int)<5)): RT polSo 104 (sn 232 QD) (WV db n cap a b i k (.func 69 [] [.q xb]) y11 y12) H (.exit 0) (WV db n cap a b i k (.func 69 [] [.q xb]) y11 y12) H :=
 hx N 60 [jF 3 1 H g0]
theorem Ql2 (i:Nat) (k:Nat) {y11 y12:HV} {a0:HV} {v0:HV} {a1:HV} {v1:HV} {c0:Int} {H0:Heap} (g0:(i:Int)<(b:Int)) (g1:IX 24 (.c db n cap) (.n i) (a0)) (g2:LD H 3 (a0) (v0)) (g3:IX 24 (.c db n cap) (.i (qA.wrap ((i:Int)-1))) (a1)) (g4:LD H 3 (a1) (v1)) (g5:∀kf,N≤kf→Qc Tp polSo (kf+1) 69 [v0,v1,.q xb] H=some (.i c0,H0)) (g6:c0<0): RT polSo 104 (sn 7456 QD) (WV db n cap a b i k (.func 69 [] [.q xb]) y11 y12) H (.exit 2) (WV db n cap a b i k (.func 69 [] [.q xb]) y11 y12) H0 :=
 hx N 60 [jT 5 2 H g0,jO 5 7 H g1,jO 5 8 H g2,jO 5 12 H g3,jO 5 13 H g4,jC 5 14 g5,jT 5 15 H0 g6]
theorem Ql3 (i:Nat) (k:Nat) {y11 y12:HV} {a0:HV} {v0:HV} {a1:HV} {v1:HV} {c0:Int} {H0:Heap} (g0:(i:Int)<(b:Int)) (g1:IX 24 (.c db n cap) (.n i) (a0)) (g2:LD H 3 (a0) (v0)) (g3:IX 24 (.c db n cap) (.i (qA.wrap ((i:Int)-1))) (a1)) (g4:LD H 3 (a1) (v1)) (g5:∀kf,N≤kf→Qc Tp polSo (kf+1) 69 [v0,v1,.q xb] H=some (.i c0,H0)) (g6:¬(c0<0)): RT polSo 104 (sn 7456 QD) (WV db n cap a b i k (.func 69 [] [.q xb]) y11 y12) H .normal (Wo (.c db n cap) (.n a) (.n b) (.func 69 [] [.q xb]) (.bool false) (.i (qA.wrap ((i:Int)+1))) (.n k) y11 y12) H0 :=
 hx N 60 [jT 5 2 H g0,jO 5 7 H g1,jO 5 8 H g2,jO 5 12 H g3,jO 5 13 H g4,jC 5 14 g5,jF 5 15 H0 g6]
theorem QeE (i:Nat) (k:Nat) {y11 y12:HV} (g0:¬((i:Int)<(b:Int))): RT polSo 104 (sn 7456 QD) (WV db n cap a b i k (.func 69 [] [.q xb]) y11 y12) H (.exit 2) (WV db n cap a b i k (.func 69 [] [.q xb]) y11 y12) H :=
 hx N 60 [jF 5 2 H g0]
theorem Ql4 (i:Nat) (k:Nat) {y11 y12:HV} (g0:(i:Int)=(b:Int)): RT polSo 104 (sn 3730 QD) (WV db n cap a b i k (.func 69 [] [.q xb]) y11 y12) H .ret (Wo (.c db n cap) (.n a) (.n b) (.func 69 [] [.q xb]) (.bool true) (.n i) (.n k) y11 y12) H :=
 hx N 60 [jT 7 2 H g0]
theorem Ql5 (i:Nat) (k:Nat) {y11 y12:HV} (g0:¬((i:Int)=(b:Int))): RT polSo 104 (sn 3730 QD) (WV db n cap a b i k (.func 69 [] [.q xb]) y11 y12) H .normal (WV db n cap a b i k (.func 69 [] [.q xb]) y11 y12) H :=
 hx N 60 [jF 7 2 H g0]
theorem Ql6 (i:Nat) (k:Nat) {y11 y12:HV} (g0:qA.wrap ((b:Int)-(a:Int))<50): RT polSo 104 (sn 7462 QD) (WV db n cap a b i k (.func 69 [] [.q xb]) y11 y12) H .ret (WV db n cap a b i k (.func 69 [] [.q xb]) y11 y12) H :=
 hx N 60 [jT 9 3 H g0]
theorem Ql7 (i:Nat) (k:Nat) {y11 y12:HV} (g0:¬(qA.wrap ((b:Int)-(a:Int))<50)): RT polSo 104 (sn 7462 QD) (WV db n cap a b i k (.func 69 [] [.q xb]) y11 y12) H .normal (WV db n cap a b i k (.func 69 [] [.q xb]) y11 y12) H :=
 hx N 60 [jF 9 3 H g0]
theorem Ql8 (i:Nat) (k:Nat) {y11 y12:HV} {a0:HV} {v0:HV} {a1:HV} {v1:HV} {a2:HV} {H0:Heap} {a3:HV} {H1:Heap} (g0:IX 24 (.c db n cap) (.i (qA.wrap ((i:Int)-1))) (a0)) (g1:LD H 3 (a0) (v0)) (g2:IX 24 (.c db n cap) (.n i) (a1)) (g3:LD H 3 (a1) (v1)) (g4:IX 24 (.c db n cap) (.n i) (a2)) (g5:ST H 3 (a2) (v0) H0) (g6:IX 24 (.c db n cap) (.i (qA.wrap ((i:Int)-1))) (a3)) (g7:ST H0 3 (a3) (v1) H1): RT polSo 104 (sn 14926 QD) (WV db n cap a b i k (.func 69 [] [.q xb]) y11 y12) H .normal (WV db n cap a b i k (.func 69 [] [.q xb]) y11 y12) H1 :=
 hx N 60 [jO 11 8 H g0,jO 11 9 H g1,jO 11 12 H g2,jO 11 13 H g3,jO 11 14 H g4,jS 11 15 g5,jO 11 16 H0 g6,jS 11 17 g7]
theorem Ql9 (i:Nat) (k:Nat) {y11 y12:HV} (g0:2≤qA.wrap ((i:Int)-(a:Int))): RunsTo Tp polSo 104 (sn 59708 QD) (WV db n cap a b i k (.func 69 [] [.q xb]) y11 y12) H .normal [0,1,2,3,8,9,10,11,12,65] [(0,.c db n cap),(1,.n a),(2,.n b),(3,.func 69 [] [.q xb]),(8,.bool false),(9,.n i),(10,.n k),(11,y11),(12,y12),(65,.bool true)] H :=
 hx N 60 [jT 12 3 H g0]
theorem Qma (i:Nat) (k:Nat) {y11 y12:HV} (g0:¬(2≤qA.wrap ((i:Int)-(a:Int)))): RunsTo Tp polSo 104 (sn 59708 QD) (WV db n cap a b i k (.func 69 [] [.q xb]) y11 y12) H .normal [0,1,2,3,8,9,10,11,12,65] [(0,.c db n cap),(1,.n a),(2,.n b),(3,.func 69 [] [.q xb]),(8,.bool false),(9,.n i),(10,.n k),(11,y11),(12,y12),(65,.bool false)] H :=
 hx N 60 [jF 12 3 H g0]
theorem Qmb (i:Nat) (k:Nat) {y11 y12:HV}: RT polSo 104 (sn 238836 QD) (WV db n cap a b i k (.func 69 [] [.q xb]) y11 y12) H .normal (WV db n cap a b i k (.func 69 [] [.q xb]) (.i (qA.wrap ((i:Int)-1))) y12) H :=
 hx N 60 []
theorem Qmc (i:Nat) (k:Nat) (j:Nat) {y12:HV} {a0:HV} {v0:HV} {a1:HV} {v1:HV} {c0:Int} {H0:Heap} {a2:HV} {v2:HV} {a3:HV} {v3:HV} {a4:HV} {H1:Heap} {a5:HV} {H2:Heap} (g0:1≤(j:Int)) (g1:IX 24 (.c db n cap) (.n j) (a0)) (g2:LD H 3 (a0) (v0)) (g3:IX 24 (.c db n cap) (.i (qA.wrap ((j:Int)-1))) (a1)) (g4:LD H 3 (a1) (v1)) (g5:∀kf,N≤kf→Qc Tp polSo (kf+1) 69 [v0,v1,.q xb] H=some (.i c0,H0)) (g6:c0<0) (g7:IX 24 (.c db n cap) (.i (qA.wrap ((j:Int)-1))) (a2)) (g8:LD H0 3 (a2) (v2)) (g9:IX 24 (.c db n cap) (.n j) (a3)) (g10:LD H0 3 (a3) (v3)) (g11:IX 24 (.c db n cap) (.n j) (a4)) (g12:ST H0 3 (a4) (v2) H1) (g13:IX 24 (.c db n cap) (.i (qA.wrap ((j:Int)-1))) (a5)) (g14:ST H1 3 (a5) (v3) H2): RT polSo 104 (sn 955348 QD) (WV db n cap a b i k (.func 69 [] [.q xb]) (.n j) y12) H .normal (WV db n cap a b i k (.func 69 [] [.q xb]) (.i (qA.wrap ((j:Int)-1))) y12) H2 :=
 hx N 60 [jT 14 1 H g0,jO 16 3 H g1,jO 16 4 H g2,jO 16 8 H g3,jO 16 9 H g4,jC 16 10 g5,jT 16 11 H0 g6,jO 17 8 H0 g7,jO 17 9 H0 g8,jO 17 12 H0 g9,jO 17 13 H0 g10,jO 17 14 H0 g11,jS 17 15 g12,jO 17 16 H1 g13,jS 17 17 g14]
theorem Qmd (i:Nat) (k:Nat) (j:Nat) {y12:HV} {a0:HV} {v0:HV} {a1:HV} {v1:HV} {c0:Int} {H0:Heap} (g0:1≤(j:Int)) (g1:IX 24 (.c db n cap) (.n j) (a0)) (g2:LD H 3 (a0) (v0)) (g3:IX 24 (.c db n cap) (.i (qA.wrap ((j:Int)-1))) (a1)) (g4:LD H 3 (a1) (v1)) (g5:∀kf,N≤kf→Qc Tp polSo (kf+1) 69 [v0,v1,.q xb] H=some (.i c0,H0)) (g6:¬(c0<0)): RT polSo 104 (sn 955348 QD) (WV db n cap a b i k (.func 69 [] [.q xb]) (.n j) y12) H (.exit 4) (WV db n cap a b i k (.func 69 [] [.q xb]) (.n j) y12) H0 :=
 hx N 60 [jT 14 1 H g0,jO 16 3 H g1,jO 16 4 H g2,jO 16 8 H g3,jO 16 9 H g4,jC 16 10 g5,jF 16 11 H0 g6]
theorem Qme (i:Nat) (k:Nat) (j:Nat) {y12:HV} (g0:¬(1≤(j:Int))): RT polSo 104 (sn 955348 QD) (WV db n cap a b i k (.func 69 [] [.q xb]) (.n j) y12) H (.exit 4) (WV db n cap a b i k (.func 69 [] [.q xb]) (.n j) y12) H :=
 hx N 60 [jF 14 1 H g0]
theorem Qmf (i:Nat) (k:Nat) {y11 y12:HV} (g0:2≤qA.wrap ((b:Int)-(i:Int))): RunsTo Tp polSo 104 (sn 59710 QD) (WV db n cap a b i k (.func 69 [] [.q xb]) y11 y12) H .normal [0,1,2,3,8,9,10,11,12,104] [(0,.c db n cap),(1,.n a),(2,.n b),(3,.func 69 [] [.q xb]),(8,.bool false),(9,.n i),(10,.n k),(11,y11),(12,y12),(104,.bool true)] H :=
 hx N 60 [jT 18 3 H g0]
theorem Qmg (i:Nat) (k:Nat) {y11 y12:HV} (g0:¬(2≤qA.wrap ((b:Int)-(i:Int)))): RunsTo Tp polSo 104 (sn 59710 QD) (WV db n cap a b i k (.func 69 [] [.q xb]) y11 y12) H .normal [0,1,2,3,8,9,10,11,12,104] [(0,.c db n cap),(1,.n a),(2,.n b),(3,.func 69 [] [.q xb]),(8,.bool false),(9,.n i),(10,.n k),(11,y11),(12,y12),(104,.bool false)] H :=
 hx N 60 [jF 18 3 H g0]
theorem Qmh (i:Nat) (k:Nat) {y11 y12:HV}: RT polSo 104 (sn 238844 QD) (WV db n cap a b i k (.func 69 [] [.q xb]) y11 y12) H .normal (WV db n cap a b i k (.func 69 [] [.q xb]) y11 (.i (qA.wrap ((i:Int)+1)))) H :=
 hx N 60 []
theorem Qmi (i:Nat) (k:Nat) (w:Nat) {y11:HV} {a0:HV} {v0:HV} {a1:HV} {v1:HV} {c0:Int} {H0:Heap} {a2:HV} {v2:HV} {a3:HV} {v3:HV} {a4:HV} {H1:Heap} {a5:HV} {H2:Heap} (g0:(w:Int)<(b:Int)) (g1:IX 24 (.c db n cap) (.n w) (a0)) (g2:LD H 3 (a0) (v0)) (g3:IX 24 (.c db n cap) (.i (qA.wrap ((w:Int)-1))) (a1)) (g4:LD H 3 (a1) (v1)) (g5:∀kf,N≤kf→Qc Tp polSo (kf+1) 69 [v0,v1,.q xb] H=some (.i c0,H0)) (g6:c0<0) (g7:IX 24 (.c db n cap) (.i (qA.wrap ((w:Int)-1))) (a2)) (g8:LD H0 3 (a2) (v2)) (g9:IX 24 (.c db n cap) (.n w) (a3)) (g10:LD H0 3 (a3) (v3)) (g11:IX 24 (.c db n cap) (.n w) (a4)) (g12:ST H0 3 (a4) (v2) H1) (g13:IX 24 (.c db n cap) (.i (qA.wrap ((w:Int)-1))) (a5)) (g14:ST H1 3 (a5) (v3) H2): RT polSo 104 (sn 955380 QD) (WV db n cap a b i k (.func 69 [] [.q xb]) y11 (.n w)) H .normal (WV db n cap a b i k (.func 69 [] [.q xb]) y11 (.i (qA.wrap ((w:Int)+1)))) H2 :=
 hx N 60 [jT 20 2 H g0,jO 22 3 H g1,jO 22 4 H g2,jO 22 8 H g3,jO 22 9 H g4,jC 22 10 g5,jT 22 11 H0 g6,jO 23 8 H0 g7,jO 23 9 H0 g8,jO 23 12 H0 g9,jO 23 13 H0 g10,jO 23 14 H0 g11,jS 23 15 g12,jO 23 16 H1 g13,jS 23 17 g14]
theorem Qmj (i:Nat) (k:Nat) (w:Nat) {y11:HV} {a0:HV} {v0:HV} {a1:HV} {v1:HV} {c0:Int} {H0:Heap} (g0:(w:Int)<(b:Int)) (g1:IX 24 (.c db n cap) (.n w) (a0)) (g2:LD H 3 (a0) (v0)) (g3:IX 24 (.c db n cap) (.i (qA.wrap ((w:Int)-1))) (a1)) (g4:LD H 3 (a1) (v1)) (g5:∀kf,N≤kf→Qc Tp polSo (kf+1) 69 [v0,v1,.q xb] H=some (.i c0,H0)) (g6:¬(c0<0)): RT polSo 104 (sn 955380 QD) (WV db n cap a b i k (.func 69 [] [.q xb]) y11 (.n w)) H (.exit 6) (WV db n cap a b i k (.func 69 [] [.q xb]) y11 (.n w)) H0 :=
 hx N 60 [jT 20 2 H g0,jO 22 3 H g1,jO 22 4 H g2,jO 22 8 H g3,jO 22 9 H g4,jC 22 10 g5,jF 22 11 H0 g6]
theorem QeF (i:Nat) (k:Nat) (w:Nat) {y11:HV} (g0:¬((w:Int)<(b:Int))): RT polSo 104 (sn 955380 QD) (WV db n cap a b i k (.func 69 [] [.q xb]) y11 (.n w)) H (.exit 6) (WV db n cap a b i k (.func 69 [] [.q xb]) y11 (.n w)) H :=
 hx N 60 [jF 20 2 H g0]
theorem Qmk (i:Nat) (k:Nat) {y11 y12:HV}: RT polSo 104 (sn 467 QD) (WV db n cap a b i k (.func 69 [] [.q xb]) y11 y12) H .normal (Wo (.c db n cap) (.n a) (.n b) (.func 69 [] [.q xb]) (.bool false) (.n i) (.i (qA.wrap ((k:Int)+1))) y11 y12) H :=
 hx N 60 []
theorem Qml (i:Nat) (k:Nat) {y11 y12:HV}: RT polSo 104 (sn 15 QD) (WV db n cap a b i k (.func 69 [] [.q xb]) y11 y12) H .ret (WV db n cap a b i k (.func 69 [] [.q xb]) y11 y12) H :=
 hx N 60 []
end
end Go.Proofs.Ytiejmoglooaalaa
end
section
open Go Go.HL Go.HL.So
namespace Go.Proofs.Ytiejmoglooaalaa
set_option linter.unusedSectionVars false
open Go.Proofs.Try renaming prog → Tp
open Go.HL.HV renaming undef → Ud
section
variable {xb:Nat} {α:Type} [Inhabited α] {enc:α→HV} {lt:α→α→Prop} {dom:α→Prop} {H:Heap} {db n:Nat} {cap:Option Nat}
theorem pt1 (S:So xb enc lt dom H db n) {T:Heap} (hT:mxs T=0) {a b p j:Nat} {l:List α} (hl:l.length=n) (hD:Dm dom l):∀(d i:Nat),j+1-i≤d→a<i→i≤j+1→j<n →
  ∃i':Nat,RT polSo 106 (sn 60 QV) (Ja (.sl db 0 n cap n 1) (.i (a:Int)) (.i (b:Int)) (.i (p:Int)) (.func 69 [] [.q xb]) (.i 0) (.bool false) (.i (i:Int)) (.i (j:Int))) (Mm enc H db l T) (.exit 0) (Ja (.sl db 0 n cap n 1) (.i (a:Int)) (.i (b:Int)) (.i (p:Int)) (.func 69 [] [.q xb]) (.i 0) (.bool false) (.i (i':Int)) (.i (j:Int))) (Mm enc H db l T)∧i≤i'∧i'≤j+1∧(∀k:Nat,i≤k→k<i'→lt (at_ l k) (at_ l a))∧(j<i'∨¬lt (at_ l i') (at_ l a)):=by
 have hn:=S.nb
 intro d
 induction d with
 | zero =>
  intro i hd hi1 hi2 hj
  exact ⟨i,lpo (Qew (xb:=xb) 0 db n cap (Mm enc H db l T) 0 a b p i j (by omega)),qB _,by omega,fun k h1 h2=>by omega,.inl (by omega)⟩
 | succ d ih =>
  intro i hd hi1 hi2 hj
  by_cases c0:i≤j
  ·by_cases c:lt (at_ l i) (at_ l a)
   ·obtain ⟨cc,N,hN,hc⟩:=S.ct (T:=T) hl hT (hD.at (i:=i) (by omega)) (hD.at (i:=a) (by omega)) c
    have st:=Qlz (xb:=xb) N db n cap (Mm enc H db l T) 0 a b p i j (by omega) (ixs (i:=i) rfl (by omega)) (S.ld l T i hl (by omega)) (ixs (i:=a) rfl (by omega)) (S.ld l T a hl (by omega)) hN hc
    rw [Qi (by omega)] at st
    obtain ⟨i',r,q1,q2,q3,q4⟩:=ih (i+1) (by omega) (by omega) (by omega) hj
    exact ⟨i',lop (st) (gcM _ _ _ _ _ rfl) (r),by omega,q2,fun k h1 h2=>by
     by_cases e:k=i
     ·subst e;exact c
     ·exact q3 k (by omega) h2,q4⟩
   ·have c':¬lt (at_ l i) (at_ l a):=c
    obtain ⟨cc,N,hN,hc⟩:=S.cf (T:=T) hl hT (hD.at (i:=i) (by omega)) (hD.at (i:=a) (by omega)) c'
    have st:=QlA (xb:=xb) N db n cap (Mm enc H db l T) 0 a b p i j (by omega) (ixs (i:=i) rfl (by omega)) (S.ld l T i hl (by omega)) (ixs (i:=a) rfl (by omega)) (S.ld l T a hl (by omega)) hN hc
    exact ⟨i,lpo (st),qB _,by omega,fun k h1 h2=>by omega,Or.inr c'⟩
  ·exact ⟨i,lpo (Qew (xb:=xb) 0 db n cap (Mm enc H db l T) 0 a b p i j (by omega)),qB _,by omega,fun k h1 h2=>by omega,.inl (by omega)⟩
theorem pt2 (S:So xb enc lt dom H db n) {T:Heap} (hT:mxs T=0) {a b p i:Nat} {l:List α} (hl:l.length=n) (hD:Dm dom l):∀(d j:Nat),j+1-i≤d→a<i→i≤j+1→j<n →
  ∃j':Nat,RT polSo 106 (sn 124 QV) (Ja (.sl db 0 n cap n 1) (.i (a:Int)) (.i (b:Int)) (.i (p:Int)) (.func 69 [] [.q xb]) (.i 0) (.bool false) (.i (i:Int)) (.i (j:Int))) (Mm enc H db l T) (.exit 2) (Ja (.sl db 0 n cap n 1) (.i (a:Int)) (.i (b:Int)) (.i (p:Int)) (.func 69 [] [.q xb]) (.i 0) (.bool false) (.i (i:Int)) (.i (j':Int))) (Mm enc H db l T)∧j'≤j∧i≤j'+1∧(∀k:Nat,j'<k→k≤j→¬lt (at_ l k) (at_ l a))∧(j'<i∨lt (at_ l j') (at_ l a)):=by
 have hn:=S.nb
 intro d
 induction d with
 | zero =>
  intro j hd hi1 hi2 hj
  exact ⟨j,lpo (Qex (xb:=xb) 0 db n cap (Mm enc H db l T) 0 a b p i j (by omega)),qB _,by omega,fun k h1 h2=>by omega,.inl (by omega)⟩
 | succ d ih =>
  intro j hd hi1 hi2 hj
  by_cases c0:i≤j
  ·by_cases c:¬lt (at_ l j) (at_ l a)
   ·obtain ⟨cc,N,hN,hc⟩:=S.cf (T:=T) hl hT (hD.at (i:=j) (by omega)) (hD.at (i:=a) (by omega)) c
    have st:=QlC (xb:=xb) N db n cap (Mm enc H db l T) 0 a b p i j (by omega) (ixs (i:=j) rfl (by omega)) (S.ld l T j hl (by omega)) (ixs (i:=a) rfl (by omega)) (S.ld l T a hl (by omega)) hN hc
    rw [QN (by omega) (by omega)] at st
    obtain ⟨j',r,q1,q2,q3,q4⟩:=ih (j-1) (by omega) hi1 (by omega) (by omega)
    exact ⟨j',lop (st) (gcM _ _ _ _ _ rfl) (r),by omega,q2,fun k h1 h2=>by
     by_cases e:k=j
     ·subst e;exact c
     ·exact q3 k h1 (by omega),q4⟩
   ·have c':lt (at_ l j) (at_ l a):=Classical.not_not.1 c
    obtain ⟨cc,N,hN,hc⟩:=S.ct (T:=T) hl hT (hD.at (i:=j) (by omega)) (hD.at (i:=a) (by omega)) c'
    have st:=QlB (xb:=xb) N db n cap (Mm enc H db l T) 0 a b p i j (by omega) (ixs (i:=j) rfl (by omega)) (S.ld l T j hl (by omega)) (ixs (i:=a) rfl (by omega)) (S.ld l T a hl (by omega)) hN hc
    exact ⟨j,lpo (st),qB _,by omega,fun k h1 h2=>by omega,Or.inr c'⟩
  ·exact ⟨j,lpo (Qex (xb:=xb) 0 db n cap (Mm enc H db l T) 0 a b p i j (by omega)),qB _,by omega,fun k h1 h2=>by omega,.inl (by omega)⟩
theorem pt3 (S:So xb enc lt dom H db n) {T:Heap} (hT:mxs T=0) {a b p j:Nat} {l:List α} (hl:l.length=n) (hD:Dm dom l):∀(d i:Nat),j+1-i≤d→a<i→i≤j+1→j<n →
  ∃i':Nat,RT polSo 106 (sn 65472 QV) (Ja (.sl db 0 n cap n 1) (.i (a:Int)) (.i (b:Int)) (.i (p:Int)) (.func 69 [] [.q xb]) (.i 0) (.bool false) (.i (i:Int)) (.i (j:Int))) (Mm enc H db l T) (.exit 6) (Ja (.sl db 0 n cap n 1) (.i (a:Int)) (.i (b:Int)) (.i (p:Int)) (.func 69 [] [.q xb]) (.i 0) (.bool false) (.i (i':Int)) (.i (j:Int))) (Mm enc H db l T)∧i≤i'∧i'≤j+1∧(∀k:Nat,i≤k→k<i'→lt (at_ l k) (at_ l a))∧(j<i'∨¬lt (at_ l i') (at_ l a)):=by
 have hn:=S.nb
 intro d
 induction d with
 | zero =>
  intro i hd hi1 hi2 hj
  exact ⟨i,lpo (Qey (xb:=xb) 0 db n cap (Mm enc H db l T) 0 a b p i j (by omega)),qB _,by omega,fun k h1 h2=>by omega,.inl (by omega)⟩
 | succ d ih =>
  intro i hd hi1 hi2 hj
  by_cases c0:i≤j
  ·by_cases c:lt (at_ l i) (at_ l a)
   ·obtain ⟨cc,N,hN,hc⟩:=S.ct (T:=T) hl hT (hD.at (i:=i) (by omega)) (hD.at (i:=a) (by omega)) c
    have st:=QlI (xb:=xb) N db n cap (Mm enc H db l T) 0 a b p i j (by omega) (ixs (i:=i) rfl (by omega)) (S.ld l T i hl (by omega)) (ixs (i:=a) rfl (by omega)) (S.ld l T a hl (by omega)) hN hc
    rw [Qi (by omega)] at st
    obtain ⟨i',r,q1,q2,q3,q4⟩:=ih (i+1) (by omega) (by omega) (by omega) hj
    exact ⟨i',lop (st) (gcM _ _ _ _ _ rfl) (r),by omega,q2,fun k h1 h2=>by
     by_cases e:k=i
     ·subst e;exact c
     ·exact q3 k (by omega) h2,q4⟩
   ·have c':¬lt (at_ l i) (at_ l a):=c
    obtain ⟨cc,N,hN,hc⟩:=S.cf (T:=T) hl hT (hD.at (i:=i) (by omega)) (hD.at (i:=a) (by omega)) c'
    have st:=QlJ (xb:=xb) N db n cap (Mm enc H db l T) 0 a b p i j (by omega) (ixs (i:=i) rfl (by omega)) (S.ld l T i hl (by omega)) (ixs (i:=a) rfl (by omega)) (S.ld l T a hl (by omega)) hN hc
    exact ⟨i,lpo (st),qB _,by omega,fun k h1 h2=>by omega,Or.inr c'⟩
  ·exact ⟨i,lpo (Qey (xb:=xb) 0 db n cap (Mm enc H db l T) 0 a b p i j (by omega)),qB _,by omega,fun k h1 h2=>by omega,.inl (by omega)⟩
theorem pt4 (S:So xb enc lt dom H db n) {T:Heap} (hT:mxs T=0) {a b p i:Nat} {l:List α} (hl:l.length=n) (hD:Dm dom l):∀(d j:Nat),j+1-i≤d→a<i→i≤j+1→j<n →
  ∃j':Nat,RT polSo 106 (sn 130948 QV) (Ja (.sl db 0 n cap n 1) (.i (a:Int)) (.i (b:Int)) (.i (p:Int)) (.func 69 [] [.q xb]) (.i 0) (.bool false) (.i (i:Int)) (.i (j:Int))) (Mm enc H db l T) (.exit 8) (Ja (.sl db 0 n cap n 1) (.i (a:Int)) (.i (b:Int)) (.i (p:Int)) (.func 69 [] [.q xb]) (.i 0) (.bool false) (.i (i:Int)) (.i (j':Int))) (Mm enc H db l T)∧j'≤j∧i≤j'+1∧(∀k:Nat,j'<k→k≤j→¬lt (at_ l k) (at_ l a))∧(j'<i∨lt (at_ l j') (at_ l a)):=by
 have hn:=S.nb
 intro d
 induction d with
 | zero =>
  intro j hd hi1 hi2 hj
  exact ⟨j,lpo (Qez (xb:=xb) 0 db n cap (Mm enc H db l T) 0 a b p i j (by omega)),qB _,by omega,fun k h1 h2=>by omega,.inl (by omega)⟩
 | succ d ih =>
  intro j hd hi1 hi2 hj
  by_cases c0:i≤j
  ·by_cases c:¬lt (at_ l j) (at_ l a)
   ·obtain ⟨cc,N,hN,hc⟩:=S.cf (T:=T) hl hT (hD.at (i:=j) (by omega)) (hD.at (i:=a) (by omega)) c
    have st:=QlL (xb:=xb) N db n cap (Mm enc H db l T) 0 a b p i j (by omega) (ixs (i:=j) rfl (by omega)) (S.ld l T j hl (by omega)) (ixs (i:=a) rfl (by omega)) (S.ld l T a hl (by omega)) hN hc
    rw [QN (by omega) (by omega)] at st
    obtain ⟨j',r,q1,q2,q3,q4⟩:=ih (j-1) (by omega) hi1 (by omega) (by omega)
    exact ⟨j',lop (st) (gcM _ _ _ _ _ rfl) (r),by omega,q2,fun k h1 h2=>by
     by_cases e:k=j
     ·subst e;exact c
     ·exact q3 k h1 (by omega),q4⟩
   ·have c':lt (at_ l j) (at_ l a):=Classical.not_not.1 c
    obtain ⟨cc,N,hN,hc⟩:=S.ct (T:=T) hl hT (hD.at (i:=j) (by omega)) (hD.at (i:=a) (by omega)) c'
    have st:=QlK (xb:=xb) N db n cap (Mm enc H db l T) 0 a b p i j (by omega) (ixs (i:=j) rfl (by omega)) (S.ld l T j hl (by omega)) (ixs (i:=a) rfl (by omega)) (S.ld l T a hl (by omega)) hN hc
    exact ⟨j,lpo (st),qB _,by omega,fun k h1 h2=>by omega,Or.inr c'⟩
  ·exact ⟨j,lpo (Qez (xb:=xb) 0 db n cap (Mm enc H db l T) 0 a b p i j (by omega)),qB _,by omega,fun k h1 h2=>by omega,.inl (by omega)⟩
theorem pe1 (S:So xb enc lt dom H db n) {T:Heap} (hT:mxs T=0) {a b p j:Nat} {l:List α} (hl:l.length=n) (hD:Dm dom l):∀(d i:Nat),j+1-i≤d→a<i→i≤j+1→j<n →
  ∃i':Nat,RT polSo 105 (sn 960 W8) (VJ (.sl db 0 n cap n 1) (.i (a:Int)) (.i (b:Int)) (.i (p:Int)) (.func 69 [] [.q xb]) (.i 0) (.i (i:Int)) (.i (j:Int))) (Mm enc H db l T) (.exit 2) (VJ (.sl db 0 n cap n 1) (.i (a:Int)) (.i (b:Int)) (.i (p:Int)) (.func 69 [] [.q xb]) (.i 0) (.i (i':Int)) (.i (j:Int))) (Mm enc H db l T)∧i≤i'∧i'≤j+1∧(∀k:Nat,i≤k→k<i'→¬lt (at_ l a) (at_ l k))∧(j<i'∨lt (at_ l a) (at_ l i')):=by
 have hn:=S.nb
 intro d
 induction d with
 | zero =>
  intro i hd hi1 hi2 hj
  exact ⟨i,lpo (QeB (xb:=xb) 0 db n cap (Mm enc H db l T) 0 a b p i j (by omega)),qB _,by omega,fun k h1 h2=>by omega,.inl (by omega)⟩
 | succ d ih =>
  intro i hd hi1 hi2 hj
  by_cases c0:i≤j
  ·by_cases c:¬lt (at_ l a) (at_ l i)
   ·obtain ⟨cc,N,hN,hc⟩:=S.cf (T:=T) hl hT (hD.at (i:=a) (by omega)) (hD.at (i:=i) (by omega)) c
    have st:=QlS (xb:=xb) N db n cap (Mm enc H db l T) 0 a b p i j (by omega) (ixs (i:=a) rfl (by omega)) (S.ld l T a hl (by omega)) (ixs (i:=i) rfl (by omega)) (S.ld l T i hl (by omega)) hN hc
    rw [Qi (by omega)] at st
    obtain ⟨i',r,q1,q2,q3,q4⟩:=ih (i+1) (by omega) (by omega) (by omega) hj
    exact ⟨i',lop (st) (gcM _ _ _ _ _ rfl) (r),by omega,q2,fun k h1 h2=>by
     by_cases e:k=i
     ·subst e;exact c
     ·exact q3 k (by omega) h2,q4⟩
   ·have c':lt (at_ l a) (at_ l i):=Classical.not_not.1 c
    obtain ⟨cc,N,hN,hc⟩:=S.ct (T:=T) hl hT (hD.at (i:=a) (by omega)) (hD.at (i:=i) (by omega)) c'
    have st:=QlR (xb:=xb) N db n cap (Mm enc H db l T) 0 a b p i j (by omega) (ixs (i:=a) rfl (by omega)) (S.ld l T a hl (by omega)) (ixs (i:=i) rfl (by omega)) (S.ld l T i hl (by omega)) hN hc
    exact ⟨i,lpo (st),qB _,by omega,fun k h1 h2=>by omega,Or.inr c'⟩
  ·exact ⟨i,lpo (QeB (xb:=xb) 0 db n cap (Mm enc H db l T) 0 a b p i j (by omega)),qB _,by omega,fun k h1 h2=>by omega,.inl (by omega)⟩
theorem pe2 (S:So xb enc lt dom H db n) {T:Heap} (hT:mxs T=0) {a b p i:Nat} {l:List α} (hl:l.length=n) (hD:Dm dom l):∀(d j:Nat),j+1-i≤d→a<i→i≤j+1→j<n →
  ∃j':Nat,RT polSo 105 (sn 1924 W8) (VJ (.sl db 0 n cap n 1) (.i (a:Int)) (.i (b:Int)) (.i (p:Int)) (.func 69 [] [.q xb]) (.i 0) (.i (i:Int)) (.i (j:Int))) (Mm enc H db l T) (.exit 4) (VJ (.sl db 0 n cap n 1) (.i (a:Int)) (.i (b:Int)) (.i (p:Int)) (.func 69 [] [.q xb]) (.i 0) (.i (i:Int)) (.i (j':Int))) (Mm enc H db l T)∧j'≤j∧i≤j'+1∧(∀k:Nat,j'<k→k≤j→lt (at_ l a) (at_ l k))∧(j'<i∨¬lt (at_ l a) (at_ l j')):=by
 have hn:=S.nb
 intro d
 induction d with
 | zero =>
  intro j hd hi1 hi2 hj
  exact ⟨j,lpo (QeC (xb:=xb) 0 db n cap (Mm enc H db l T) 0 a b p i j (by omega)),qB _,by omega,fun k h1 h2=>by omega,.inl (by omega)⟩
 | succ d ih =>
  intro j hd hi1 hi2 hj
  by_cases c0:i≤j
  ·by_cases c:lt (at_ l a) (at_ l j)
   ·obtain ⟨cc,N,hN,hc⟩:=S.ct (T:=T) hl hT (hD.at (i:=a) (by omega)) (hD.at (i:=j) (by omega)) c
    have st:=QlT (xb:=xb) N db n cap (Mm enc H db l T) 0 a b p i j (by omega) (ixs (i:=a) rfl (by omega)) (S.ld l T a hl (by omega)) (ixs (i:=j) rfl (by omega)) (S.ld l T j hl (by omega)) hN hc
    rw [QN (by omega) (by omega)] at st
    obtain ⟨j',r,q1,q2,q3,q4⟩:=ih (j-1) (by omega) hi1 (by omega) (by omega)
    exact ⟨j',lop (st) (gcM _ _ _ _ _ rfl) (r),by omega,q2,fun k h1 h2=>by
     by_cases e:k=j
     ·subst e;exact c
     ·exact q3 k h1 (by omega),q4⟩
   ·have c':¬lt (at_ l a) (at_ l j):=c
    obtain ⟨cc,N,hN,hc⟩:=S.cf (T:=T) hl hT (hD.at (i:=a) (by omega)) (hD.at (i:=j) (by omega)) c'
    have st:=QlU (xb:=xb) N db n cap (Mm enc H db l T) 0 a b p i j (by omega) (ixs (i:=a) rfl (by omega)) (S.ld l T a hl (by omega)) (ixs (i:=j) rfl (by omega)) (S.ld l T j hl (by omega)) hN hc
    exact ⟨j,lpo (st),qB _,by omega,fun k h1 h2=>by omega,Or.inr c'⟩
  ·exact ⟨j,lpo (QeC (xb:=xb) 0 db n cap (Mm enc H db l T) 0 a b p i j (by omega)),qB _,by omega,fun k h1 h2=>by omega,.inl (by omega)⟩
theorem Du {l:List α} {i j a:Nat} (hi:i<l.length) (hj:j<l.length) (h1:a≠i) (h2:a≠j):at_ (swp l i j) a=at_ l a:=by rw [ZF hi hj,if_neg h2,if_neg h1]
def PI (lt:α→α→Prop) (a b i j:Nat) (l:List α):Prop:=(a<i∧i≤j+1∧a≤j∧j<b)∧(∀k,a<k→k<i→lt (at_ l k) (at_ l a))∧∀k,j<k→k<b→¬lt (at_ l k) (at_ l a)
theorem PI.scan {a b i j i' j':Nat} {l:List α} (h:PI lt a b i j l) (h1:i≤i') (h2:i'≤j+1) (h3:∀k,i≤k→k<i'→lt (at_ l k) (at_ l a)) (h4:j'≤j) (h5:i'≤j'+1) (h6:∀k,j'<k→k≤j→¬lt (at_ l k) (at_ l a)):PI lt a b i' j' l:=by
 obtain ⟨p1,p2,p3⟩:=h
 refine ⟨by omega,fun k q1 q2=>?_,fun k q1 q2=>?_⟩
 ·by_cases c:k<i
  ·exact p2 k q1 c
  ·exact h3 k (by omega) q2
 ·by_cases c:j<k
  ·exact p3 k c q2
  ·exact h6 k q1 (by omega)
theorem PI.swap {a b i j:Nat} {l:List α} (hb:b≤l.length) (h:PI lt a b i j l) (hij:i≤j) (h1:¬lt (at_ l i) (at_ l a)) (h2:lt (at_ l j) (at_ l a)):PI lt a b (i+1) (j-1) (swp l i j):=by
 obtain ⟨p1,p2,p3⟩:=h
 have hne:i≠j:=fun e=>by subst e;exact h1 h2
 have e0:at_ (swp l i j) a=at_ l a:=Du (by omega) (by omega) (by omega) (by omega)
 refine ⟨by omega,fun k q1 q2=>?_,fun k q1 q2=>?_⟩
 ·rw [e0,ZF (by omega) (by omega),if_neg (by omega)]
  by_cases c:k=i
  ·rw [if_pos c];exact h2
  ·rw [if_neg c];exact p2 k q1 (by omega)
 ·rw [e0,ZF (by omega) (by omega)]
  by_cases c:k=j
  ·rw [if_pos c];exact h1
  ·rw [if_neg c,if_neg (by omega)];exact p3 k (by omega) q2
theorem PI.done {a b i j:Nat} {l:List α} (hb:b≤l.length) (h:PI lt a b i j l) (hij:j<i):(∀k,a≤k→k<j→lt (at_ (swp l j a) k) (at_ (swp l j a) j))∧∀k,j<k→k<b→¬lt (at_ (swp l j a) k) (at_ (swp l j a) j):=by
 obtain ⟨p1,p2,p3⟩:=h
 have ej:at_ (swp l j a) j=at_ l a:=by
  rw [ZF (by omega) (by omega)]
  by_cases c:j=a
  ·rw [if_pos c,c]
  ·rw [if_neg c,if_pos rfl]
 refine ⟨fun k q1 q2=>?_,fun k q1 q2=>?_⟩
 ·rw [ej,ZF (by omega) (by omega)]
  by_cases c:k=a
  ·rw [if_pos c];exact p2 j (by omega) (by omega)
  ·rw [if_neg c,if_neg (by omega)];exact p2 k (by omega) (by omega)
 ·rw [ej,ZF (by omega) (by omega),if_neg (by omega),if_neg (by omega)];exact p3 k q1 q2
theorem QgP (S:So xb enc lt dom H db n) {T:Heap} (hT:mxs T=0) {a b p:Nat} (hb:b≤n):∀(d i j:Nat) (l:List α),j+1-i≤d→l.length=n→Dm dom l→PI lt a b i j l →
  ∃(i' j':Nat) (l':List α),RT polSo 106 (sn 4092 QV) (Ja (.sl db 0 n cap n 1) (.i (a:Int)) (.i (b:Int)) (.i (p:Int)) (.func 69 [] [.q xb]) (.i 0) (.bool false) (.i (i:Int)) (.i (j:Int))) (Mm enc H db l T) (.exit 4) (Ja (.sl db 0 n cap n 1) (.i (a:Int)) (.i (b:Int)) (.i (p:Int)) (.func 69 [] [.q xb]) (.i 0) (.bool false) (.i (i':Int)) (.i (j':Int))) (Mm enc H db l' T)∧Sw a b l l'∧PI lt a b i' j' l'∧j'<i':=by
 have hn:=S.nb
 intro d
 induction d with
 | zero =>
  intro i j l hd hl hD hI
  obtain ⟨p1,p2,p3⟩:=id hI
  obtain ⟨i',r1,q1,q2,q3,q4⟩:=pt3 S (cap:=cap) (a:=a) (b:=b) (p:=p) (j:=j) hT hl hD _ i (qB _) p1.1 p1.2.1 (by omega)
  obtain ⟨j',r2,q5,q6,q7,q8⟩:=pt4 S (cap:=cap) (a:=a) (b:=b) (p:=p) hT hl hD _ j (qB _) (i:=i') (by omega) (by omega) (by omega)
  have st:=RunsTo.block_other (i:=5) (c:=sn 8184 QV) (sq (bke (c:=sn 32736 QV) (r1)) (sq (bke (c:=sn 65474 QV) (r2)) (QeA (xb:=xb) 0 db n cap (Mm enc H db l T) 0 a b p i' j' (by omega)) (c:=sn 32737 QV)) (c:=sn 16368 QV)) (by simp) (by kernel_rfl)
  exact ⟨i',j',l,lpo (st),.refl,hI.scan q1 q2 q3 q5 q6 q7,by omega⟩
 | succ d ih =>
  intro i j l hd hl hD hI
  obtain ⟨p1,p2,p3⟩:=id hI
  obtain ⟨i',r1,q1,q2,q3,q4⟩:=pt3 S (cap:=cap) (a:=a) (b:=b) (p:=p) (j:=j) hT hl hD _ i (qB _) p1.1 p1.2.1 (by omega)
  obtain ⟨j',r2,q5,q6,q7,q8⟩:=pt4 S (cap:=cap) (a:=a) (b:=b) (p:=p) hT hl hD _ j (qB _) (i:=i') (by omega) (by omega) (by omega)
  have hI':=hI.scan q1 q2 q3 q5 q6 q7
  by_cases c:j'<i'
  ·have st:=RunsTo.block_other (i:=5) (c:=sn 8184 QV) (sq (bke (c:=sn 32736 QV) (r1)) (sq (bke (c:=sn 65474 QV) (r2)) (QeA (xb:=xb) 0 db n cap (Mm enc H db l T) 0 a b p i' j' (by omega)) (c:=sn 32737 QV)) (c:=sn 16368 QV)) (by simp) (by kernel_rfl)
   exact ⟨i',j',l,lpo (st),.refl,hI',c⟩
  ·have q4':=q4.resolve_left (by omega)
   have q8':=q8.resolve_left (by omega)
   obtain ⟨s1,s2⟩:=S.st2 (T:=T) hl (i:=i') (j:=j') (by omega) (by omega)
   have sl:=QlM (xb:=xb) 0 db n cap (Mm enc H db l T) 0 a b p i' j' (by omega) (ixs (i:=j') rfl (by omega)) (S.ld l T _ hl (by omega)) (ixs (i:=i') rfl (by omega)) (S.ld l T _ hl (by omega)) (ixs (i:=i') rfl (by omega)) s1 (ixs (i:=j') rfl (by omega)) s2
   rw [Qi (by omega),QN (by omega) (by omega)] at sl
   have st:=RunsTo.block_normal (i:=5) (c:=sn 8184 QV) (sq (bke (c:=sn 32736 QV) (r1)) (sq (bke (c:=sn 65474 QV) (r2)) (sl) (c:=sn 32737 QV)) (c:=sn 16368 QV)) (by kernel_rfl)
   have sw:Sw a b l (swp l i' j'):=Sw.one (by omega) (by omega) (by omega) (by omega)
   obtain ⟨i2,j2,l',r,w1,w2,w3⟩:=ih (i'+1) (j'-1) (swp l i' j') (by omega) (by rw [swp_len];exact hl) (hD.sw sw (by omega)) (hI'.swap (by omega) (by omega) q4' q8')
   exact ⟨i2,j2,l',lop (st) (gcM _ _ _ _ _ rfl) (r),sw.trans w1,w2,w3⟩
theorem QgQ (S:So xb enc lt dom H db n) {T:Heap} (hT:mxs T=0) {a b p:Nat} (hb:b≤n) (hp1:a≤p) (hp2:p<b) {l:List α} (hl:l.length=n) (hD:Dm dom l) :
  ∃m bb l',ClS 106 [.sl db 0 n cap n 1,.int .i64 (a:Int),.int .i64 (b:Int),.int .i64 (p:Int),.func 69 [] [.ptr xb 0 0 1]] (Mm enc H db l T) (.tuple [.int .i64 ((m:Nat):Int),.bool bb]) (Mm enc H db l' T)∧Sw a b l l'∧(a≤m∧m<b)∧(∀k,a≤k→k<m→lt (at_ l' k) (at_ l' m))∧∀k,m<k→k<b→¬lt (at_ l' k) (at_ l' m):=by
 have hn:=S.nb
 obtain ⟨s1,s2⟩:=S.st2 (T:=T) hl (i:=a) (j:=p) (by omega) (by omega)
 have t0:=Qlw (xb:=xb) 0 db n cap (Mm enc H db l T) 0 a b p
 have t1:=Qlx (xb:=xb) 0 db n cap (Mm enc H db l T) 0 a b p (y12:=Ud) (y13:=Ud) (ixs (i:=p) rfl (by omega)) (S.ld l T _ hl (by omega)) (ixs (i:=a) rfl (by omega)) (S.ld l T _ hl (by omega)) (ixs (i:=a) rfl (by omega)) s1 (ixs (i:=p) rfl (by omega)) s2
 have sw0:Sw a b l (swp l a p):=Sw.one (by omega) (by omega) (by omega) (by omega)
 have hl0:=WL sw0 hl
 have hD0:=hD.sw sw0 (by omega)
 generalize swp l a p=l0 at t1 sw0 hl0 hD0 s2
 clear s2
 have t2:=Qly (xb:=xb) 0 db n cap (Mm enc H db l0 T) 0 a b p (y12:=Ud) (y13:=Ud)
 rw [Qi (by omega),QN (by omega) (by omega)] at t2
 have hI0:PI lt a b (a+1) (b-1) l0:=⟨by omega,fun k h1 h2=>by omega,fun k h1 h2=>by omega⟩
 obtain ⟨i,r1,q1,q2,q3,q4⟩:=pt1 S (cap:=cap) (a:=a) (b:=b) (p:=p) (j:=b-1) hT hl0 hD0 _ (a+1) (qB _) (by omega) (by omega) (by omega)
 obtain ⟨j,r2,q5,q6,q7,q8⟩:=pt2 S (cap:=cap) (a:=a) (b:=b) (p:=p) hT hl0 hD0 _ (b-1) (qB _) (i:=i) (by omega) (by omega) (by omega)
 have hI:=hI0.scan q1 q2 q3 q5 q6 q7
 have hI':=hI.1
 have fin:∀(i j:Nat) (l1:List α) (bb:Bool) (E:Env) (H':Heap),Sw a b l l1→PI lt a b i j l1→j<i→H'=Mm enc H db (swp l1 j a) T→RT polSo 106 QV (KA [.sl db 0 n cap n 1,.int .i64 (a:Int),.int .i64 (b:Int),.int .i64 (p:Int),.func 69 [] [.ptr xb 0 0 1]]) (Mm enc H db l T) .ret E H'→Qd Tp Try.f106 E H'=some (.tuple [.int .i64 ((j:Nat):Int),.bool bb]) →
   ∃m bb l',ClS 106 [.sl db 0 n cap n 1,.int .i64 (a:Int),.int .i64 (b:Int),.int .i64 (p:Int),.func 69 [] [.ptr xb 0 0 1]] (Mm enc H db l T) (.tuple [.int .i64 ((m:Nat):Int),.bool bb]) (Mm enc H db l' T)∧Sw a b l l'∧(a≤m∧m<b)∧(∀k,a≤k→k<m→lt (at_ l' k) (at_ l' m))∧∀k,m<k→k<b→¬lt (at_ l' k) (at_ l' m):=by
  intro i j l1 bb E H' hs hI hij he t hv
  subst he
  have hI':=hI.1
  have hll:=WL hs hl
  have hc:=CallsTo.shared (P:=Tp) (pol:=polSo) (g:=106) (fn:=Try.f106) (cd:=QV) (args:=[.sl db 0 n cap n 1,.int .i64 (a:Int),.int .i64 (b:Int),.int .i64 (p:Int),.func 69 [] [.ptr xb 0 0 1]]) (by kernel_rfl) (by kernel_rfl) (by kernel_rfl) (by kernel_rfl) t (by kernel_rfl) (by simp) hv
  rw [gcM _ _ _ _ _ rfl] at hc
  obtain ⟨w1,w2⟩:=hI.done (by omega) hij
  exact ⟨j,bb,_,hc,hs.step (by omega) (by omega) (qB _) (by omega),by omega,w1,w2⟩
 by_cases c:j<i
 ·obtain ⟨s3,s4⟩:=S.st2 (T:=T) hl0 (i:=j) (j:=a) (by omega) (by omega)
  have t3:=QlD (xb:=xb) 0 db n cap (Mm enc H db l0 T) 0 a b p i j (by omega) (ixs (i:=a) rfl (by omega)) (S.ld l0 T _ hl0 (by omega)) (ixs (i:=j) rfl (by omega)) (S.ld l0 T _ hl0 (by omega)) (ixs (i:=j) rfl (by omega)) s3 (ixs (i:=a) rfl (by omega)) s4
  have t:=sq (t0) (sq (t1) (sq (t2) (sq (bke (c:=sn 30 QV) (r1)) (sq (bke (c:=sn 62 QV) (r2)) (sqo (t3) (c:=sn 63 QV) (b:=sn 127 QV)) (c:=sn 31 QV)) (c:=sn 15 QV)) (c:=sn 7 QV)) (c:=sn 3 QV)) (c:=QV)
  exact fin i j l0 true _ _ sw0 hI c rfl t (by kernel_rfl)
 ·have q4':=q4.resolve_left (by omega)
  have q8':=q8.resolve_left (by omega)
  obtain ⟨s3,s4⟩:=S.st2 (T:=T) hl0 (i:=i) (j:=j) (by omega) (by omega)
  have t3:=QlE (xb:=xb) 0 db n cap (Mm enc H db l0 T) 0 a b p i j (by omega)
  have t4:=QlF (xb:=xb) 0 db n cap (Mm enc H db l0 T) 0 a b p i j (ixs (i:=j) rfl (by omega)) (S.ld l0 T _ hl0 (by omega)) (ixs (i:=i) rfl (by omega)) (S.ld l0 T _ hl0 (by omega)) (ixs (i:=i) rfl (by omega)) s3 (ixs (i:=j) rfl (by omega)) s4
  have sw1:Sw a b l0 (swp l0 i j):=Sw.one (by omega) (by omega) (by omega) (by omega)
  have hl1:=WL sw1 hl0
  have hD1:=hD0.sw sw1 (by omega)
  have hI1:=hI.swap (by omega) (by omega) q4' q8'
  generalize swp l0 i j=l1 at t4 sw1 hl1 hD1 hI1 s4
  clear s4
  have t5:=QlG (xb:=xb) 0 db n cap (Mm enc H db l1 T) 0 a b p i j
  rw [Qi (by omega)] at t5
  have t6:=QlH (xb:=xb) 0 db n cap (Mm enc H db l1 T) 0 a b p (i+1) j
  rw [QN (by omega) (by omega)] at t6
  obtain ⟨i2,j2,l2,r3,w1,w2,w3⟩:=QgP S (cap:=cap) (p:=p) hT hb _ (i+1) (j-1) l1 (qB _) hl1 hD1 hI1
  have w2':=w2.1
  have hl2:=WL w1 hl1
  obtain ⟨s5,s6⟩:=S.st2 (T:=T) hl2 (i:=j2) (j:=a) (by omega) (by omega)
  have t7:=QlN (xb:=xb) 0 db n cap (Mm enc H db l2 T) 0 a b p i2 j2 (ixs (i:=a) rfl (by omega)) (S.ld l2 T _ hl2 (by omega)) (ixs (i:=j2) rfl (by omega)) (S.ld l2 T _ hl2 (by omega)) (ixs (i:=j2) rfl (by omega)) s5 (ixs (i:=a) rfl (by omega)) s6
  have t:=sq (t0) (sq (t1) (sq (t2) (sq (bke (c:=sn 30 QV) (r1)) (sq (bke (c:=sn 62 QV) (r2)) (sq (t3) (sq (t4) (sq (t5) (sq (t6) (sq (bke (c:=sn 2046 QV) (r3)) (t7) (c:=sn 1023 QV)) (c:=sn 511 QV)) (c:=sn 255 QV)) (c:=sn 127 QV)) (c:=sn 63 QV)) (c:=sn 31 QV)) (c:=sn 15 QV)) (c:=sn 7 QV)) (c:=sn 3 QV)) (c:=QV)
  exact fin i2 j2 l2 false _ _ (sw0.trans (sw1.trans w1)) w2 w3 rfl t (by kernel_rfl)
def PE (lt:α→α→Prop) (a b i j:Nat) (l:List α):Prop:=(a<i∧i≤j+1∧a≤j∧j<b)∧(∀k,a<k→k<i→¬lt (at_ l a) (at_ l k))∧∀k,j<k→k<b→lt (at_ l a) (at_ l k)
theorem PE.scan {a b i j i' j':Nat} {l:List α} (h:PE lt a b i j l) (h1:i≤i') (h2:i'≤j+1) (h3:∀k,i≤k→k<i'→¬lt (at_ l a) (at_ l k)) (h4:j'≤j) (h5:i'≤j'+1) (h6:∀k,j'<k→k≤j→lt (at_ l a) (at_ l k)):PE lt a b i' j' l:=by
 obtain ⟨p1,p2,p3⟩:=h
 refine ⟨by omega,fun k q1 q2=>?_,fun k q1 q2=>?_⟩
 ·by_cases c:k<i
  ·exact p2 k q1 c
  ·exact h3 k (by omega) q2
 ·by_cases c:j<k
  ·exact p3 k c q2
  ·exact h6 k q1 (by omega)
theorem PE.swap {a b i j:Nat} {l:List α} (hb:b≤l.length) (h:PE lt a b i j l) (hij:i≤j) (h1:lt (at_ l a) (at_ l i)) (h2:¬lt (at_ l a) (at_ l j)):PE lt a b (i+1) (j-1) (swp l i j):=by
 obtain ⟨p1,p2,p3⟩:=h
 have hne:i≠j:=fun e=>by subst e;exact h2 h1
 have e0:at_ (swp l i j) a=at_ l a:=Du (by omega) (by omega) (by omega) (by omega)
 refine ⟨by omega,fun k q1 q2=>?_,fun k q1 q2=>?_⟩
 ·rw [e0,ZF (by omega) (by omega),if_neg (by omega)]
  by_cases c:k=i
  ·rw [if_pos c];exact h2
  ·rw [if_neg c];exact p2 k q1 (by omega)
 ·rw [e0,ZF (by omega) (by omega)]
  by_cases c:k=j
  ·rw [if_pos c];exact h1
  ·rw [if_neg c,if_neg (by omega)];exact p3 k (by omega) q2
theorem QgR (S:So xb enc lt dom H db n) {T:Heap} (hT:mxs T=0) {a b p:Nat} (hb:b≤n):∀(d i j:Nat) (l:List α),j+1-i≤d→l.length=n→Dm dom l→PE lt a b i j l →
  ∃(i' j':Nat) (l':List α),RT polSo 105 (sn 60 W8) (VJ (.sl db 0 n cap n 1) (.i (a:Int)) (.i (b:Int)) (.i (p:Int)) (.func 69 [] [.q xb]) (.i 0) (.i (i:Int)) (.i (j:Int))) (Mm enc H db l T) (.exit 0) (VJ (.sl db 0 n cap n 1) (.i (a:Int)) (.i (b:Int)) (.i (p:Int)) (.func 69 [] [.q xb]) (.i 0) (.i (i':Int)) (.i (j':Int))) (Mm enc H db l' T)∧Sw a b l l'∧at_ l' a=at_ l a∧PE lt a b i' j' l'∧j'<i':=by
 have hn:=S.nb
 intro d
 induction d with
 | zero =>
  intro i j l hd hl hD hI
  obtain ⟨p1,p2,p3⟩:=id hI
  obtain ⟨i',r1,q1,q2,q3,q4⟩:=pe1 S (cap:=cap) (a:=a) (b:=b) (p:=p) (j:=j) hT hl hD _ i (qB _) p1.1 p1.2.1 (by omega)
  obtain ⟨j',r2,q5,q6,q7,q8⟩:=pe2 S (cap:=cap) (a:=a) (b:=b) (p:=p) hT hl hD _ j (qB _) (i:=i') (by omega) (by omega) (by omega)
  have st:=RunsTo.block_other (i:=1) (c:=sn 120 W8) (sq (bke (c:=sn 480 W8) (r1)) (sq (bke (c:=sn 962 W8) (r2)) (QeD (xb:=xb) 0 db n cap (Mm enc H db l T) 0 a b p i' j' (by omega)) (c:=sn 481 W8)) (c:=sn 240 W8)) (by simp) (by kernel_rfl)
  exact ⟨i',j',l,lpo (st),.refl,rfl,hI.scan q1 q2 q3 q5 q6 q7,by omega⟩
 | succ d ih =>
  intro i j l hd hl hD hI
  obtain ⟨p1,p2,p3⟩:=id hI
  obtain ⟨i',r1,q1,q2,q3,q4⟩:=pe1 S (cap:=cap) (a:=a) (b:=b) (p:=p) (j:=j) hT hl hD _ i (qB _) p1.1 p1.2.1 (by omega)
  obtain ⟨j',r2,q5,q6,q7,q8⟩:=pe2 S (cap:=cap) (a:=a) (b:=b) (p:=p) hT hl hD _ j (qB _) (i:=i') (by omega) (by omega) (by omega)
  have hI':=hI.scan q1 q2 q3 q5 q6 q7
  by_cases c:j'<i'
  ·have st:=RunsTo.block_other (i:=1) (c:=sn 120 W8) (sq (bke (c:=sn 480 W8) (r1)) (sq (bke (c:=sn 962 W8) (r2)) (QeD (xb:=xb) 0 db n cap (Mm enc H db l T) 0 a b p i' j' (by omega)) (c:=sn 481 W8)) (c:=sn 240 W8)) (by simp) (by kernel_rfl)
   exact ⟨i',j',l,lpo (st),.refl,rfl,hI',c⟩
  ·have q4':=q4.resolve_left (by omega)
   have q8':=q8.resolve_left (by omega)
   obtain ⟨s1,s2⟩:=S.st2 (T:=T) hl (i:=i') (j:=j') (by omega) (by omega)
   have sl:=QlV (xb:=xb) 0 db n cap (Mm enc H db l T) 0 a b p i' j' (by omega) (ixs (i:=j') rfl (by omega)) (S.ld l T _ hl (by omega)) (ixs (i:=i') rfl (by omega)) (S.ld l T _ hl (by omega)) (ixs (i:=i') rfl (by omega)) s1 (ixs (i:=j') rfl (by omega)) s2
   rw [Qi (by omega),QN (by omega) (by omega)] at sl
   have st:=RunsTo.block_normal (i:=1) (c:=sn 120 W8) (sq (bke (c:=sn 480 W8) (r1)) (sq (bke (c:=sn 962 W8) (r2)) (sl) (c:=sn 481 W8)) (c:=sn 240 W8)) (by kernel_rfl)
   have sw:Sw a b l (swp l i' j'):=Sw.one (by omega) (by omega) (by omega) (by omega)
   have e0:at_ (swp l i' j') a=at_ l a:=Du (by omega) (by omega) (by omega) (by omega)
   obtain ⟨i2,j2,l',r,w1,w0,w2,w3⟩:=ih (i'+1) (j'-1) (swp l i' j') (by omega) (by rw [swp_len];exact hl) (hD.sw sw (by omega)) (hI'.swap (by omega) (by omega) q4' q8')
   exact ⟨i2,j2,l',lop (st) (gcM _ _ _ _ _ rfl) (r),sw.trans w1,w0.trans e0,w2,w3⟩
theorem Qmm (S:So xb enc lt dom H db n) (hL:Lin lt) {T:Heap} (hT:mxs T=0) {a b p:Nat} (hb:b≤n) (hp1:a≤p) (hp2:p<b) {l:List α} (hl:l.length=n) (hD:Dm dom l) :
  ∃m l',ClS 105 [.sl db 0 n cap n 1,.int .i64 (a:Int),.int .i64 (b:Int),.int .i64 (p:Int),.func 69 [] [.ptr xb 0 0 1]] (Mm enc H db l T) (.int .i64 ((m:Nat):Int)) (Mm enc H db l' T)∧Sw a b l l'∧(a<m∧m≤b)∧(∀k,a≤k→k<m→¬lt (at_ l p) (at_ l' k))∧∀k,m≤k→k<b→lt (at_ l p) (at_ l' k):=by
 have hn:=S.nb
 obtain ⟨s1,s2⟩:=S.st2 (T:=T) hl (i:=a) (j:=p) (by omega) (by omega)
 have t0:=QlO (xb:=xb) 0 db n cap (Mm enc H db l T) 0 a b p
 have t1:=QlP (xb:=xb) 0 db n cap (Mm enc H db l T) 0 a b p (y11:=Ud) (y12:=Ud) (ixs (i:=p) rfl (by omega)) (S.ld l T _ hl (by omega)) (ixs (i:=a) rfl (by omega)) (S.ld l T _ hl (by omega)) (ixs (i:=a) rfl (by omega)) s1 (ixs (i:=p) rfl (by omega)) s2
 have sw0:Sw a b l (swp l a p):=Sw.one (by omega) (by omega) (by omega) (by omega)
 have e0:at_ (swp l a p) a=at_ l p:=by
  rw [ZF (by omega) (by omega)]
  by_cases c:a=p
  ·rw [if_pos c,c]
  ·rw [if_neg c,if_pos rfl]
 have hl0:=WL sw0 hl
 have hD0:=hD.sw sw0 (by omega)
 generalize swp l a p=l0 at t1 sw0 hl0 hD0 s2 e0
 clear s2
 have t2:=QlQ (xb:=xb) 0 db n cap (Mm enc H db l0 T) 0 a b p (y11:=Ud) (y12:=Ud)
 rw [Qi (by omega),QN (by omega) (by omega)] at t2
 have hI0:PE lt a b (a+1) (b-1) l0:=⟨by omega,fun k h1 h2=>by omega,fun k h1 h2=>by omega⟩
 obtain ⟨i,j,l1,r,w1,w0,w2,w3⟩:=QgR S (cap:=cap) (p:=p) hT hb _ (a+1) (b-1) l0 (qB _) hl0 hD0 hI0
 obtain ⟨w4,w5,w6⟩:=w2
 have z:=QlW (xb:=xb) 0 db n cap (Mm enc H db l1 T) 0 a b p i j
 have t:=sq (t0) (sq (t1) (sq (t2) (sq (bke (c:=sn 30 W8) (r)) (z) (c:=sn 15 W8)) (c:=sn 7 W8)) (c:=sn 3 W8)) (c:=W8)
 have hc:=CallsTo.shared (P:=Tp) (pol:=polSo) (g:=105) (fn:=Try.f105) (cd:=W8) (args:=[.sl db 0 n cap n 1,.int .i64 (a:Int),.int .i64 (b:Int),.int .i64 (p:Int),.func 69 [] [.ptr xb 0 0 1]]) (v:=.int .i64 (i:Int)) (by kernel_rfl) (by kernel_rfl) (by kernel_rfl) (by kernel_rfl) t (by kernel_rfl) (by simp) (by kernel_rfl)
 rw [gcM _ _ _ _ _ rfl] at hc
 refine ⟨i,l1,hc,sw0.trans w1,by omega,fun k h1 h2=>?_,fun k h1 h2=>?_⟩
 ·rw [← e0,← w0]
  by_cases c:k=a
  ·subst c;exact hL.rf _
  ·exact w5 k (by omega) h2
 ·rw [← e0,← w0];exact w6 k (by omega) h2
end
section
variable {xb:Nat} {α:Type} [Inhabited α] {enc:α→HV} {lt:α→α→Prop} {dom:α→Prop} {H:Heap} {db n:Nat} {cap:Option Nat}
theorem Dv {a:Nat} {l:List α}:QQ lt a (a+1) l:=fun p q h1 h2 h3=>by omega
theorem SQ (hL:Lin lt) {a i:Nat} {l:List α} (h:QQ lt a i l) (hc:¬lt (at_ l i) (at_ l (i-1))):QQ lt a (i+1) l:=fun p q h1 h2 h3=>by
 by_cases e:q=i
 ·subst e
  by_cases e2:p=q-1
  ·rw [e2];exact hc
  ·exact hL.tr _ _ _ (h p (q-1) h1 (by omega) (by omega)) hc
 ·exact h p q h1 h2 (by omega)
theorem QgS (S:So xb enc lt dom H db n) (hL:Lin lt) {T:Heap} (hT:mxs T=0) {a b k:Nat} (hb:b≤n) {l:List α} (hl:l.length=n) (hD:Dm dom l):∀(d i:Nat),b-i≤d→a<i→i≤b→QQ lt a i l →
  ∃i':Nat,RT polSo 104 (sn 3728 QD) (Wo (.sl db 0 n cap n 1) (.i (a:Int)) (.i (b:Int)) (.func 69 [] [.q xb]) (.bool false) (.i (i:Int)) (.i (k:Int)) Ud Ud) (Mm enc H db l T) (.exit 2) (Wo (.sl db 0 n cap n 1) (.i (a:Int)) (.i (b:Int)) (.func 69 [] [.q xb]) (.bool false) (.i (i':Int)) (.i (k:Int)) Ud Ud) (Mm enc H db l T)∧(a<i'∧i'≤b)∧QQ lt a i' l∧(i'<b→lt (at_ l i') (at_ l (i'-1))):=by
 have hn:=S.nb
 intro d
 induction d with
 | zero =>
  intro i hd ha hi hS
  exact ⟨i,lpo (QeE (xb:=xb) 0 db n cap (Mm enc H db l T) 0 a b i k (by omega)),by omega,hS,fun h=>by omega⟩
 | succ d ih =>
  intro i hd ha hi hS
  by_cases c0:i<b
  ·by_cases c:lt (at_ l i) (at_ l (i-1))
   ·obtain ⟨cc,N,hN,hc⟩:=S.ct (T:=T) hl hT (hD.at (i:=i) (by omega)) (hD.at (i:=i-1) (by omega)) c
    have st:=Ql2 (xb:=xb) N db n cap (Mm enc H db l T) 0 a b i k (y11:=Ud) (y12:=Ud) (by omega) (ixs (i:=i) rfl (by omega)) (S.ld l T _ hl (by omega)) (ixs (i:=i-1) (QN (by omega) (by omega)) (by omega)) (S.ld l T _ hl (by omega)) hN hc
    exact ⟨i,lpo (st),by omega,hS,fun _=>c⟩
   ·obtain ⟨cc,N,hN,hc⟩:=S.cf (T:=T) hl hT (hD.at (i:=i) (by omega)) (hD.at (i:=i-1) (by omega)) c
    have st:=Ql3 (xb:=xb) N db n cap (Mm enc H db l T) 0 a b i k (y11:=Ud) (y12:=Ud) (by omega) (ixs (i:=i) rfl (by omega)) (S.ld l T _ hl (by omega)) (ixs (i:=i-1) (QN (by omega) (by omega)) (by omega)) (S.ld l T _ hl (by omega)) hN hc
    rw [Qi (by omega)] at st
    obtain ⟨i',r,q⟩:=ih (i+1) (by omega) (by omega) (by omega) (SQ hL hS c)
    exact ⟨i',lop (st) (gcM _ _ _ _ _ rfl) (r),q⟩
  ·exact ⟨i,lpo (QeE (xb:=xb) 0 db n cap (Mm enc H db l T) 0 a b i k (by omega)),by omega,hS,fun h=>by omega⟩
def Flo (lt:α→α→Prop) (a b:Nat) (l:List α):Prop:=0<a→∀k,a≤k→k<b→¬lt (at_ l k) (at_ l (a-1))
theorem Flo.sw {a b:Nat} {l l':List α} (h:Flo lt a b l) (hb:b≤l.length) (hs:Sw a b l l'):Flo lt a b l':=fun h0=>by
 rw [hs.out hb (k:=a-1) (by omega)]
 exact hs.all hb (Q:=fun x=>¬lt x (at_ l (a-1))) (qB _) (qB _) (h h0)
theorem QgT (S:So xb enc lt dom H db n) (hL:Lin lt) {T:Heap} (hT:mxs T=0) {a b i k:Nat} (hi:i<b) (hb:b≤n):∀(j:Nat) (l:List α),l.length=n→j<i→a≤j→Dm dom l→Flo lt a b l→SN lt a i j l →
  ∃y l',RT polSo 104 (sn 477674 QD) (Wo (.sl db 0 n cap n 1) (.i (a:Int)) (.i (b:Int)) (.func 69 [] [.q xb]) (.bool false) (.i (i:Int)) (.i (k:Int)) (.i (j:Int)) Ud) (Mm enc H db l T) (.exit 4) (Wo (.sl db 0 n cap n 1) (.i (a:Int)) (.i (b:Int)) (.func 69 [] [.q xb]) (.bool false) (.i (i:Int)) (.i (k:Int)) y Ud) (Mm enc H db l' T)∧Sw a i l l'∧QQ lt a i l':=by
 have hn:=S.nb
 intro j
 induction j with
 | zero =>
  intro l hl hj ha hD hF hS
  exact ⟨_,l,lpo (Qme (xb:=xb) 0 db n cap (Mm enc H db l T) 0 a b i k 0 (by omega)),.refl,JW hL hS (.inl (Nat.zero_le _))⟩
 | succ j ih =>
  intro l hl hj ha hD hF hS
  have hw:qA.wrap (((j+1:Nat):Int)-1)=((j:Nat):Int):=QN (j:=j+1) (by omega) (by omega)
  by_cases c2:lt (at_ l (j+1)) (at_ l j)
  ·have ha':a<j+1:=by
    rcases qH a (j+1) with h | h
    ·exact h
    ·exfalso
     have e:a=j+1:=by omega
     have:=hF (by omega) (j+1) (by omega) (by omega)
     rw [show a-1=j by omega] at this
     exact this c2
   obtain ⟨cc,N,hN,hc⟩:=S.ct (T:=T) hl hT (hD.at (i:=j+1) (by omega)) (hD.at (i:=j) (by omega)) c2
   obtain ⟨s1,s2⟩:=S.st2 (T:=T) hl (i:=j+1) (j:=j) (by omega) (by omega)
   have sw:Sw a i l (swp l (j+1) j):=Sw.one (by omega) (by omega) (by omega) (by omega)
   have st:=Qmc (xb:=xb) N db n cap (Mm enc H db l T) 0 a b i k (j+1) (y12:=Ud) (by omega) (ixs (i:=j+1) rfl (by omega)) (S.ld l T _ hl (by omega)) (ixs hw (by omega)) (S.ld l T _ hl (by omega)) hN hc
    (ixs hw (by omega)) (S.ld l T _ hl (by omega)) (ixs (i:=j+1) rfl (by omega)) (S.ld l T _ hl (by omega)) (ixs (i:=j+1) rfl (by omega)) s1 (ixs hw (by omega)) s2
   rw [hw] at st
   obtain ⟨y,l',r,q1,q2⟩:=ih (swp l (j+1) j) (by rw [swp_len];exact hl) (by omega) (by omega) (hD.sw sw (by omega)) (hF.sw (by omega) (sw.mono (qB _) (by omega))) (Yz hL (j:=j+1) (by omega) (by omega) ha' hS c2)
   exact ⟨y,l',lop (st) (gcM _ _ _ _ _ rfl) (r),sw.trans q1,q2⟩
  ·obtain ⟨cc,N,hN,hc⟩:=S.cf (T:=T) hl hT (hD.at (i:=j+1) (by omega)) (hD.at (i:=j) (by omega)) c2
   have st:=Qmd (xb:=xb) N db n cap (Mm enc H db l T) 0 a b i k (j+1) (y12:=Ud) (by omega) (ixs (i:=j+1) rfl (by omega)) (S.ld l T _ hl (by omega)) (ixs hw (by omega)) (S.ld l T _ hl (by omega)) hN hc
   exact ⟨_,l,lpo (st),.refl,JW hL hS (.inr c2)⟩
theorem QeG (S:So xb enc lt dom H db n) {T:Heap} (hT:mxs T=0) {a b i k:Nat} (hb:b≤n):∀(d w:Nat) (l:List α),b-w≤d→l.length=n→i<w→Dm dom l →
  ∃y l',RT polSo 104 (sn 477690 QD) (Wo (.sl db 0 n cap n 1) (.i (a:Int)) (.i (b:Int)) (.func 69 [] [.q xb]) (.bool false) (.i (i:Int)) (.i (k:Int)) Ud (.i (w:Int))) (Mm enc H db l T) (.exit 6) (Wo (.sl db 0 n cap n 1) (.i (a:Int)) (.i (b:Int)) (.func 69 [] [.q xb]) (.bool false) (.i (i:Int)) (.i (k:Int)) Ud y) (Mm enc H db l' T)∧Sw i b l l':=by
 have hn:=S.nb
 intro d
 induction d with
 | zero =>
  intro w l hd hl hw hD
  exact ⟨_,l,lpo (QeF (xb:=xb) 0 db n cap (Mm enc H db l T) 0 a b i k w (by omega)),.refl⟩
 | succ d ih =>
  intro w l hd hl hi hD
  by_cases c0:w<b
  ·have hw:qA.wrap ((w:Int)-1)=((w-1:Nat):Int):=QN (by omega) (by omega)
   by_cases c:lt (at_ l w) (at_ l (w-1))
   ·obtain ⟨cc,N,hN,hc⟩:=S.ct (T:=T) hl hT (hD.at (i:=w) (by omega)) (hD.at (i:=w-1) (by omega)) c
    obtain ⟨s1,s2⟩:=S.st2 (T:=T) hl (i:=w) (j:=w-1) (by omega) (by omega)
    have sw:Sw i b l (swp l w (w-1)):=Sw.one (by omega) (by omega) (by omega) (by omega)
    have st:=Qmi (xb:=xb) N db n cap (Mm enc H db l T) 0 a b i k w (y11:=Ud) (by omega) (ixs (i:=w) rfl (by omega)) (S.ld l T _ hl (by omega)) (ixs hw (by omega)) (S.ld l T _ hl (by omega)) hN hc
     (ixs hw (by omega)) (S.ld l T _ hl (by omega)) (ixs (i:=w) rfl (by omega)) (S.ld l T _ hl (by omega)) (ixs (i:=w) rfl (by omega)) s1 (ixs hw (by omega)) s2
    rw [Qi (by omega)] at st
    obtain ⟨y,l',r,q1⟩:=ih (w+1) (swp l w (w-1)) (by omega) (by rw [swp_len];exact hl) (by omega) (hD.sw sw (by omega))
    exact ⟨y,l',lop (st) (gcM _ _ _ _ _ rfl) (r),sw.trans q1⟩
   ·obtain ⟨cc,N,hN,hc⟩:=S.cf (T:=T) hl hT (hD.at (i:=w) (by omega)) (hD.at (i:=w-1) (by omega)) c
    have st:=Qmj (xb:=xb) N db n cap (Mm enc H db l T) 0 a b i k w (y11:=Ud) (by omega) (ixs (i:=w) rfl (by omega)) (S.ld l T _ hl (by omega)) (ixs hw (by omega)) (S.ld l T _ hl (by omega)) hN hc
    exact ⟨_,l,lpo (st),.refl⟩
  ·exact ⟨_,l,lpo (QeF (xb:=xb) 0 db n cap (Mm enc H db l T) 0 a b i k w (by omega)),.refl⟩
theorem Qth (S:So xb enc lt dom H db n) (hL:Lin lt) {T:Heap} (hT:mxs T=0) {a b i k:Nat} (hai:a<i) (hi:i<b) (hb:b≤n) {l:List α} (hl:l.length=n) (hD:Dm dom l) (hF:Flo lt a b l) (hS:QQ lt a (i-1) l) :
  ∃y l',RT polSo 104 (sn 29854 QD) (Wo (.sl db 0 n cap n 1) (.i (a:Int)) (.i (b:Int)) (.func 69 [] [.q xb]) (.bool false) (.i (i:Int)) (.i (k:Int)) Ud Ud) (Mm enc H db l T) .normal (Wo (.sl db 0 n cap n 1) (.i (a:Int)) (.i (b:Int)) (.func 69 [] [.q xb]) (.bool false) (.i (i:Int)) (.i (k:Int)) y Ud) (Mm enc H db l' T)∧Sw a i l l'∧QQ lt a i l':=by
 have hn:=S.nb
 have hw:qA.wrap ((i:Int)-(a:Int))=((i-a:Nat):Int):=(by rw [Qr (by omega) (by omega)];omega)
 by_cases c:2≤i-a
 ·have t0:=Ql9 (xb:=xb) 0 db n cap (Mm enc H db l T) 0 a b i k (y11:=Ud) (y12:=Ud) (by rw [hw];omega)
  have t1:=Qmb (xb:=xb) 0 db n cap (Mm enc H db l T) 0 a b i k (y11:=Ud) (y12:=Ud)
  rw [QN (by omega) (by omega)] at t1
  have hk:SN lt a i (i-1) l:=by
   have:=XK (i:=i-1) hS
   rwa [show i-1+1=i by omega] at this
  obtain ⟨y,l',r,q1,q2⟩:=QgT S hL (cap:=cap) (k:=k) hT hi hb (i-1) l hl (by omega) (by omega) hD hF hk
  exact ⟨y,l',sq (t0) (RunsTo.cond (y:=.tmp 65) (t:=true) (c:=sn 59709 QD) (a:=sn 119418 QD) (b:=sn 119419 QD) (by kernel_rfl) rfl (sq (t1) (bke (c:=sn 238837 QD) (r)) (c:=sn 119418 QD))) (c:=sn 29854 QD),q1,q2⟩
 ·have t0:=Qma (xb:=xb) 0 db n cap (Mm enc H db l T) 0 a b i k (y11:=Ud) (y12:=Ud) (by rw [hw];omega)
  refine ⟨_,l,sq (t0) (RunsTo.cond (y:=.tmp 65) (t:=false) (c:=sn 59709 QD) (a:=sn 119418 QD) (b:=sn 119419 QD) (by kernel_rfl) rfl (RunsTo.skip (E:=(Wo (.sl db 0 n cap n 1) (.i (a:Int)) (.i (b:Int)) (.func 69 [] [.q xb]) (.bool false) (.i (i:Int)) (.i (k:Int)) Ud Ud)) (by kernel_rfl) (by kernel_rfl))) (c:=sn 29854 QD),.refl,?_⟩
  rw [show i=a+1 by omega];exact Dv
theorem Qti (S:So xb enc lt dom H db n) {T:Heap} (hT:mxs T=0) {a b i k:Nat} {y0:HV} (hi:i<b) (hb:b≤n) {l:List α} (hl:l.length=n) (hD:Dm dom l) :
  ∃y y' l',RT polSo 104 (sn 29855 QD) (Wo (.sl db 0 n cap n 1) (.i (a:Int)) (.i (b:Int)) (.func 69 [] [.q xb]) (.bool false) (.i (i:Int)) (.i (k:Int)) y0 Ud) (Mm enc H db l T) .normal (Wo (.sl db 0 n cap n 1) (.i (a:Int)) (.i (b:Int)) (.func 69 [] [.q xb]) (.bool false) (.i (i:Int)) (.i (k:Int)) y y') (Mm enc H db l' T)∧Sw i b l l':=by
 have hn:=S.nb
 have hw:qA.wrap ((b:Int)-(i:Int))=((b-i:Nat):Int):=(by rw [Qr (by omega) (by omega)];omega)
 by_cases c:2≤b-i
 ·have t0:=Qmf (xb:=xb) 0 db n cap (Mm enc H db l T) 0 a b i k (y11:=y0) (y12:=Ud) (by rw [hw];omega)
  have t1:=Qmh (xb:=xb) 0 db n cap (Mm enc H db l T) 0 a b i k (y11:=y0) (y12:=Ud)
  rw [Qi (by omega)] at t1
  obtain ⟨y,l',r,q1⟩:=QeG S (cap:=cap) (a:=a) (i:=i) (k:=k) hT hb _ (i+1) l (qB _) hl (by omega) hD
  have r':=lpi (e0:=(Wo (.sl db 0 n cap n 1) (.i (a:Int)) (.i (b:Int)) (.func 69 [] [.q xb]) (.bool false) (.i (i:Int)) (.i (k:Int)) y0 (.i ((i+1:Nat):Int)))) r (b:=sn 955380 QD)
  exact ⟨_,y,l',sq (t0) (RunsTo.cond (y:=.tmp 104) (t:=true) (c:=sn 59711 QD) (a:=sn 119422 QD) (b:=sn 119423 QD) (by kernel_rfl) rfl (sq (t1) (bke (c:=sn 238845 QD) (r')) (c:=sn 119422 QD))) (c:=sn 29855 QD),q1⟩
 ·have t0:=Qmg (xb:=xb) 0 db n cap (Mm enc H db l T) 0 a b i k (y11:=y0) (y12:=Ud) (by rw [hw];omega)
  exact ⟨_,_,l,sq (t0) (RunsTo.cond (y:=.tmp 104) (t:=false) (c:=sn 59711 QD) (a:=sn 119422 QD) (b:=sn 119423 QD) (by kernel_rfl) rfl (RunsTo.skip (E:=(Wo (.sl db 0 n cap n 1) (.i (a:Int)) (.i (b:Int)) (.func 69 [] [.q xb]) (.bool false) (.i (i:Int)) (.i (k:Int)) y0 Ud)) (by kernel_rfl) (by kernel_rfl))) (c:=sn 29855 QD),.refl⟩
theorem QgU (S:So xb enc lt dom H db n) (hL:Lin lt) {T:Heap} (hT:mxs T=0) {a b:Nat} (hb:b≤n):∀(d k i:Nat) (l:List α),k+d=5→a<i→i≤b→l.length=n→Dm dom l→Flo lt a b l→QQ lt a i l →
  ∃x E l',RT polSo 104 (sn 58 QD) (Wo (.sl db 0 n cap n 1) (.i (a:Int)) (.i (b:Int)) (.func 69 [] [.q xb]) (.bool false) (.i (i:Int)) (.i (k:Int)) Ud Ud) (Mm enc H db l T) x E (Mm enc H db l' T)∧Sw a b l l'∧((x=.exit 0∧∃y5 y6:Nat,E=(Wo (.sl db 0 n cap n 1) (.i (a:Int)) (.i (b:Int)) (.func 69 [] [.q xb]) (.bool false) (.i (y5:Int)) (.i (y6:Int)) Ud Ud))∨(x=.ret∧∃bb,Qd Tp Try.f104 E (Mm enc H db l' T)=some (.bool bb)∧(bb=true→QQ lt a b l'))):=by
 have hn:=S.nb
 intro d
 induction d with
 | zero =>
  intro k i l hk ha hi hl hD hF hS
  exact ⟨_,_,l,lpo (sqo (Ql1 (xb:=xb) 0 db n cap (Mm enc H db l T) 0 a b i k (by omega) (y11:=Ud) (y12:=Ud)) (c:=sn 116 QD) (b:=sn 233 QD)),.refl,.inl ⟨rfl,_,_,rfl⟩⟩
 | succ d ih =>
  intro k i l hk ha hi hl hD hF hS
  have t0:=Ql0 (xb:=xb) 0 db n cap (Mm enc H db l T) 0 a b i k (by omega) (y11:=Ud) (y12:=Ud)
  obtain ⟨i',r,q1,q2,q3⟩:=QgS S hL (cap:=cap) (k:=k) hT hb hl hD _ i (qB _) ha hi hS
  by_cases c:i'=b
  ·have t1:=Ql4 (xb:=xb) 0 db n cap (Mm enc H db l T) 0 a b i' k (by omega) (y11:=Ud) (y12:=Ud)
   have st:=sq (t0) (sqo (RunsTo.block_ret (i:=1) (c:=sn 466 QD) (sq (bke (c:=sn 1864 QD) (r)) (sqo (t1) (c:=sn 1865 QD) (b:=sn 3731 QD)) (c:=sn 932 QD)) (by kernel_rfl)) (c:=sn 233 QD) (b:=sn 467 QD)) (c:=sn 116 QD)
   exact ⟨_,_,l,lpo (st),.refl,.inr ⟨rfl,true,by kernel_rfl,fun _=>c▸q2⟩⟩
  ·have t1:=Ql5 (xb:=xb) 0 db n cap (Mm enc H db l T) 0 a b i' k (by omega) (y11:=Ud) (y12:=Ud)
   have hw:qA.wrap ((b:Int)-(a:Int))=((b-a:Nat):Int):=(by rw [Qr (by omega) (by omega)];omega)
   by_cases c2:b-a<50
   ·have t2:=Ql6 (xb:=xb) 0 db n cap (Mm enc H db l T) 0 a b i' k (by rw [hw];omega) (y11:=Ud) (y12:=Ud)
    have st:=sq (t0) (sqo (RunsTo.block_ret (i:=1) (c:=sn 466 QD) (sq (bke (c:=sn 1864 QD) (r)) (sq (t1) (sqo (t2) (c:=sn 3731 QD) (b:=sn 7463 QD)) (c:=sn 1865 QD)) (c:=sn 932 QD)) (by kernel_rfl)) (c:=sn 233 QD) (b:=sn 467 QD)) (c:=sn 116 QD)
    exact ⟨_,_,l,lpo (st),.refl,.inr ⟨rfl,false,by kernel_rfl,fun h=>by cases h⟩⟩
   ·have t2:=Ql7 (xb:=xb) 0 db n cap (Mm enc H db l T) 0 a b i' k (by rw [hw];omega) (y11:=Ud) (y12:=Ud)
    have hp:qA.wrap ((i':Int)-1)=((i'-1:Nat):Int):=QN (by omega) (by omega)
    obtain ⟨s1,s2⟩:=S.st2 (T:=T) hl (i:=i') (j:=i'-1) (by omega) (by omega)
    have t3:=Ql8 (xb:=xb) 0 db n cap (Mm enc H db l T) 0 a b i' k (y11:=Ud) (y12:=Ud) (ixs hp (by omega)) (S.ld l T _ hl (by omega)) (ixs (i:=i') rfl (by omega)) (S.ld l T _ hl (by omega)) (ixs (i:=i') rfl (by omega)) s1 (ixs hp (by omega)) s2
    have sw:Sw a b l (swp l i' (i'-1)):=Sw.one (by omega) (by omega) (by omega) (by omega)
    have hS1:QQ lt a (i'-1) (swp l i' (i'-1)):=fun p q h1 h2 h3=>by
     rw [Du (by omega) (by omega) (by omega) (by omega),Du (by omega) (by omega) (by omega) (by omega)]
     exact q2 p q h1 h2 (by omega)
    have hl1:=WL sw hl
    have hD1:=hD.sw sw (by omega)
    have hF1:=hF.sw (by omega) sw
    generalize swp l i' (i'-1)=l1 at t3 sw hS1 hl1 hD1 hF1 s2
    obtain ⟨y,l2,r2,w1,w2⟩:=Qth S hL (cap:=cap) (k:=k) hT q1.1 (by omega) hb hl1 hD1 hF1 hS1
    have hl2:=WL w1 hl1
    have hD2:=hD1.sw w1 (by omega)
    have hF2:=hF1.sw (by omega) (w1.mono (qB _) (by omega))
    obtain ⟨y',y2,l3,r3,w3⟩:=Qti S (cap:=cap) (a:=a) (k:=k) (y0:=y) hT (i:=i') (by omega) hb hl2 hD2
    have hl3:=WL w3 hl2
    have sw3:Sw a b l2 l3:=w3.mono (by omega) (qB _)
    have hS3:QQ lt a i' l3:=fun p q h1 h2 h3=>by
     rw [w3.out (by omega) (k:=q) (by omega),w3.out (by omega) (k:=p) (by omega)]
     exact w2 p q h1 h2 h3
    have t6:=Qmk (xb:=xb) 0 db n cap (Mm enc H db l3 T) 0 a b i' k (y11:=y') (y12:=y2)
    rw [Qi (by omega)] at t6
    have st:=sq (t0) (sq (RunsTo.block_normal (i:=1) (c:=sn 466 QD) (sq (bke (c:=sn 1864 QD) (r)) (sq (t1) (sq (t2) (sq (t3) (sq (r2) (r3) (c:=sn 14927 QD)) (c:=sn 7463 QD)) (c:=sn 3731 QD)) (c:=sn 1865 QD)) (c:=sn 932 QD)) (by kernel_rfl)) (t6) (c:=sn 233 QD)) (c:=sn 116 QD)
    obtain ⟨x,E,l',rr,z1,z2⟩:=ih (k+1) i' l3 (by omega) q1.1 q1.2 hl3 (hD2.sw w3 (by omega)) (hF2.sw (by omega) sw3) hS3
    exact ⟨x,E,l',lop (st) (gcM _ _ _ _ _ rfl) (rr),sw.trans ((w1.mono (qB _) (by omega)).trans (sw3.trans z1)),z2⟩
theorem Qmn (S:So xb enc lt dom H db n) (hL:Lin lt) {T:Heap} (hT:mxs T=0) {a b:Nat} (hab:a<b) (hb:b≤n) {l:List α} (hl:l.length=n) (hD:Dm dom l) (hF:Flo lt a b l) :
  ∃bb l',ClS 104 [.sl db 0 n cap n 1,.int .i64 (a:Int),.int .i64 (b:Int),.func 69 [] [.ptr xb 0 0 1]] (Mm enc H db l T) (.bool bb) (Mm enc H db l' T)∧Sw a b l l'∧(bb=true→QQ lt a b l'):=by
 have hn:=S.nb
 have t0:=QlX (xb:=xb) 0 db n cap (Mm enc H db l T) 0 a b
 have t1:=QlY (xb:=xb) 0 db n cap (Mm enc H db l T) 0 a b (y9:=Ud) (y10:=Ud) (y11:=Ud) (y12:=Ud)
 rw [Qi (by omega)] at t1
 have t2:=QlZ (xb:=xb) 0 db n cap (Mm enc H db l T) 0 a b (a+1) (y10:=Ud) (y11:=Ud) (y12:=Ud)
 obtain ⟨x,E,l',r,q1,q2⟩:=QgU S hL (cap:=cap) hT hb 5 0 (a+1) l rfl (by omega) (by omega) hl hD hF Dv
 rcases q2 with ⟨rfl,y5,y6,rfl⟩ | ⟨rfl,bb,hv,hs⟩
 ·have z:=Qml (xb:=xb) 0 db n cap (Mm enc H db l' T) 0 a b y5 y6 (y11:=Ud) (y12:=Ud)
  have t:=sq (t0) (sq (t1) (sq (sq (t2) (bke (c:=sn 29 QD) (r)) (c:=sn 14 QD)) (z) (c:=sn 7 QD)) (c:=sn 3 QD)) (c:=QD)
  have hc:=CallsTo.shared (P:=Tp) (pol:=polSo) (g:=104) (fn:=Try.f104) (cd:=QD) (args:=[.sl db 0 n cap n 1,.int .i64 (a:Int),.int .i64 (b:Int),.func 69 [] [.ptr xb 0 0 1]]) (v:=.bool false) (by kernel_rfl) (by kernel_rfl) (by kernel_rfl) (by kernel_rfl) t (by kernel_rfl) (by simp) (by kernel_rfl)
  rw [gcM _ _ _ _ _ rfl] at hc
  exact ⟨false,l',hc,q1,fun h=>by cases h⟩
 ·have t:=sq (t0) (sq (t1) (sqo (sq (t2) (RunsTo.block_ret (i:=0) (c:=sn 29 QD) (r) (by kernel_rfl)) (c:=sn 14 QD)) (c:=sn 7 QD) (b:=sn 15 QD)) (c:=sn 3 QD)) (c:=QD)
  have hc:=CallsTo.shared (P:=Tp) (pol:=polSo) (g:=104) (fn:=Try.f104) (cd:=QD) (args:=[.sl db 0 n cap n 1,.int .i64 (a:Int),.int .i64 (b:Int),.func 69 [] [.ptr xb 0 0 1]]) (by kernel_rfl) (by kernel_rfl) (by kernel_rfl) (by kernel_rfl) t (by kernel_rfl) (by simp) hv
  rw [gcM _ _ _ _ _ rfl] at hc
  exact ⟨bb,l',hc,q1,hs⟩
end
end Go.Proofs.Ytiejmoglooaalaa
end
section
open Go Go.HL
namespace Go.Proofs.Ytiejmoglooaalaa
set_option maxRecDepth 100000
set_option linter.unusedSectionVars false
open Go.Proofs.Try renaming prog → Tp
open Go.HL.HV renaming undef → Ud
section
variable {xb:Nat}
noncomputable def QgV:Code:=Try.f112.body.getD .skip
abbrev QeH (v0 v1 v2 v3 v4 v10 v11:HV):Env:=[(0,v0),(1,v1),(2,v2),(3,v3),(4,v4),(10,v10),(11,v11)]
theorem Qmo (N:Nat) (db n:Nat) (cap:Option Nat) (H:Heap) (x:Nat) (a:Nat) (b:Nat) {a0:HV} {v0:HV} {a1:HV} {v1:HV} {c0:Int} {H0:Heap} {x0:Int} {H1:Heap} (g0:IX 24 (.c db n cap) (.n b) (a0)) (g1:LD H 3 (a0) (v0)) (g2:IX 24 (.c db n cap) (.n a) (a1)) (g3:LD H 3 (a1) (v1)) (g4:∀kf,N≤kf→Qc Tp polSo (kf+1) 69 [v0,v1,.q xb] H=some (.i c0,H0)) (g5:c0<0) (g6:LD H0 3 (.q x) (.i x0)) (g7:ST H0 3 (.q x) (.i (qA.wrap (x0+1))) H1): RT polSo 112 (sub [] QgV) [(0,.c db n cap),(1,.n a),(2,.n b),(3,.q x),(4,.func 69 [] [.q xb])] H .ret (QeH (.c db n cap) (.n a) (.n b) (.q x) (.func 69 [] [.q xb]) (.n b) (.n a)) H1 :=
 hx N 60 [jO 1 3 H g0,jO 1 4 H g1,jO 1 7 H g2,jO 1 8 H g3,jC 1 9 g4,jT 1 10 H0 g5,jO 2 2 H0 g6,jS 2 5 g7]
theorem Qmp (N:Nat) (db n:Nat) (cap:Option Nat) (H:Heap) (x:Nat) (a:Nat) (b:Nat) {a0:HV} {v0:HV} {a1:HV} {v1:HV} {c0:Int} {H0:Heap} (g0:IX 24 (.c db n cap) (.n b) (a0)) (g1:LD H 3 (a0) (v0)) (g2:IX 24 (.c db n cap) (.n a) (a1)) (g3:LD H 3 (a1) (v1)) (g4:∀kf,N≤kf→Qc Tp polSo (kf+1) 69 [v0,v1,.q xb] H=some (.i c0,H0)) (g5:¬(c0<0)): RT polSo 112 (sub [] QgV) [(0,.c db n cap),(1,.n a),(2,.n b),(3,.q x),(4,.func 69 [] [.q xb])] H .ret (QeH (.c db n cap) (.n a) (.n b) (.q x) (.func 69 [] [.q xb]) (.n a) (.n b)) H0 :=
 hx N 60 [jO 1 3 H g0,jO 1 4 H g1,jO 1 7 H g2,jO 1 8 H g3,jC 1 9 g4,jF 1 10 H0 g5]
noncomputable def QsA:Code:=Try.f111.body.getD .skip
abbrev Qmq (v0 v1 v2 v3 v4 v5 v12:HV):Env:=[(0,v0),(1,v1),(2,v2),(3,v3),(4,v4),(5,v5),(12,v12)]
theorem Qmr (N:Nat) (db n:Nat) (cap:Option Nat) (H:Heap) (x:Nat) (a:Nat) (b:Nat) (q:Nat) {p0:Int} {p1:Int} {H0:Heap} {p2:Int} {p3:Int} {H1:Heap} {p4:Int} {p5:Int} {H2:Heap} (g0:∀kf,N≤kf→Qc Tp polSo (kf+1) 112 [.c db n cap,.n a,.n b,.q x,.func 69 [] [.q xb]] H=some (.tuple [.i p0,.i p1],H0)) (g1:∀kf,N≤kf→Qc Tp polSo (kf+1) 112 [.c db n cap,.i p1,.n q,.q x,.func 69 [] [.q xb]] H0=some (.tuple [.i p2,.i p3],H1)) (g2:∀kf,N≤kf→Qc Tp polSo (kf+1) 112 [.c db n cap,.i p0,.i p2,.q x,.func 69 [] [.q xb]] H1=some (.tuple [.i p4,.i p5],H2)): RT polSo 111 (sub [] QsA) [(0,.c db n cap),(1,.n a),(2,.n b),(3,.n q),(4,.q x),(5,.func 69 [] [.q xb])] H .ret (Qmq (.c db n cap) (.i p4) (.i p5) (.i p3) (.q x) (.func 69 [] [.q xb]) (.i p5)) H2 :=
 hx N 60 [jC 1 5 g0,jC 2 5 g1,jC 3 5 g2]
noncomputable def QsB:Code:=Try.f110.body.getD .skip
abbrev Qms (v0 v1 v2 v3 v8:HV):Env:=[(0,v0),(1,v1),(2,v2),(3,v3),(8,v8)]
theorem Qmt (N:Nat) (db n:Nat) (cap:Option Nat) (H:Heap) (x:Nat) (a:Nat) {p0:Int} {H0:Heap} (g0:∀kf,N≤kf→Qc Tp polSo (kf+1) 111 [.c db n cap,.i (qA.wrap ((a:Int)-1)),.n a,.i (qA.wrap ((a:Int)+1)),.q x,.func 69 [] [.q xb]] H=some (.i p0,H0)): RT polSo 110 (sub [] QsB) [(0,.c db n cap),(1,.n a),(2,.q x),(3,.func 69 [] [.q xb])] H .ret (Qms (.c db n cap) (.n a) (.q x) (.func 69 [] [.q xb]) (.i p0)) H0 :=
 hx N 60 [jC 1 8 g0]
noncomputable def SR:Code:=Try.f102.body.getD .skip
abbrev YB (v0 v1 v2 v3 v8 v9 v10 v11 v12 v13 v14 v55:HV):Env:=[(0,v0),(1,v1),(2,v2),(3,v3),(8,v8),(9,v9),(10,v10),(11,v11),(12,v12),(13,v13),(14,v14),(55,v55)]
end
section
variable {xb:Nat}
variable (N:Nat) (db n:Nat) (cap:Option Nat) (H:Heap) (x:Nat) (a:Nat) (b:Nat)
include N db n cap H x a b
theorem Qmu {H0:Heap} {p0:Int} {H1:Heap} {p1:Int} {H2:Heap} {p2:Int} {H3:Heap} {p3:Int} {H4:Heap} {x0:Int} (g0:some (Q4 (.i 0) H)=some (.q x,H0)) (g1:8≤qA.wrap ((b:Int)-(a:Int))) (g2:50≤qA.wrap ((b:Int)-(a:Int))) (g3:∀kf,N≤kf→Qc Tp polSo (kf+1) 110 [.c db n cap,.i (qA.wrap ((a:Int)+qA.wrap (qA.wrap ((qA.wrap ((b:Int)-(a:Int)):Int).tdiv 4)*1))),.q x,.func 69 [] [.q xb]] H0=some (.i p0,H1)) (g4:∀kf,N≤kf→Qc Tp polSo (kf+1) 110 [.c db n cap,.i (qA.wrap ((a:Int)+qA.wrap (qA.wrap ((qA.wrap ((b:Int)-(a:Int)):Int).tdiv 4)*2))),.q x,.func 69 [] [.q xb]] H1=some (.i p1,H2)) (g5:∀kf,N≤kf→Qc Tp polSo (kf+1) 110 [.c db n cap,.i (qA.wrap ((a:Int)+qA.wrap (qA.wrap ((qA.wrap ((b:Int)-(a:Int)):Int).tdiv 4)*3))),.q x,.func 69 [] [.q xb]] H2=some (.i p2,H3)) (g6:∀kf,N≤kf→Qc Tp polSo (kf+1) 111 [.c db n cap,.i p0,.i p1,.i p2,.q x,.func 69 [] [.q xb]] H3=some (.i p3,H4)) (g7:LD H4 3 (.q x) (.i x0)) (g8:x0=0): RT polSo 102 (sub [] SR) [(0,.c db n cap),(1,.n a),(2,.n b),(3,.func 69 [] [.q xb])] H .ret (YB (.c db n cap) (.n a) (.n b) (.func 69 [] [.q xb]) (.i p3) (.i 1) (.i (qA.wrap ((b:Int)-(a:Int)))) (.q x) (.i p0) (.i p3) (.i p2) (.i x0)) H4 :=
 hx N 60 [jR 2 0 g0,jT 6 1 H0 g1,jT 7 1 H0 g2,jC 8 3 g3,jC 9 3 g4,jC 10 3 g5,jC 11 5 g6,jO 12 0 H4 g7,jT 14 0 H4 g8]
theorem Qmv {H0:Heap} {p0:Int} {H1:Heap} {p1:Int} {H2:Heap} {p2:Int} {H3:Heap} {p3:Int} {H4:Heap} {x0:Int} (g0:some (Q4 (.i 0) H)=some (.q x,H0)) (g1:8≤qA.wrap ((b:Int)-(a:Int))) (g2:50≤qA.wrap ((b:Int)-(a:Int))) (g3:∀kf,N≤kf→Qc Tp polSo (kf+1) 110 [.c db n cap,.i (qA.wrap ((a:Int)+qA.wrap (qA.wrap ((qA.wrap ((b:Int)-(a:Int)):Int).tdiv 4)*1))),.q x,.func 69 [] [.q xb]] H0=some (.i p0,H1)) (g4:∀kf,N≤kf→Qc Tp polSo (kf+1) 110 [.c db n cap,.i (qA.wrap ((a:Int)+qA.wrap (qA.wrap ((qA.wrap ((b:Int)-(a:Int)):Int).tdiv 4)*2))),.q x,.func 69 [] [.q xb]] H1=some (.i p1,H2)) (g5:∀kf,N≤kf→Qc Tp polSo (kf+1) 110 [.c db n cap,.i (qA.wrap ((a:Int)+qA.wrap (qA.wrap ((qA.wrap ((b:Int)-(a:Int)):Int).tdiv 4)*3))),.q x,.func 69 [] [.q xb]] H2=some (.i p2,H3)) (g6:∀kf,N≤kf→Qc Tp polSo (kf+1) 111 [.c db n cap,.i p0,.i p1,.i p2,.q x,.func 69 [] [.q xb]] H3=some (.i p3,H4)) (g7:LD H4 3 (.q x) (.i x0)) (g8:¬(x0=0)) (g9:x0=12): RT polSo 102 (sub [] SR) [(0,.c db n cap),(1,.n a),(2,.n b),(3,.func 69 [] [.q xb])] H .ret (YB (.c db n cap) (.n a) (.n b) (.func 69 [] [.q xb]) (.i p3) (.i 2) (.i (qA.wrap ((b:Int)-(a:Int)))) (.q x) (.i p0) (.i p3) (.i p2) (.i x0)) H4 :=
 hx N 60 [jR 2 0 g0,jT 6 1 H0 g1,jT 7 1 H0 g2,jC 8 3 g3,jC 9 3 g4,jC 10 3 g5,jC 11 5 g6,jO 12 0 H4 g7,jF 14 0 H4 g8,jT 16 0 H4 g9]
theorem Qmw {H0:Heap} {p0:Int} {H1:Heap} {p1:Int} {H2:Heap} {p2:Int} {H3:Heap} {p3:Int} {H4:Heap} {x0:Int} (g0:some (Q4 (.i 0) H)=some (.q x,H0)) (g1:8≤qA.wrap ((b:Int)-(a:Int))) (g2:50≤qA.wrap ((b:Int)-(a:Int))) (g3:∀kf,N≤kf→Qc Tp polSo (kf+1) 110 [.c db n cap,.i (qA.wrap ((a:Int)+qA.wrap (qA.wrap ((qA.wrap ((b:Int)-(a:Int)):Int).tdiv 4)*1))),.q x,.func 69 [] [.q xb]] H0=some (.i p0,H1)) (g4:∀kf,N≤kf→Qc Tp polSo (kf+1) 110 [.c db n cap,.i (qA.wrap ((a:Int)+qA.wrap (qA.wrap ((qA.wrap ((b:Int)-(a:Int)):Int).tdiv 4)*2))),.q x,.func 69 [] [.q xb]] H1=some (.i p1,H2)) (g5:∀kf,N≤kf→Qc Tp polSo (kf+1) 110 [.c db n cap,.i (qA.wrap ((a:Int)+qA.wrap (qA.wrap ((qA.wrap ((b:Int)-(a:Int)):Int).tdiv 4)*3))),.q x,.func 69 [] [.q xb]] H2=some (.i p2,H3)) (g6:∀kf,N≤kf→Qc Tp polSo (kf+1) 111 [.c db n cap,.i p0,.i p1,.i p2,.q x,.func 69 [] [.q xb]] H3=some (.i p3,H4)) (g7:LD H4 3 (.q x) (.i x0)) (g8:¬(x0=0)) (g9:¬(x0=12)): RT polSo 102 (sub [] SR) [(0,.c db n cap),(1,.n a),(2,.n b),(3,.func 69 [] [.q xb])] H .ret (YB (.c db n cap) (.n a) (.n b) (.func 69 [] [.q xb]) (.i p3) (.i 0) (.i (qA.wrap ((b:Int)-(a:Int)))) (.q x) (.i p0) (.i p3) (.i p2) (.i x0)) H4 :=
 hx N 60 [jR 2 0 g0,jT 6 1 H0 g1,jT 7 1 H0 g2,jC 8 3 g3,jC 9 3 g4,jC 10 3 g5,jC 11 5 g6,jO 12 0 H4 g7,jF 14 0 H4 g8,jF 16 0 H4 g9]
theorem Qmx {H0:Heap} {p0:Int} {H1:Heap} {x0:Int} (g0:some (Q4 (.i 0) H)=some (.q x,H0)) (g1:8≤qA.wrap ((b:Int)-(a:Int))) (g2:¬(50≤qA.wrap ((b:Int)-(a:Int)))) (g3:∀kf,N≤kf→Qc Tp polSo (kf+1) 111 [.c db n cap,.i (qA.wrap ((a:Int)+qA.wrap (qA.wrap ((qA.wrap ((b:Int)-(a:Int)):Int).tdiv 4)*1))),.i (qA.wrap ((a:Int)+qA.wrap (qA.wrap ((qA.wrap ((b:Int)-(a:Int)):Int).tdiv 4)*2))),.i (qA.wrap ((a:Int)+qA.wrap (qA.wrap ((qA.wrap ((b:Int)-(a:Int)):Int).tdiv 4)*3))),.q x,.func 69 [] [.q xb]] H0=some (.i p0,H1)) (g4:LD H1 3 (.q x) (.i x0)) (g5:x0=0): RT polSo 102 (sub [] SR) [(0,.c db n cap),(1,.n a),(2,.n b),(3,.func 69 [] [.q xb])] H .ret (YB (.c db n cap) (.n a) (.n b) (.func 69 [] [.q xb]) (.i p0) (.i 1) (.i (qA.wrap ((b:Int)-(a:Int)))) (.q x) (.i (qA.wrap ((a:Int)+qA.wrap (qA.wrap ((qA.wrap ((b:Int)-(a:Int)):Int).tdiv 4)*1)))) (.i p0) (.i (qA.wrap ((a:Int)+qA.wrap (qA.wrap ((qA.wrap ((b:Int)-(a:Int)):Int).tdiv 4)*3)))) (.i x0)) H1 :=
 hx N 60 [jR 2 0 g0,jT 6 1 H0 g1,jF 7 1 H0 g2,jC 11 5 g3,jO 12 0 H1 g4,jT 14 0 H1 g5]
theorem Qmy {H0:Heap} {p0:Int} {H1:Heap} {x0:Int} (g0:some (Q4 (.i 0) H)=some (.q x,H0)) (g1:8≤qA.wrap ((b:Int)-(a:Int))) (g2:¬(50≤qA.wrap ((b:Int)-(a:Int)))) (g3:∀kf,N≤kf→Qc Tp polSo (kf+1) 111 [.c db n cap,.i (qA.wrap ((a:Int)+qA.wrap (qA.wrap ((qA.wrap ((b:Int)-(a:Int)):Int).tdiv 4)*1))),.i (qA.wrap ((a:Int)+qA.wrap (qA.wrap ((qA.wrap ((b:Int)-(a:Int)):Int).tdiv 4)*2))),.i (qA.wrap ((a:Int)+qA.wrap (qA.wrap ((qA.wrap ((b:Int)-(a:Int)):Int).tdiv 4)*3))),.q x,.func 69 [] [.q xb]] H0=some (.i p0,H1)) (g4:LD H1 3 (.q x) (.i x0)) (g5:¬(x0=0)) (g6:x0=12): RT polSo 102 (sub [] SR) [(0,.c db n cap),(1,.n a),(2,.n b),(3,.func 69 [] [.q xb])] H .ret (YB (.c db n cap) (.n a) (.n b) (.func 69 [] [.q xb]) (.i p0) (.i 2) (.i (qA.wrap ((b:Int)-(a:Int)))) (.q x) (.i (qA.wrap ((a:Int)+qA.wrap (qA.wrap ((qA.wrap ((b:Int)-(a:Int)):Int).tdiv 4)*1)))) (.i p0) (.i (qA.wrap ((a:Int)+qA.wrap (qA.wrap ((qA.wrap ((b:Int)-(a:Int)):Int).tdiv 4)*3)))) (.i x0)) H1 :=
 hx N 60 [jR 2 0 g0,jT 6 1 H0 g1,jF 7 1 H0 g2,jC 11 5 g3,jO 12 0 H1 g4,jF 14 0 H1 g5,jT 16 0 H1 g6]
theorem Qmz {H0:Heap} {p0:Int} {H1:Heap} {x0:Int} (g0:some (Q4 (.i 0) H)=some (.q x,H0)) (g1:8≤qA.wrap ((b:Int)-(a:Int))) (g2:¬(50≤qA.wrap ((b:Int)-(a:Int)))) (g3:∀kf,N≤kf→Qc Tp polSo (kf+1) 111 [.c db n cap,.i (qA.wrap ((a:Int)+qA.wrap (qA.wrap ((qA.wrap ((b:Int)-(a:Int)):Int).tdiv 4)*1))),.i (qA.wrap ((a:Int)+qA.wrap (qA.wrap ((qA.wrap ((b:Int)-(a:Int)):Int).tdiv 4)*2))),.i (qA.wrap ((a:Int)+qA.wrap (qA.wrap ((qA.wrap ((b:Int)-(a:Int)):Int).tdiv 4)*3))),.q x,.func 69 [] [.q xb]] H0=some (.i p0,H1)) (g4:LD H1 3 (.q x) (.i x0)) (g5:¬(x0=0)) (g6:¬(x0=12)): RT polSo 102 (sub [] SR) [(0,.c db n cap),(1,.n a),(2,.n b),(3,.func 69 [] [.q xb])] H .ret (YB (.c db n cap) (.n a) (.n b) (.func 69 [] [.q xb]) (.i p0) (.i 0) (.i (qA.wrap ((b:Int)-(a:Int)))) (.q x) (.i (qA.wrap ((a:Int)+qA.wrap (qA.wrap ((qA.wrap ((b:Int)-(a:Int)):Int).tdiv 4)*1)))) (.i p0) (.i (qA.wrap ((a:Int)+qA.wrap (qA.wrap ((qA.wrap ((b:Int)-(a:Int)):Int).tdiv 4)*3)))) (.i x0)) H1 :=
 hx N 60 [jR 2 0 g0,jT 6 1 H0 g1,jF 7 1 H0 g2,jC 11 5 g3,jO 12 0 H1 g4,jF 14 0 H1 g5,jF 16 0 H1 g6]
end
section
variable {xb:Nat}
noncomputable def B96:Code:=Try.f96.body.getD .skip
abbrev QsC (v0 v2:HV):Env:=[(0,v0),(2,v2)]
theorem QmA (N:Nat) (db n:Nat) (cap:Option Nat) (H:Heap) (x:Nat) {x0:Int} {x1:Int} {h0:Int} {h1:Int} {H0:Heap} {x2:Int} {x3:Int} {h2:Int} {h3:Int} {H1:Heap} {x4:Int} {x5:Int} {h4:Int} {h5:Int} {H2:Heap} {x6:Int} (g0:LD H 123 (.q x) (.int .u64 x0)) (g1:LD H 123 (.q x) (.int .u64 x1)) (g2:BV .shl 123 (.int .u64 x1) (.int .u64 13) (.int .u64 h0)) (g3:BV .xor 123 (.int .u64 x0) (.int .u64 h0) (.int .u64 h1)) (g4:ST H 123 (.q x) (.int .u64 h1) H0) (g5:LD H0 123 (.q x) (.int .u64 x2)) (g6:LD H0 123 (.q x) (.int .u64 x3)) (g7:BV .shr 123 (.int .u64 x3) (.int .u64 7) (.int .u64 h2)) (g8:BV .xor 123 (.int .u64 x2) (.int .u64 h2) (.int .u64 h3)) (g9:ST H0 123 (.q x) (.int .u64 h3) H1) (g10:LD H1 123 (.q x) (.int .u64 x4)) (g11:LD H1 123 (.q x) (.int .u64 x5)) (g12:BV .shl 123 (.int .u64 x5) (.int .u64 17) (.int .u64 h4)) (g13:BV .xor 123 (.int .u64 x4) (.int .u64 h4) (.int .u64 h5)) (g14:ST H1 123 (.q x) (.int .u64 h5) H2) (g15:LD H2 123 (.q x) (.int .u64 x6)): RT polSo 96 (sub [] B96) [(0,.q x)] H .ret (QsC (.q x) (.int .u64 x6)) H2 :=
 hx N 60 [jO 1 2 H g0,jO 1 5 H g1,jO 1 6 H g2,jO 1 7 H g3,jS 1 9 g4,jO 2 2 H0 g5,jO 2 5 H0 g6,jO 2 6 H0 g7,jO 2 7 H0 g8,jS 2 9 g9,jO 3 2 H1 g10,jO 3 5 H1 g11,jO 3 6 H1 g12,jO 3 7 H1 g13,jS 3 9 g14,jO 4 2 H2 g15]
noncomputable def Kr:Code:=Try.f101.body.getD .skip
abbrev Ks (v0 v1 v2 v8 v9 v10 v11 v12:HV):Env:=[(0,v0),(1,v1),(2,v2),(8,v8),(9,v9),(10,v10),(11,v11),(12,v12)]
end
abbrev Dw (db:Nat) (n:Nat) (cap:Option Nat) (a:Nat) (b:Nat) (k:Nat) (x:Nat) (u5 u6 u7:HV):Env:=Ks (.c db n cap) (.n a) (.n b) (.n k) (.q x) u5 u6 u7
section
variable {xb:Nat}
variable (N:Nat) (db n:Nat) (cap:Option Nat) (H:Heap) (x:Nat) (a:Nat) (b:Nat)
include N db n cap H x a b
theorem QmB:RT polSo 101 (sn 2 Kr) [(0,.c db n cap),(1,.n a),(2,.n b),(3,.func 69 [] [.q xb])] H .normal (Ks (.c db n cap) (.n a) (.n b) (.i (qA.wrap ((b:Int)-(a:Int)))) Ud Ud Ud Ud) H :=
 hx N 60 []
end
section
variable {xb:Nat}
variable (N:Nat) (db n:Nat) (cap:Option Nat) (H:Heap) (x:Nat) (a:Nat) (b:Nat)
include N db n cap H x a b
theorem QmC (k:Nat) {y9 y10 y11 y12:HV} (g0:8≤(k:Int)): RunsTo Tp polSo 101 (sn 6 Kr) (Ks (.c db n cap) (.n a) (.n b) (.n k) y9 y10 y11 y12) H .normal [0,1,2,8,9,10,11,12,17] [(0,.c db n cap),(1,.n a),(2,.n b),(8,.n k),(9,y9),(10,y10),(11,y11),(12,y12),(17,.bool true)] H :=
 hx N 60 [jT 1 1 H g0]
theorem QmD (k:Nat) {y9 y10 y11 y12:HV} {H0:Heap} {H1:Heap} (g0:some (Q4 (.int .u64 0) H)=some (.q x,H0)) (g1:ST H0 123 (.q x) (.int .u64 (IntKind.u64.wrap (k:Int))) H1): RT polSo 101 (sn 28 Kr) (Ks (.c db n cap) (.n a) (.n b) (.n k) y9 y10 y11 y12) H .normal (Dw db n cap a b k x y10 y11 y12) H1 :=
 hx N 60 [jR 2 2 g0,jS 2 3 g1]
theorem QmE (k:Nat) {y10 y11 y12:HV} {u0:Int} {H0:Heap} (g0:∀kf,N≤kf→Qc Tp polSo (kf+1) 95 [.n k] H=some (.int .u64 u0,H0)): RT polSo 101 (sn 58 Kr) (Dw db n cap a b k x y10 y11 y12) H .normal (Dw db n cap a b k x (.int .u64 u0) y11 y12) H0 :=
 hx N 60 [jC 3 1 g0]
theorem QmF (k:Nat) (mo:Int) {y11 y12:HV}: RT polSo 101 (sn 118 Kr) (Dw db n cap a b k x (.int .u64 mo) y11 y12) H .normal (Dw db n cap a b k x (.int .u64 mo) (.i (qA.wrap (qA.wrap ((a:Int)+qA.wrap (qA.wrap (((k:Int):Int).tdiv 4)*2))-1))) y12) H :=
 hx N 60 []
theorem QmG (k:Nat) (mo:Int) (i:Nat) {y12:HV} {u0:Int} {H0:Heap} {h0:Int} {a0:HV} {v0:HV} {a1:HV} {v1:HV} {a2:HV} {H1:Heap} {a3:HV} {H2:Heap} (g0:(i:Int)≤qA.wrap (qA.wrap ((a:Int)+qA.wrap (qA.wrap (((k:Int):Int).tdiv 4)*2))+1)) (g1:∀kf,N≤kf→Qc Tp polSo (kf+1) 96 [.q x] H=some (.int .u64 u0,H0)) (g2:BV .and 82 (.int .u64 u0) (.int .u64 (IntKind.u64.wrap (mo-1))) (.int .u64 h0)) (g3:(k:Int)≤qA.wrap h0) (g4:IX 24 (.c db n cap) (.i (qA.wrap ((a:Int)+qA.wrap (qA.wrap h0-(k:Int))))) (a0)) (g5:LD H0 3 (a0) (v0)) (g6:IX 24 (.c db n cap) (.n i) (a1)) (g7:LD H0 3 (a1) (v1)) (g8:IX 24 (.c db n cap) (.n i) (a2)) (g9:ST H0 3 (a2) (v0) H1) (g10:IX 24 (.c db n cap) (.i (qA.wrap ((a:Int)+qA.wrap (qA.wrap h0-(k:Int))))) (a3)) (g11:ST H1 3 (a3) (v1) H2): RT polSo 101 (sn 476 Kr) (Dw db n cap a b k x (.int .u64 mo) (.n i) y12) H .normal (Dw db n cap a b k x (.int .u64 mo) (.i (qA.wrap ((i:Int)+1))) (.i (qA.wrap (qA.wrap h0-(k:Int))))) H2 :=
 hx N 60 [jT 5 7 H g0,jC 7 0 g1,jO 7 3 H0 g2,jT 8 2 H0 g3,jO 10 10 H0 g4,jO 10 11 H0 g5,jO 10 14 H0 g6,jO 10 15 H0 g7,jO 10 16 H0 g8,jS 10 17 g9,jO 10 18 H1 g10,jS 10 19 g11]
theorem QmH (k:Nat) (mo:Int) (i:Nat) {y12:HV} {u0:Int} {H0:Heap} {h0:Int} {a0:HV} {v0:HV} {a1:HV} {v1:HV} {a2:HV} {H1:Heap} {a3:HV} {H2:Heap} (g0:(i:Int)≤qA.wrap (qA.wrap ((a:Int)+qA.wrap (qA.wrap (((k:Int):Int).tdiv 4)*2))+1)) (g1:∀kf,N≤kf→Qc Tp polSo (kf+1) 96 [.q x] H=some (.int .u64 u0,H0)) (g2:BV .and 82 (.int .u64 u0) (.int .u64 (IntKind.u64.wrap (mo-1))) (.int .u64 h0)) (g3:¬((k:Int)≤qA.wrap h0)) (g4:IX 24 (.c db n cap) (.i (qA.wrap ((a:Int)+qA.wrap h0))) (a0)) (g5:LD H0 3 (a0) (v0)) (g6:IX 24 (.c db n cap) (.n i) (a1)) (g7:LD H0 3 (a1) (v1)) (g8:IX 24 (.c db n cap) (.n i) (a2)) (g9:ST H0 3 (a2) (v0) H1) (g10:IX 24 (.c db n cap) (.i (qA.wrap ((a:Int)+qA.wrap h0))) (a3)) (g11:ST H1 3 (a3) (v1) H2): RT polSo 101 (sn 476 Kr) (Dw db n cap a b k x (.int .u64 mo) (.n i) y12) H .normal (Dw db n cap a b k x (.int .u64 mo) (.i (qA.wrap ((i:Int)+1))) (.i (qA.wrap h0))) H2 :=
 hx N 60 [jT 5 7 H g0,jC 7 0 g1,jO 7 3 H0 g2,jF 8 2 H0 g3,jO 10 10 H0 g4,jO 10 11 H0 g5,jO 10 14 H0 g6,jO 10 15 H0 g7,jO 10 16 H0 g8,jS 10 17 g9,jO 10 18 H1 g10,jS 10 19 g11]
theorem QmI (k:Nat) (mo:Int) (i:Nat) {y12:HV} (g0:¬((i:Int)≤qA.wrap (qA.wrap ((a:Int)+qA.wrap (qA.wrap (((k:Int):Int).tdiv 4)*2))+1))): RT polSo 101 (sn 476 Kr) (Dw db n cap a b k x (.int .u64 mo) (.n i) y12) H (.exit 0) (Dw db n cap a b k x (.int .u64 mo) (.n i) y12) H :=
 hx N 60 [jF 5 7 H g0]
end
section
variable {xb:Nat}
noncomputable def B88:Code:=Try.f88.body.getD .skip
abbrev WW (v0 v1 v2 v3 v4 v10 v11 v12 v13 v14 v15 v16 v17 v18 v19 v20:HV):Env:=[(0,v0),(1,v1),(2,v2),(3,v3),(4,v4),(10,v10),(11,v11),(12,v12),(13,v13),(14,v14),(15,v15),(16,v16),(17,v17),(18,v18),(19,v19),(20,v20)]
end
abbrev e88 (db:Nat) (n:Nat) (cap:Option Nat) (a:Nat) (b:Nat) (lim:Int) (u4 u5 u6 u7 u8 u9 u10 u11 u12 u13 u14 u15:HV):Env:=WW (.c db n cap) (.n a) (.n b) (.i lim) u4 u5 u6 u7 u8 u9 u10 u11 u12 u13 u14 u15
section
variable {xb:Nat}
variable (N:Nat) (db n:Nat) (cap:Option Nat) (H:Heap) (x:Nat) (a:Nat) (b:Nat) (lim:Int)
include N db n cap H x a b lim
theorem QmJ:RT polSo 88 (sn 2 B88) [(0,.c db n cap),(1,.n a),(2,.n b),(3,.i lim),(4,.func 69 [] [.q xb])] H .normal (e88 db n cap a b lim (.func 69 [] [.q xb]) (.bool true) Ud Ud Ud Ud Ud Ud Ud Ud Ud Ud) H :=
 hx N 60 []
end
section
variable {xb:Nat}
variable (N:Nat) (db n:Nat) (cap:Option Nat) (H:Heap) (x:Nat) (a:Nat) (b:Nat) (lim:Int)
include N db n cap H x a b lim
theorem QmK {y10 y11 y12 y13 y14 y15 y16 y17 y18 y19 y20:HV}: RT polSo 88 (sn 6 B88) (e88 db n cap a b lim (.func 69 [] [.q xb]) y10 y11 y12 y13 y14 y15 y16 y17 y18 y19 y20) H .normal (e88 db n cap a b lim (.func 69 [] [.q xb]) y10 (.bool true) y12 y13 y14 y15 y16 y17 y18 y19 y20) H :=
 hx N 60 []
theorem QmL {y10 y11 y12 y13 y14 y15 y16 y17 y18 y19 y20:HV}: RT polSo 88 (sn 112 B88) (e88 db n cap a b lim (.func 69 [] [.q xb]) y10 y11 y12 y13 y14 y15 y16 y17 y18 y19 y20) H .normal (e88 db n cap a b lim (.func 69 [] [.q xb]) y10 y11 (.i (qA.wrap ((b:Int)-(a:Int)))) y13 y14 y15 y16 y17 y18 y19 y20) H :=
 hx N 60 []
theorem QmM (k:Nat) {y10 y11 y13 y14 y15 y16 y17 y18 y19 y20:HV} {H0:Heap} (g0:(k:Int)≤12) (g1:∀kf,N≤kf→Qc Tp polSo (kf+1) 99 [.c db n cap,.n a,.n b,.func 69 [] [.q xb]] H=some (.tuple [],H0)): RT polSo 88 (sn 226 B88) (e88 db n cap a b lim (.func 69 [] [.q xb]) y10 y11 (.n k) y13 y14 y15 y16 y17 y18 y19 y20) H .ret (e88 db n cap a b lim (.func 69 [] [.q xb]) y10 y11 (.n k) y13 y14 y15 y16 y17 y18 y19 y20) H0 :=
 hx N 60 [jT 3 1 H g0,jC 4 4 g1]
theorem QmN (k:Nat) {y10 y11 y13 y14 y15 y16 y17 y18 y19 y20:HV} (g0:¬((k:Int)≤12)): RT polSo 88 (sn 226 B88) (e88 db n cap a b lim (.func 69 [] [.q xb]) y10 y11 (.n k) y13 y14 y15 y16 y17 y18 y19 y20) H .normal (e88 db n cap a b lim (.func 69 [] [.q xb]) y10 y11 (.n k) y13 y14 y15 y16 y17 y18 y19 y20) H :=
 hx N 60 [jF 3 1 H g0]
theorem QmO {y10 y11 y12 y13 y14 y15 y16 y17 y18 y19 y20:HV} {H0:Heap} (g0:lim=0) (g1:∀kf,N≤kf→Qc Tp polSo (kf+1) 100 [.c db n cap,.n a,.n b,.func 69 [] [.q xb]] H=some (.tuple [],H0)): RT polSo 88 (sn 454 B88) (e88 db n cap a b lim (.func 69 [] [.q xb]) y10 y11 y12 y13 y14 y15 y16 y17 y18 y19 y20) H .ret (e88 db n cap a b lim (.func 69 [] [.q xb]) y10 y11 y12 y13 y14 y15 y16 y17 y18 y19 y20) H0 :=
 hx N 60 [jT 5 1 H g0,jC 6 4 g1]
theorem QmP {y10 y11 y12 y13 y14 y15 y16 y17 y18 y19 y20:HV} (g0:¬(lim=0)): RT polSo 88 (sn 454 B88) (e88 db n cap a b lim (.func 69 [] [.q xb]) y10 y11 y12 y13 y14 y15 y16 y17 y18 y19 y20) H .normal (e88 db n cap a b lim (.func 69 [] [.q xb]) y10 y11 y12 y13 y14 y15 y16 y17 y18 y19 y20) H :=
 hx N 60 [jF 5 1 H g0]
theorem QmQ {y11 y12 y13 y14 y15 y16 y17 y18 y19 y20:HV}: RT polSo 88 (sn 910 B88) (e88 db n cap a b lim (.func 69 [] [.q xb]) (.bool true) y11 y12 y13 y14 y15 y16 y17 y18 y19 y20) H .normal (e88 db n cap a b lim (.func 69 [] [.q xb]) (.bool true) y11 y12 y13 y14 y15 y16 y17 y18 y19 y20) H :=
 hx N 60 []
theorem QmR {y11 y12 y13 y14 y15 y16 y17 y18 y19 y20:HV} {H0:Heap} (g0:∀kf,N≤kf→Qc Tp polSo (kf+1) 101 [.c db n cap,.n a,.n b,.func 69 [] [.q xb]] H=some (.tuple [],H0)): RT polSo 88 (sn 910 B88) (e88 db n cap a b lim (.func 69 [] [.q xb]) (.bool false) y11 y12 y13 y14 y15 y16 y17 y18 y19 y20) H .normal (WW (.c db n cap) (.n a) (.n b) (.i (qA.wrap (lim-1))) (.func 69 [] [.q xb]) (.bool false) y11 y12 y13 y14 y15 y16 y17 y18 y19 y20) H0 :=
 hx N 60 [jC 8 4 g0]
theorem QmS {y10 y11 y12 y13 y14 y15 y16 y17 y18 y19 y20:HV} {p0:Int} {p1:Int} {H0:Heap} (g0:∀kf,N≤kf→Qc Tp polSo (kf+1) 102 [.c db n cap,.n a,.n b,.func 69 [] [.q xb]] H=some (.tuple [.i p0,.i p1],H0)): RT polSo 88 (sn 1822 B88) (e88 db n cap a b lim (.func 69 [] [.q xb]) y10 y11 y12 y13 y14 y15 y16 y17 y18 y19 y20) H .normal (e88 db n cap a b lim (.func 69 [] [.q xb]) y10 y11 y12 (.i p0) (.i p1) y15 y16 y17 y18 y19 y20) H0 :=
 hx N 60 [jC 10 4 g0]
theorem QmT (p:Nat) (h:Int) {y10 y11 y12 y15 y16 y17 y18 y19 y20:HV} {H0:Heap} (g0:h=2) (g1:∀kf,N≤kf→Qc Tp polSo (kf+1) 103 [.c db n cap,.n a,.n b,.func 69 [] [.q xb]] H=some (.tuple [],H0)): RT polSo 88 (sn 3646 B88) (e88 db n cap a b lim (.func 69 [] [.q xb]) y10 y11 y12 (.n p) (.i h) y15 y16 y17 y18 y19 y20) H .normal (e88 db n cap a b lim (.func 69 [] [.q xb]) y10 y11 y12 (.i (qA.wrap (qA.wrap ((b:Int)-1)-qA.wrap ((p:Int)-(a:Int))))) (.i 1) y15 y16 y17 y18 y19 y20) H0 :=
 hx N 60 [jT 11 1 H g0,jC 12 4 g1]
theorem QmU (p:Nat) (h:Int) {y10 y11 y12 y15 y16 y17 y18 y19 y20:HV} (g0:¬(h=2)): RT polSo 88 (sn 3646 B88) (e88 db n cap a b lim (.func 69 [] [.q xb]) y10 y11 y12 (.n p) (.i h) y15 y16 y17 y18 y19 y20) H .normal (e88 db n cap a b lim (.func 69 [] [.q xb]) y10 y11 y12 (.n p) (.i h) y15 y16 y17 y18 y19 y20) H :=
 hx N 60 [jF 11 1 H g0]
theorem QmV (h:Int) {y12 y13 y15 y16 y17 y18 y19 y20:HV} {H0:Heap} (g0:h=1) (g1:∀kf,N≤kf→Qc Tp polSo (kf+1) 104 [.c db n cap,.n a,.n b,.func 69 [] [.q xb]] H=some (.bool true,H0)): RT polSo 88 (sn 7294 B88) (e88 db n cap a b lim (.func 69 [] [.q xb]) (.bool true) (.bool true) y12 y13 (.i h) y15 y16 y17 y18 y19 y20) H .ret (e88 db n cap a b lim (.func 69 [] [.q xb]) (.bool true) (.bool true) y12 y13 (.i h) y15 y16 y17 y18 y19 y20) H0 :=
 hx N 60 [jT 15 6 H g0,jC 16 4 g1]
theorem QmW (h:Int) {y12 y13 y15 y16 y17 y18 y19 y20:HV} {H0:Heap} (g0:h=1) (g1:∀kf,N≤kf→Qc Tp polSo (kf+1) 104 [.c db n cap,.n a,.n b,.func 69 [] [.q xb]] H=some (.bool false,H0)): RT polSo 88 (sn 7294 B88) (e88 db n cap a b lim (.func 69 [] [.q xb]) (.bool true) (.bool true) y12 y13 (.i h) y15 y16 y17 y18 y19 y20) H .normal (e88 db n cap a b lim (.func 69 [] [.q xb]) (.bool true) (.bool true) y12 y13 (.i h) y15 y16 y17 y18 y19 y20) H0 :=
 hx N 60 [jT 15 6 H g0,jC 16 4 g1]
theorem QmX (h:Int) {y12 y13 y15 y16 y17 y18 y19 y20:HV} (g0:¬(h=1)): RT polSo 88 (sn 7294 B88) (e88 db n cap a b lim (.func 69 [] [.q xb]) (.bool true) (.bool true) y12 y13 (.i h) y15 y16 y17 y18 y19 y20) H .normal (e88 db n cap a b lim (.func 69 [] [.q xb]) (.bool true) (.bool true) y12 y13 (.i h) y15 y16 y17 y18 y19 y20) H :=
 hx N 60 [jF 15 6 H g0]
theorem QmY (h:Int) {y12 y13 y15 y16 y17 y18 y19 y20:HV}: RT polSo 88 (sn 7294 B88) (e88 db n cap a b lim (.func 69 [] [.q xb]) (.bool true) (.bool false) y12 y13 (.i h) y15 y16 y17 y18 y19 y20) H .normal (e88 db n cap a b lim (.func 69 [] [.q xb]) (.bool true) (.bool false) y12 y13 (.i h) y15 y16 y17 y18 y19 y20) H :=
 hx N 60 []
theorem QmZ (h:Int) {y11 y12 y13 y15 y16 y17 y18 y19 y20:HV}: RT polSo 88 (sn 7294 B88) (e88 db n cap a b lim (.func 69 [] [.q xb]) (.bool false) y11 y12 y13 (.i h) y15 y16 y17 y18 y19 y20) H .normal (e88 db n cap a b lim (.func 69 [] [.q xb]) (.bool false) y11 y12 y13 (.i h) y15 y16 y17 y18 y19 y20) H :=
 hx N 60 []
theorem Qm0 (p:Nat) {y10 y11 y12 y14 y15 y16 y17 y18 y19 y20:HV} {a0:HV} {v0:HV} {a1:HV} {v1:HV} {c0:Int} {H0:Heap} (g0:0<(a:Int)) (g1:IX 24 (.c db n cap) (.i (qA.wrap ((a:Int)-1))) (a0)) (g2:LD H 3 (a0) (v0)) (g3:IX 24 (.c db n cap) (.n p) (a1)) (g4:LD H 3 (a1) (v1)) (g5:∀kf,N≤kf→Qc Tp polSo (kf+1) 69 [v0,v1,.q xb] H=some (.i c0,H0)) (g6:c0<0): RT polSo 88 (sn 14590 B88) (e88 db n cap a b lim (.func 69 [] [.q xb]) y10 y11 y12 (.n p) y14 y15 y16 y17 y18 y19 y20) H .normal (e88 db n cap a b lim (.func 69 [] [.q xb]) y10 y11 y12 (.n p) y14 y15 y16 y17 y18 y19 y20) H0 :=
 hx N 60 [jT 17 1 H g0,jO 17 7 H g1,jO 17 8 H g2,jO 17 11 H g3,jO 17 12 H g4,jC 17 13 g5,jT 17 14 H0 g6]
theorem Qm1 (p:Nat) {y10 y11 y12 y14 y15 y16 y17 y18 y19 y20:HV} {a0:HV} {v0:HV} {a1:HV} {v1:HV} {c0:Int} {H0:Heap} {m0:Int} {H1:Heap} (g0:0<(a:Int)) (g1:IX 24 (.c db n cap) (.i (qA.wrap ((a:Int)-1))) (a0)) (g2:LD H 3 (a0) (v0)) (g3:IX 24 (.c db n cap) (.n p) (a1)) (g4:LD H 3 (a1) (v1)) (g5:∀kf,N≤kf→Qc Tp polSo (kf+1) 69 [v0,v1,.q xb] H=some (.i c0,H0)) (g6:¬(c0<0)) (g7:∀kf,N≤kf→Qc Tp polSo (kf+1) 105 [.c db n cap,.n a,.n b,.n p,.func 69 [] [.q xb]] H0=some (.i m0,H1)): RT polSo 88 (sn 14590 B88) (e88 db n cap a b lim (.func 69 [] [.q xb]) y10 y11 y12 (.n p) y14 y15 y16 y17 y18 y19 y20) H (.exit 1) (WW (.c db n cap) (.i m0) (.n b) (.i lim) (.func 69 [] [.q xb]) y10 y11 y12 (.n p) y14 (.i m0) y16 y17 y18 y19 y20) H1 :=
 hx N 60 [jT 17 1 H g0,jO 17 7 H g1,jO 17 8 H g2,jO 17 11 H g3,jO 17 12 H g4,jC 17 13 g5,jF 17 14 H0 g6,jC 18 5 g7]
theorem Qm2 (p:Nat) {y10 y11 y12 y14 y15 y16 y17 y18 y19 y20:HV} (g0:¬(0<(a:Int))): RT polSo 88 (sn 14590 B88) (e88 db n cap a b lim (.func 69 [] [.q xb]) y10 y11 y12 (.n p) y14 y15 y16 y17 y18 y19 y20) H .normal (e88 db n cap a b lim (.func 69 [] [.q xb]) y10 y11 y12 (.n p) y14 y15 y16 y17 y18 y19 y20) H :=
 hx N 60 [jF 17 1 H g0]
theorem Qm3 (p:Nat) {y10 y11 y12 y14 y15 y16 y17 y18 y19 y20:HV} {m0:Int} {bb0:Bool} {H0:Heap} (g0:∀kf,N≤kf→Qc Tp polSo (kf+1) 106 [.c db n cap,.n a,.n b,.n p,.func 69 [] [.q xb]] H=some (.tuple [.i m0,.bool bb0],H0)): RT polSo 88 (sn 29182 B88) (e88 db n cap a b lim (.func 69 [] [.q xb]) y10 y11 y12 (.n p) y14 y15 y16 y17 y18 y19 y20) H .normal (e88 db n cap a b lim (.func 69 [] [.q xb]) y10 y11 y12 (.n p) y14 y15 (.i m0) (.bool bb0) y18 y19 y20) H0 :=
 hx N 60 [jC 20 5 g0]
theorem Qm4 {y10 y11 y12 y13 y14 y15 y16 y17 y18 y19 y20:HV}: RT polSo 88 (sn 58366 B88) (e88 db n cap a b lim (.func 69 [] [.q xb]) y10 y11 y12 y13 y14 y15 y16 y17 y18 y19 y20) H .normal (e88 db n cap a b lim (.func 69 [] [.q xb]) y10 y17 y12 y13 y14 y15 y16 y17 y18 y19 y20) H :=
 hx N 60 []
theorem Qm5 (q:Nat) {y10 y11 y12 y13 y14 y15 y17 y18 y19 y20:HV}: RT polSo 88 (sn 116734 B88) (e88 db n cap a b lim (.func 69 [] [.q xb]) y10 y11 y12 y13 y14 y15 (.n q) y17 y18 y19 y20) H .normal (e88 db n cap a b lim (.func 69 [] [.q xb]) y10 y11 y12 y13 y14 y15 (.n q) y17 (.i (qA.wrap ((q:Int)-(a:Int)))) (.i (qA.wrap ((b:Int)-(q:Int)))) y20) H :=
 hx N 60 []
theorem Qm6 (k:Nat) {y10 y11 y13 y14 y15 y16 y17 y18 y19 y20:HV}: RT polSo 88 (sn 233470 B88) (e88 db n cap a b lim (.func 69 [] [.q xb]) y10 y11 (.n k) y13 y14 y15 y16 y17 y18 y19 y20) H .normal (e88 db n cap a b lim (.func 69 [] [.q xb]) y10 y11 (.n k) y13 y14 y15 y16 y17 y18 y19 (.i (qA.wrap (((k:Int):Int).tdiv 8)))) H :=
 hx N 60 []
theorem Qm7 (q:Nat) (u:Int) (v:Int) (w:Int) {y10 y11 y12 y13 y14 y15 y17:HV} {H0:Heap} (g0:u<v) (g1:w≤u) (g2:∀kf,N≤kf→Qc Tp polSo (kf+1) 88 [.c db n cap,.n a,.n q,.i lim,.func 69 [] [.q xb]] H=some (.tuple [],H0)): RT polSo 88 (sn 233471 B88) (e88 db n cap a b lim (.func 69 [] [.q xb]) y10 y11 y12 y13 y14 y15 (.n q) y17 (.i u) (.i v) (.i w)) H .normal (WW (.c db n cap) (.i (qA.wrap ((q:Int)+1))) (.n b) (.i lim) (.func 69 [] [.q xb]) (.bool true) y11 y12 y13 y14 y15 (.n q) y17 (.i u) (.i v) (.i w)) H0 :=
 hx N 60 [jT 24 2 H g0,jT 25 2 H g1,jC 26 5 g2]
theorem Qm8 (q:Nat) (u:Int) (v:Int) (w:Int) {y10 y11 y12 y13 y14 y15 y17:HV} {H0:Heap} (g0:u<v) (g1:¬(w≤u)) (g2:∀kf,N≤kf→Qc Tp polSo (kf+1) 88 [.c db n cap,.n a,.n q,.i lim,.func 69 [] [.q xb]] H=some (.tuple [],H0)): RT polSo 88 (sn 233471 B88) (e88 db n cap a b lim (.func 69 [] [.q xb]) y10 y11 y12 y13 y14 y15 (.n q) y17 (.i u) (.i v) (.i w)) H .normal (WW (.c db n cap) (.i (qA.wrap ((q:Int)+1))) (.n b) (.i lim) (.func 69 [] [.q xb]) (.bool false) y11 y12 y13 y14 y15 (.n q) y17 (.i u) (.i v) (.i w)) H0 :=
 hx N 60 [jT 24 2 H g0,jF 25 2 H g1,jC 26 5 g2]
theorem Qm9 (q:Nat) (u:Int) (v:Int) (w:Int) {y10 y11 y12 y13 y14 y15 y17:HV} {H0:Heap} (g0:¬(u<v)) (g1:w≤v) (g2:∀kf,N≤kf→Qc Tp polSo (kf+1) 88 [.c db n cap,.i (qA.wrap ((q:Int)+1)),.n b,.i lim,.func 69 [] [.q xb]] H=some (.tuple [],H0)): RT polSo 88 (sn 233471 B88) (e88 db n cap a b lim (.func 69 [] [.q xb]) y10 y11 y12 y13 y14 y15 (.n q) y17 (.i u) (.i v) (.i w)) H .normal (WW (.c db n cap) (.n a) (.n q) (.i lim) (.func 69 [] [.q xb]) (.bool true) y11 y12 y13 y14 y15 (.n q) y17 (.i u) (.i v) (.i w)) H0 :=
 hx N 60 [jF 24 2 H g0,jT 28 2 H g1,jC 29 6 g2]
theorem Qna (q:Nat) (u:Int) (v:Int) (w:Int) {y10 y11 y12 y13 y14 y15 y17:HV} {H0:Heap} (g0:¬(u<v)) (g1:¬(w≤v)) (g2:∀kf,N≤kf→Qc Tp polSo (kf+1) 88 [.c db n cap,.i (qA.wrap ((q:Int)+1)),.n b,.i lim,.func 69 [] [.q xb]] H=some (.tuple [],H0)): RT polSo 88 (sn 233471 B88) (e88 db n cap a b lim (.func 69 [] [.q xb]) y10 y11 y12 y13 y14 y15 (.n q) y17 (.i u) (.i v) (.i w)) H .normal (WW (.c db n cap) (.n a) (.n q) (.i lim) (.func 69 [] [.q xb]) (.bool false) y11 y12 y13 y14 y15 (.n q) y17 (.i u) (.i v) (.i w)) H0 :=
 hx N 60 [jF 24 2 H g0,jF 28 2 H g1,jC 29 6 g2]
end
section
variable {xb:Nat}
noncomputable def B68:Code:=Try.f68.body.getD .skip
abbrev QsD (v0 v1 v4:HV):Env:=[(0,v0),(1,v1),(4,v4)]
theorem Qnb (N:Nat) (db n:Nat) (cap:Option Nat) (H:Heap) (x:Nat) {m0:Int} {H0:Heap} {H1:Heap} (g0:∀kf,N≤kf→Qc Tp polSo (kf+1) 63 [.int .u64 (IntKind.u64.wrap (n:Int))] H=some (.i m0,H0)) (g1:∀kf,N≤kf→Qc Tp polSo (kf+1) 88 [.c db n cap,.i 0,.n n,.i m0,.func 69 [] [.q xb]] H0=some (.tuple [],H1)): RT polSo 68 (sub [] B68) [(0,.c db n cap),(1,.func 69 [] [.q xb])] H .normal (QsD (.c db n cap) (.func 69 [] [.q xb]) (.n n)) H1 :=
 hx N 60 [jC 1 4 g0,jC 1 6 g1]
end
end Go.Proofs.Ytiejmoglooaalaa
end
section
open Go Go.HL Go.HL.So
namespace Go.Proofs.Ytiejmoglooaalaa
set_option linter.unusedSectionVars false
open Go.Proofs.Try renaming prog → Tp
open Go.HL.HV renaming undef → Ud
section
variable {xb:Nat} {α:Type} [Inhabited α] {enc:α→HV} {lt:α→α→Prop} {dom:α→Prop} {H:Heap} {db n:Nat} {cap:Option Nat}
abbrev swB (s:Int):Blk:=.arr 1 [.int .i64 s] true 0
theorem Ur (l:List α) (B:Blk):(Mm enc H db l [B])[H.length]?=some B:=by
 unfold Mm
 rw [qI (by simp)]
 simp
theorem QeI (l:List α) (B B':Blk):(Mm enc H db l [B]).set H.length B'=Mm enc H db l [B']:=by
 unfold Mm
 rw [qL _ _ (by simp)]
 simp
theorem mxM (S:So xb enc lt dom H db n) (l:List α) (B:Blk) (hB:B.mx=0):mxs (Mm enc H db l [B])≤H.length:=by
 have h:=S.mx
 rw [Qeq] at h ⊢
 intro C hC
 unfold Mm at hC
 rcases List.mem_append.1 hC with hC | hC
 ·rcases List.mem_or_eq_of_mem_set hC with hC | rfl
  ·exact h C hC
  ·exact Nat.zero_le _
 ·rw [List.mem_singleton.1 hC];omega
theorem gcT (S:So xb enc lt dom H db n) (l l':List α) (B:Blk) (hB:B.mx=0):gc (Mm enc H db l []).length 0 (Mm enc H db l' [B])=Mm enc H db l' []:=by
 have h:=mxM S l' B hB
 have e:(Mm enc H db l []).length=H.length:=by simp [Mm]
 unfold gc
 rw [e,show max H.length (max 0 (mxs (Mm enc H db l' [B])))=H.length by omega]
 unfold Mm
 rw [List.take_append_of_le_length (by simp),qJ (by simp),List.append_nil]
theorem gcB (l l':List α) (B B':Blk) (r:Nat):gc (Mm enc H db l [B]).length r (Mm enc H db l' [B'])=Mm enc H db l' [B']:=gcM l l' [B] [B'] r rfl
theorem Dx (l:List α) (s:Int):QK Tp (Mm enc H db l [swB s]) 3 (.ptr H.length 0 0 1)=some (.int .i64 s):=WD (b:=H.length) (Ur l (swB s)) rfl rfl rfl a3 i3
theorem QsE (l:List α) (s r:Int):Q3 Tp (Mm enc H db l [swB s]) 3 (.ptr H.length 0 0 1) (.int .i64 r)=some (Mm enc H db l [swB r]):=by
 have:=KZ (P:=Tp) (t:=3) (b:=H.length) (i:=0) (tot:=1) (old:=.int .i64 s) (v:=.int .i64 r) (Ur (enc:=enc) (db:=db) l (swB s)) rfl rfl rfl (by intro cs h;cases h) z3 rfl rfl (by simp [bnd])
 rw [this,QeI];rfl
theorem QeJ (l:List α) (k:IntKind) (s:Int):Q4 (.int k s) (Mm enc H db l [])=(.ptr H.length 0 0 1,Mm enc H db l [.arr 1 [.int k s] true 0]):=by
 simp only [Q4,cellsOf,bnd,Mm]
 simp
theorem Cq (S:So xb enc lt dom H db n) {a b:Nat} (ha:a<n) (hb:b<n) {l:List α} (hl:l.length=n) (hD:Dm dom l) (s:Int) :
  ∃(p q:Nat) (s':Int),ClS 112 [.sl db 0 n cap n 1,.int .i64 (a:Int),.int .i64 (b:Int),.ptr H.length 0 0 1,.func 69 [] [.ptr xb 0 0 1]] (Mm enc H db l [swB s]) (.tuple [.int .i64 (p:Int),.int .i64 (q:Int)]) (Mm enc H db l [swB s'])∧((p=a∧q=b)∨(p=b∧q=a)):=by
 have hn:=S.nb
 by_cases c:lt (at_ l b) (at_ l a)
 ·obtain ⟨cc,N,hN,hc⟩:=S.ct (T:=[swB s]) hl rfl (hD.at (i:=b) (by omega)) (hD.at (i:=a) (by omega)) c
  have t:=Qmo (xb:=xb) N db n cap (Mm enc H db l [swB s]) H.length a b (ixs (i:=b) rfl hb) (S.ld l _ _ hl hb) (ixs (i:=a) rfl ha) (S.ld l _ _ hl ha) hN hc (Dx l s) (QsE l s _)
  have hc:=CallsTo.shared (P:=Tp) (pol:=polSo) (g:=112) (fn:=Try.f112) (cd:=QgV) (args:=[.sl db 0 n cap n 1,.int .i64 (a:Int),.int .i64 (b:Int),.ptr H.length 0 0 1,.func 69 [] [.ptr xb 0 0 1]]) (v:=.tuple [.int .i64 (b:Int),.int .i64 (a:Int)]) (by kernel_rfl) (by kernel_rfl) (by kernel_rfl) (by kernel_rfl) t (by kernel_rfl) (by simp) (by kernel_rfl)
  rw [gcB] at hc
  exact ⟨b,a,_,hc,.inr ⟨rfl,rfl⟩⟩
 ·obtain ⟨cc,N,hN,hc⟩:=S.cf (T:=[swB s]) hl rfl (hD.at (i:=b) (by omega)) (hD.at (i:=a) (by omega)) c
  have t:=Qmp (xb:=xb) N db n cap (Mm enc H db l [swB s]) H.length a b (ixs (i:=b) rfl hb) (S.ld l _ _ hl hb) (ixs (i:=a) rfl ha) (S.ld l _ _ hl ha) hN hc
  have hc:=CallsTo.shared (P:=Tp) (pol:=polSo) (g:=112) (fn:=Try.f112) (cd:=QgV) (args:=[.sl db 0 n cap n 1,.int .i64 (a:Int),.int .i64 (b:Int),.ptr H.length 0 0 1,.func 69 [] [.ptr xb 0 0 1]]) (v:=.tuple [.int .i64 (a:Int),.int .i64 (b:Int)]) (by kernel_rfl) (by kernel_rfl) (by kernel_rfl) (by kernel_rfl) t (by kernel_rfl) (by simp) (by kernel_rfl)
  rw [gcB] at hc
  exact ⟨a,b,_,hc,.inl ⟨rfl,rfl⟩⟩
theorem QaQ (S:So xb enc lt dom H db n) {a b q:Nat} (ha:a<n) (hb:b<n) (hq:q<n) {l:List α} (hl:l.length=n) (hD:Dm dom l) (s:Int) :
  ∃(r:Nat) (s':Int),ClS 111 [.sl db 0 n cap n 1,.int .i64 (a:Int),.int .i64 (b:Int),.int .i64 (q:Int),.ptr H.length 0 0 1,.func 69 [] [.ptr xb 0 0 1]] (Mm enc H db l [swB s]) (.int .i64 (r:Int)) (Mm enc H db l [swB s'])∧(r=a∨r=b∨r=q):=by
 obtain ⟨p1,q1,s1,h1,e1⟩:=Cq S (cap:=cap) ha hb hl hD s
 obtain ⟨p2,q2,s2,h2,e2⟩:=Cq S (cap:=cap) (a:=q1) (b:=q) (by omega) hq hl hD s1
 obtain ⟨p3,q3,s3,h3,e3⟩:=Cq S (cap:=cap) (a:=p1) (b:=p2) (by omega) (by omega) hl hD s2
 obtain ⟨N1,h1⟩:=h1.from
 obtain ⟨N2,h2⟩:=h2.from
 obtain ⟨N3,h3⟩:=h3.from
 have t:=Qmr (xb:=xb) (N1+N2+N3) db n cap (Mm enc H db l [swB s]) H.length a b q (fun kf hk=>h1 kf (by omega)) (fun kf hk=>h2 kf (by omega)) (fun kf hk=>h3 kf (by omega))
 have hc:=CallsTo.shared (P:=Tp) (pol:=polSo) (g:=111) (fn:=Try.f111) (cd:=QsA) (args:=[.sl db 0 n cap n 1,.int .i64 (a:Int),.int .i64 (b:Int),.int .i64 (q:Int),.ptr H.length 0 0 1,.func 69 [] [.ptr xb 0 0 1]]) (v:=.int .i64 (q3:Int)) (by kernel_rfl) (by kernel_rfl) (by kernel_rfl) (by kernel_rfl) t (by kernel_rfl) (by simp) (by kernel_rfl)
 rw [gcB] at hc
 exact ⟨q3,s3,hc,by omega⟩
theorem Cr (S:So xb enc lt dom H db n) {a:Nat} {e:Int} (he:e=(a:Int)) (h1:1≤a) (h2:a+1<n) {l:List α} (hl:l.length=n) (hD:Dm dom l) (s:Int) :
  ∃(r:Nat) (s':Int),ClS 110 [.sl db 0 n cap n 1,.int .i64 e,.ptr H.length 0 0 1,.func 69 [] [.ptr xb 0 0 1]] (Mm enc H db l [swB s]) (.int .i64 (r:Int)) (Mm enc H db l [swB s'])∧a-1≤r∧r≤a+1:=by
 subst he
 have hn:=S.nb
 obtain ⟨r,s',h,er⟩:=QaQ S (cap:=cap) (a:=a-1) (b:=a) (q:=a+1) (by omega) (by omega) (by omega) hl hD s
 obtain ⟨N,h⟩:=h.from
 have t:=Qmt (xb:=xb) N db n cap (Mm enc H db l [swB s]) H.length a (by rw [QN (by omega) (by omega),Qi (by omega)];exact h)
 have hc:=CallsTo.shared (P:=Tp) (pol:=polSo) (g:=110) (fn:=Try.f110) (cd:=QsB) (args:=[.sl db 0 n cap n 1,.int .i64 (a:Int),.ptr H.length 0 0 1,.func 69 [] [.ptr xb 0 0 1]]) (v:=.int .i64 (r:Int)) (by kernel_rfl) (by kernel_rfl) (by kernel_rfl) (by kernel_rfl) t (by kernel_rfl) (by simp) (by kernel_rfl)
 rw [gcB] at hc
 exact ⟨r,s',hc,by omega⟩
theorem QaR {a b m:Nat} (hab:a≤b) (hb:b≤60000) (hm:m≤3):qA.wrap ((a:Int)+qA.wrap (qA.wrap ((qA.wrap ((b:Int)-(a:Int)):Int).tdiv 4)*(m:Int)))=((a+(b-a)/4*m:Nat):Int):=by
 have h1:qA.wrap ((b:Int)-(a:Int))=((b-a:Nat):Int):=by rw [Qr (by omega) (by omega)];omega
 have h2:((b-a:Nat):Int).tdiv 4=(((b-a)/4:Nat):Int):=by rw [qM (by omega)];omega
 rw [h1,h2,Qr (n:=(((b-a)/4:Nat):Int)) (by omega) (by omega)]
 have h3:(((b-a)/4:Nat):Int)*(m:Int)=(((b-a)/4*m:Nat):Int):=by push_cast;rfl
 have h4:(b-a)/4*m≤60000:=by
  have h6:(b-a)/4*m≤(b-a)/4*3:=Nat.mul_le_mul_left _ hm
  omega
 rw [h3]
 generalize (b-a)/4*m=z at h4
 rw [Qr (n:=(z:Int)) (by omega) (by omega),Qr (by omega) (by omega)];omega
theorem Qnc (S:So xb enc lt dom H db n) {a b:Nat} (hab:a+12<b) (hb:b≤n) {l:List α} (hl:l.length=n) (hD:Dm dom l) :
  ∃(p:Nat) (h:Int),ClS 102 [.sl db 0 n cap n 1,.int .i64 (a:Int),.int .i64 (b:Int),.func 69 [] [.ptr xb 0 0 1]] (Mm enc H db l []) (.tuple [.int .i64 (p:Int),.int .i64 h]) (Mm enc H db l [])∧a≤p∧p<b:=by
 have hn:=S.nb
 have i1:=QaR (a:=a) (b:=b) (m:=1) (by omega) (by omega) (by omega)
 have i2:=QaR (a:=a) (b:=b) (m:=2) (by omega) (by omega) (by omega)
 have i3:=QaR (a:=a) (b:=b) (m:=3) (by omega) (by omega) (by omega)
 have hw:qA.wrap ((b:Int)-(a:Int))=((b-a:Nat):Int):=(by rw [Qr (by omega) (by omega)];omega)
 have g0:some (Q4 (.int .i64 0) (Mm enc H db l []))=some (.ptr H.length 0 0 1,Mm enc H db l [swB 0]):=congrArg some (QeJ l .i64 0)
 have fin:∀(p:Nat) (h:Int) (E:Env) (s:Int),a≤p→p<b→RT polSo 102 SR (KA [.sl db 0 n cap n 1,.int .i64 (a:Int),.int .i64 (b:Int),.func 69 [] [.ptr xb 0 0 1]]) (Mm enc H db l []) .ret E (Mm enc H db l [swB s])→Qd Tp Try.f102 E (Mm enc H db l [swB s])=some (.tuple [.int .i64 (p:Int),.int .i64 h]) →
   ∃(p:Nat) (h:Int),ClS 102 [.sl db 0 n cap n 1,.int .i64 (a:Int),.int .i64 (b:Int),.func 69 [] [.ptr xb 0 0 1]] (Mm enc H db l []) (.tuple [.int .i64 (p:Int),.int .i64 h]) (Mm enc H db l [])∧a≤p∧p<b:=by
  intro p h E s h1 h2 t hv
  have hc:=CallsTo.shared (P:=Tp) (pol:=polSo) (g:=102) (fn:=Try.f102) (cd:=SR) (args:=[.sl db 0 n cap n 1,.int .i64 (a:Int),.int .i64 (b:Int),.func 69 [] [.ptr xb 0 0 1]]) (by kernel_rfl) (by kernel_rfl) (by kernel_rfl) (by kernel_rfl) t (by kernel_rfl) (by simp) hv
  rw [show bnd (.tuple [.int .i64 (p:Int),.int .i64 h])=0 by simp [bnd,bndL],gcT S l l (swB s) rfl] at hc
  exact ⟨p,h,hc,h1,h2⟩
 by_cases c:50≤b-a
 ·obtain ⟨r1,s1,h1,e1⟩:=Cr S (cap:=cap) (a:=a+(b-a)/4*1) i1 (by omega) (by omega) hl hD 0
  obtain ⟨r2,s2,h2,e2⟩:=Cr S (cap:=cap) (a:=a+(b-a)/4*2) i2 (by omega) (by omega) hl hD s1
  obtain ⟨r3,s3,h3,e3⟩:=Cr S (cap:=cap) (a:=a+(b-a)/4*3) i3 (by omega) (by omega) hl hD s2
  obtain ⟨r,s,h4,e4⟩:=QaQ S (cap:=cap) (a:=r1) (b:=r2) (q:=r3) (by omega) (by omega) (by omega) hl hD s3
  obtain ⟨N1,h1⟩:=h1.from
  obtain ⟨N2,h2⟩:=h2.from
  obtain ⟨N3,h3⟩:=h3.from
  obtain ⟨N4,h4⟩:=h4.from
  by_cases d1:s=0
  ·have t:=Qmu (xb:=xb) (N1+N2+N3+N4) db n cap (Mm enc H db l []) H.length a b g0 (by rw [hw];omega) (by rw [hw];omega) (fun kf hk=>h1 kf (by omega)) (fun kf hk=>h2 kf (by omega)) (fun kf hk=>h3 kf (by omega)) (fun kf hk=>h4 kf (by omega)) (Dx l s) d1
   exact fin r 1 _ s (by omega) (by omega) t (by kernel_rfl)
  ·by_cases d2:s=12
   ·have t:=Qmv (xb:=xb) (N1+N2+N3+N4) db n cap (Mm enc H db l []) H.length a b g0 (by rw [hw];omega) (by rw [hw];omega) (fun kf hk=>h1 kf (by omega)) (fun kf hk=>h2 kf (by omega)) (fun kf hk=>h3 kf (by omega)) (fun kf hk=>h4 kf (by omega)) (Dx l s) d1 d2
    exact fin r 2 _ s (by omega) (by omega) t (by kernel_rfl)
   ·have t:=Qmw (xb:=xb) (N1+N2+N3+N4) db n cap (Mm enc H db l []) H.length a b g0 (by rw [hw];omega) (by rw [hw];omega) (fun kf hk=>h1 kf (by omega)) (fun kf hk=>h2 kf (by omega)) (fun kf hk=>h3 kf (by omega)) (fun kf hk=>h4 kf (by omega)) (Dx l s) d1 d2
    exact fin r 0 _ s (by omega) (by omega) t (by kernel_rfl)
 ·obtain ⟨r,s,h4,e4⟩:=QaQ S (cap:=cap) (a:=a+(b-a)/4*1) (b:=a+(b-a)/4*2) (q:=a+(b-a)/4*3) (by omega) (by omega) (by omega) hl hD 0
  obtain ⟨N4,h4⟩:=h4.from
  rw [← i1,← i2,← i3] at h4
  by_cases d1:s=0
  ·have t:=Qmx (xb:=xb) N4 db n cap (Mm enc H db l []) H.length a b g0 (by rw [hw];omega) (by rw [hw];omega) h4 (Dx l s) d1
   exact fin r 1 _ s (by omega) (by omega) t (by kernel_rfl)
  ·by_cases d2:s=12
   ·have t:=Qmy (xb:=xb) N4 db n cap (Mm enc H db l []) H.length a b g0 (by rw [hw];omega) (by rw [hw];omega) h4 (Dx l s) d1 d2
    exact fin r 2 _ s (by omega) (by omega) t (by kernel_rfl)
   ·have t:=Qmz (xb:=xb) N4 db n cap (Mm enc H db l []) H.length a b g0 (by rw [hw];omega) (by rw [hw];omega) h4 (Dx l s) d1 d2
    exact fin r 0 _ s (by omega) (by omega) t (by kernel_rfl)
abbrev uB (s:Int):Blk:=.arr 1 [.int .u64 s] true 0
theorem QsF:Qs Tp 123=some 1:=by kernel_rfl
theorem QsG:QF Tp 123=false:=by kernel_rfl
theorem QsH:(Tp.underlying 123).isSome=true:=by kernel_rfl
theorem QaS (l:List α) (s:Int):QK Tp (Mm enc H db l [uB s]) 123 (.ptr H.length 0 0 1)=some (.int .u64 s):=WD (b:=H.length) (Ur l (uB s)) rfl rfl rfl QsG QsH
theorem QgW (l:List α) (s r:Int):Q3 Tp (Mm enc H db l [uB s]) 123 (.ptr H.length 0 0 1) (.int .u64 r)=some (Mm enc H db l [uB r]):=by
 have:=KZ (P:=Tp) (t:=123) (b:=H.length) (i:=0) (tot:=1) (old:=.int .u64 s) (v:=.int .u64 r) (Ur (enc:=enc) (db:=db) l (uB s)) rfl rfl rfl (by intro cs h;cases h) QsF rfl rfl (by simp [bnd])
 rw [this,QeI];rfl
theorem bx (a b:Int):∃r,J8 Tp .xor 123 (.int .u64 a) (.int .u64 b)=some (.int .u64 r):=⟨_,rfl⟩
theorem Qtj (a:Int):∃r,J8 Tp .shl 123 (.int .u64 a) (.int .u64 13)=some (.int .u64 r):=⟨_,rfl⟩
theorem Qtk (a:Int):∃r,J8 Tp .shl 123 (.int .u64 a) (.int .u64 17)=some (.int .u64 r):=⟨_,rfl⟩
theorem br7 (a:Int):∃r,J8 Tp .shr 123 (.int .u64 a) (.int .u64 7)=some (.int .u64 r):=⟨_,rfl⟩
theorem Qnd (l:List α) (s:Int):∃r,ClS 96 [.ptr H.length 0 0 1] (Mm enc H db l [uB s]) (.int .u64 r) (Mm enc H db l [uB r]):=by
 obtain ⟨h0,e0⟩:=Qtj s
 obtain ⟨h1,e1⟩:=bx s h0
 obtain ⟨h2,e2⟩:=br7 h1
 obtain ⟨h3,e3⟩:=bx h1 h2
 obtain ⟨h4,e4⟩:=Qtk h3
 obtain ⟨h5,e5⟩:=bx h3 h4
 have t:=QmA 0 0 0 none (Mm enc H db l [uB s]) H.length (QaS l s) (QaS l s) e0 e1 (QgW l s h1) (QaS l h1) (QaS l h1) e2 e3 (QgW l h1 h3) (QaS l h3) (QaS l h3) e4 e5 (QgW l h3 h5) (QaS l h5)
 have hc:=CallsTo.shared (P:=Tp) (pol:=polSo) (g:=96) (fn:=Try.f96) (cd:=B96) (args:=[.ptr H.length 0 0 1]) (v:=.int .u64 h5) (by kernel_rfl) (by kernel_rfl) (by kernel_rfl) (by kernel_rfl) t (by kernel_rfl) (by simp) (by kernel_rfl)
 rw [gcB] at hc
 exact ⟨_,hc⟩
theorem QsI {u:Int} {m:Nat} (hm:m<9223372036854775808):∃h:Nat,J8 Tp .and 82 (.int .u64 u) (.int .u64 (m:Int))=some (.int .u64 (h:Int))∧h≤m:=by
 have e:J8 Tp .and 82 (.int .u64 u) (.int .u64 (m:Int))=some (.int .u64 (IntKind.u64.wrap (BitVec.ofInt IntKind.u64.bits u &&& BitVec.ofInt IntKind.u64.bits (m:Int)).toNat)):=rfl
 have hle:(BitVec.ofInt IntKind.u64.bits u &&& BitVec.ofInt IntKind.u64.bits (m:Int)).toNat≤m:=by
  rw [BitVec.toNat_and]
  refine Nat.le_trans Nat.and_le_right ?_
  rw [BitVec.toNat_ofInt]
  show ((m:Int)%((2 ^ 64:Nat):Int)).toNat≤m
  omega
 refine ⟨_,?_,hle⟩
 rw [e]
 congr 2
 rw [JC]
 generalize (BitVec.ofInt IntKind.u64.bits u &&& BitVec.ofInt IntKind.u64.bits (m:Int)).toNat=h at hle
 omega
theorem QgX (S:So xb enc lt dom H db n) {a b k m:Nat} (hk:b=a+k) (hk8:8≤k) (hb:b≤n) (hm1:1≤m) (hm2:m≤2*k):∀(d i:Nat) (l:List α) (s:Int),i+d=a+k/4*2+2→a+k/4*2-1≤i→l.length=n →
  ∃y5 y6 l' s',RT polSo 101 (sn 238 Kr) (Ks (.sl db 0 n cap n 1) (.i (a:Int)) (.i (b:Int)) (.i (k:Int)) (.ptr H.length 0 0 1) (.int .u64 (m:Int)) (.i (i:Int)) Ud) (Mm enc H db l [uB s]) (.exit 0) (Ks (.sl db 0 n cap n 1) (.i (a:Int)) (.i (b:Int)) (.i (k:Int)) (.ptr H.length 0 0 1) (.int .u64 (m:Int)) y5 y6) (Mm enc H db l' [uB s'])∧Sw a b l l':=by
 have hn:=S.nb
 have e0:qA.wrap (((k:Int):Int).tdiv 4)=((k/4:Nat):Int):=by
  rw [qM (by omega),Qr (by omega) (by omega)];omega
 have e1:qA.wrap ((a:Int)+qA.wrap (qA.wrap (((k:Int):Int).tdiv 4)*2))=((a+k/4*2:Nat):Int):=by
  rw [e0,Qr (n:=((k/4:Nat):Int)*2) (by omega) (by omega),Qr (by omega) (by omega)];omega
 have e2:qA.wrap (qA.wrap ((a:Int)+qA.wrap (qA.wrap (((k:Int):Int).tdiv 4)*2))+1)=((a+k/4*2+1:Nat):Int):=by
  rw [e1,Qr (by omega) (by omega)];omega
 intro d
 induction d with
 | zero =>
  intro i l s hi hi2 hl
  exact ⟨_,_,l,s,lpo (QmI 0 db n cap (Mm enc H db l [uB s]) H.length a b k m i (y12:=Ud) (by rw [e2];omega)),.refl⟩
 | succ d ih =>
  intro i l s hi hi2 hl
  obtain ⟨u,hx⟩:=Qnd (enc:=enc) (H:=H) (db:=db) l s
  obtain ⟨N,hN⟩:=hx.from
  have hu:IntKind.u64.wrap ((m:Int)-1)=((m-1:Nat):Int):=by rw [JC];omega
  obtain ⟨h,hand,hh⟩:=QsI (u:=u) (m:=m-1) (by omega)
  rw [← hu] at hand
  have hwh:qA.wrap (h:Int)=(h:Int):=Qr (by omega) (by omega)
  have next:∀o:Nat,o<k→∀y,RT polSo 101 (sn 476 Kr) (Ks (.sl db 0 n cap n 1) (.i (a:Int)) (.i (b:Int)) (.i (k:Int)) (.ptr H.length 0 0 1) (.int .u64 (m:Int)) (.i (i:Int)) Ud) (Mm enc H db l [uB s]) .normal (Ks (.sl db 0 n cap n 1) (.i (a:Int)) (.i (b:Int)) (.i (k:Int)) (.ptr H.length 0 0 1) (.int .u64 (m:Int)) (.i (qA.wrap ((i:Int)+1))) y) (Mm enc H db (swp l i (a+o)) [uB u]) →
    ∃y5 y6 l' s',RT polSo 101 (sn 238 Kr) (Ks (.sl db 0 n cap n 1) (.i (a:Int)) (.i (b:Int)) (.i (k:Int)) (.ptr H.length 0 0 1) (.int .u64 (m:Int)) (.i (i:Int)) Ud) (Mm enc H db l [uB s]) (.exit 0) (Ks (.sl db 0 n cap n 1) (.i (a:Int)) (.i (b:Int)) (.i (k:Int)) (.ptr H.length 0 0 1) (.int .u64 (m:Int)) y5 y6) (Mm enc H db l' [uB s'])∧Sw a b l l':=by
   intro o ho y st
   rw [Qi (by omega)] at st
   have sw:Sw a b l (swp l i (a+o)):=Sw.one (by omega) (by omega) (by omega) (by omega)
   obtain ⟨y5,y6,l',s',r,q⟩:=ih (i+1) (swp l i (a+o)) u (by omega) (by omega) (by rw [swp_len];exact hl)
   exact ⟨y5,y6,l',s',lop (st) (gcM _ _ _ _ _ rfl) (r),sw.trans q⟩
  by_cases c:k≤h
  ·have e3:qA.wrap (qA.wrap (h:Int)-(k:Int))=((h-k:Nat):Int):=by rw [hwh,Qr (by omega) (by omega)];omega
   have e4:qA.wrap ((a:Int)+qA.wrap (qA.wrap (h:Int)-(k:Int)))=((a+(h-k):Nat):Int):=by rw [e3,Qr (by omega) (by omega)];omega
   obtain ⟨s1,s2⟩:=S.st2 (T:=[uB u]) hl (i:=i) (j:=a+(h-k)) (by omega) (by omega)
   have st:=QmG N db n cap (Mm enc H db l [uB s]) H.length a b k m i (y12:=Ud) (by rw [e2];omega) hN hand (by rw [hwh];omega) (ixs e4 (by omega)) (S.ld l _ _ hl (by omega)) (ixs (i:=i) rfl (by omega)) (S.ld l _ _ hl (by omega)) (ixs (i:=i) rfl (by omega)) s1 (ixs e4 (by omega)) s2
   exact next (h-k) (by omega) _ st
  ·have e4:qA.wrap ((a:Int)+qA.wrap (h:Int))=((a+h:Nat):Int):=by rw [hwh,Qr (by omega) (by omega)];omega
   obtain ⟨s1,s2⟩:=S.st2 (T:=[uB u]) hl (i:=i) (j:=a+h) (by omega) (by omega)
   have st:=QmH N db n cap (Mm enc H db l [uB s]) H.length a b k m i (y12:=Ud) (by rw [e2];omega) hN hand (by rw [hwh];omega) (ixs e4 (by omega)) (S.ld l _ _ hl (by omega)) (ixs (i:=i) rfl (by omega)) (S.ld l _ _ hl (by omega)) (ixs (i:=i) rfl (by omega)) s1 (ixs e4 (by omega)) s2
   exact next h (by omega) _ st
theorem Qne (S:So xb enc lt dom H db n) {a b:Nat} (hab:a+8≤b) (hb:b≤n) {l:List α} (hl:l.length=n) :
  ∃l',ClS 101 [.sl db 0 n cap n 1,.int .i64 (a:Int),.int .i64 (b:Int),.func 69 [] [.ptr xb 0 0 1]] (Mm enc H db l []) (.tuple []) (Mm enc H db l' [])∧Sw a b l l':=by
 have hn:=S.nb
 obtain ⟨k,rfl⟩:∃k,b=a+k:=⟨b-a,by omega⟩
 have hw:qA.wrap (((a+k:Nat):Int)-(a:Int))=(k:Int):=by rw [Qr (by omega) (by omega)];omega
 have t0:=QmB (xb:=xb) 0 db n cap (Mm enc H db l []) H.length a (a+k)
 rw [hw] at t0
 have t1:=QmC 0 db n cap (Mm enc H db l []) H.length a (a+k) k (y9:=Ud) (y10:=Ud) (y11:=Ud) (y12:=Ud) (by omega)
 have g0:some (Q4 (.int .u64 0) (Mm enc H db l []))=some (.ptr H.length 0 0 1,Mm enc H db l [uB 0]):=congrArg some (QeJ l .u64 0)
 have t2:=QmD 0 db n cap (Mm enc H db l []) H.length a (a+k) k (y9:=Ud) (y10:=Ud) (y11:=Ud) (y12:=Ud) g0 (QgW l 0 _)
 have hl2:=(Co (x:=k) (by omega)).1 (by omega)
 have t3:=QmE 0 db n cap (Mm enc H db l [uB (IntKind.u64.wrap (k:Int))]) H.length a (a+k) k (y10:=Ud) (y11:=Ud) (y12:=Ud) (u0:=((2 ^ ZA k:Nat):Int)) (fun kf _=>by
  rw [WS (pol:=polSo) (g:=95) (F:=Dr) (by kernel_rfl) (rs:=[.int .i64 (k:Int)]) rfl (res:=.int .u64 ((2 ^ ZA k:Nat):Int)) (by simp only [Dr];rw [if_pos (by omega),qK])];rfl)
 generalize 2 ^ ZA k=m at hl2 t3
 have t4:=QmF 0 db n cap (Mm enc H db l [uB (IntKind.u64.wrap (k:Int))]) H.length a (a+k) k (m:Int) (y11:=Ud) (y12:=Ud)
 have e0:qA.wrap (((k:Int):Int).tdiv 4)=((k/4:Nat):Int):=by
  rw [qM (by omega),Qr (by omega) (by omega)];omega
 have e1:qA.wrap (qA.wrap ((a:Int)+qA.wrap (qA.wrap (((k:Int):Int).tdiv 4)*2))-1)=((a+k/4*2-1:Nat):Int):=by
  rw [e0,Qr (n:=((k/4:Nat):Int)*2) (by omega) (by omega),Qr (n:=(a:Int)+((k/4:Nat):Int)*2) (by omega) (by omega),Qr (by omega) (by omega)];omega
 rw [e1] at t4
 obtain ⟨y5,y6,l',s',r,q⟩:=QgX S (cap:=cap) (m:=m) rfl (by omega) hb (by omega) (by omega) 3 (a+k/4*2-1) l (IntKind.u64.wrap (k:Int)) (by omega) (qB _) hl
 have t:=sq (t0) (sq (t1) (RunsTo.cond (y:=.tmp 17) (t:=true) (c:=sn 7 Kr) (a:=sn 14 Kr) (b:=sn 15 Kr) (by kernel_rfl) rfl (sq (t2) (sq (t3) (sq (t4) (bke (c:=sn 119 Kr) (r)) (c:=sn 59 Kr)) (c:=sn 29 Kr)) (c:=sn 14 Kr))) (c:=sn 3 Kr)) (c:=Kr)
 have hc:=CallsTo.shared (P:=Tp) (pol:=polSo) (g:=101) (fn:=Try.f101) (cd:=Kr) (args:=[.sl db 0 n cap n 1,.int .i64 (a:Int),.int .i64 ((a+k:Nat):Int),.func 69 [] [.ptr xb 0 0 1]]) (v:=.tuple []) (by kernel_rfl) (by kernel_rfl) (by kernel_rfl) (by kernel_rfl) t (by kernel_rfl) (by simp) (by kernel_rfl)
 rw [show bnd (.tuple [])=0 by rfl,gcT S l l' (uB s') rfl] at hc
 exact ⟨l',hc,q⟩
end
section
variable {xb:Nat} {α:Type} [Inhabited α] {enc:α→HV} {lt:α→α→Prop} {dom:α→Prop} {H:Heap} {db n:Nat} {cap:Option Nat}
def Ue (xb:Nat) (enc:α→HV) (lt:α→α→Prop) (dom:α→Prop) (H:Heap) (db n:Nat) (cap:Option Nat) (d:Nat):Prop:=∀(a b:Nat) (lim:Int) (l:List α),b-a<d→a≤b→b≤n→0≤lim→lim≤1000→l.length=n→Dm dom l→Flo lt a b l →
 ∃l',ClS 88 [.sl db 0 n cap n 1,.int .i64 (a:Int),.int .i64 (b:Int),.int .i64 lim,.func 69 [] [.ptr xb 0 0 1]] (Mm enc H db l []) (.tuple []) (Mm enc H db l' [])∧Sw a b l l'∧QQ lt a b l'
def Out (xb:Nat) (enc:α→HV) (lt:α→α→Prop) (dom:α→Prop) (H:Heap) (db n:Nat) (cap:Option Nat) (a b:Nat) (l:List α) (x:X) (E:Env) (l':List α):Prop :=
 Sw a b l l'∧((x=.ret∧QQ lt a b l')∨((x=.normal∨x=.exit 1)∧∃(a' b':Nat) (lim':Int) (bal' par':Bool) (y2 y3 y4 y5 y6 y7 y8 y9 y10:HV),E=(WW (.sl db 0 n cap n 1) (.i (a':Int)) (.i (b':Int)) (.i lim') (.func 69 [] [.q xb]) (.bool bal') (.bool par') y2 y3 y4 y5 y6 y7 y8 y9 y10) ∧
  b'-a'<b-a∧a≤a'∧a'≤b'∧b'≤b∧0≤lim'∧lim'≤1000∧Flo lt a' b' l'∧∀l'',Sw a' b' l' l''→QQ lt a' b' l''→QQ lt a b l''))
theorem Out.pre {a b:Nat} {l l1 l':List α} {x:X} {E:Env} (h:Sw a b l l1) (ho:Out xb enc lt dom H db n cap a b l1 x E l'):Out xb enc lt dom H db n cap a b l x E l':=⟨h.trans ho.1,ho.2⟩
theorem Flo.part {a b a' b':Nat} {l:List α} (h:Flo lt a b l) (h1:a'=a) (h2:b'≤b):Flo lt a' b' l:=by
 subst h1
 exact fun h0 k h3 h4=>h h0 k h3 (by omega)
theorem join (hL:Lin lt) {a b m:Nat} {l:List α} (h1:QQ lt a m l) (h2:QQ lt (m+1) b l) (h3:∀k,a≤k→k<m→lt (at_ l k) (at_ l m)) (h4:∀k,m<k→k<b→¬lt (at_ l k) (at_ l m)):QQ lt a b l:=by
 intro i j q1 q2 q3
 by_cases c1:j<m
 ·exact h1 i j q1 q2 c1
 ·by_cases c2:j=m
  ·subst c2;exact hL.asy _ _ (h3 i q1 q2)
  ·by_cases c3:i<m
   ·exact hL.tr _ _ _ (hL.asy _ _ (h3 i q1 c3)) (h4 j (by omega) q3)
   ·by_cases c4:i=m
    ·subst c4;exact h4 j (by omega) q3
    ·exact h2 i j (by omega) q2 q3
theorem QsJ (S:So xb enc lt dom H db n) (hL:Lin lt) {a b k p:Nat} {lim:Int} {bal par:Bool} {h:HV} (hd:Ue xb enc lt dom H db n cap (b-a)) (hp1:a≤p) (hp2:p<b) (hb:b≤n) (hk:k≤n) (hl0:0≤lim) (hl1:lim≤1000) {l:List α} (hl:l.length=n) (hD:Dm dom l) (hF:Flo lt a b l) :
  ∃x E l',RT polSo 88 (sn 14591 B88) (WW (.sl db 0 n cap n 1) (.i (a:Int)) (.i (b:Int)) (.i lim) (.func 69 [] [.q xb]) (.bool bal) (.bool par) (.i (k:Int)) (.i (p:Int)) h Ud Ud Ud Ud Ud Ud) (Mm enc H db l []) x E (Mm enc H db l' [])∧Out xb enc lt dom H db n cap a b l x E l':=by
 have hn:=S.nb
 obtain ⟨m,bb,l4,hc,w1,w2,w3,w4⟩:=QgQ S (cap:=cap) (T:=[]) rfl hb hp1 hp2 hl hD
 obtain ⟨N,hN⟩:=hc.from
 have t1:=Qm3 (xb:=xb) N db n cap (Mm enc H db l []) 0 a b lim p (y10:=.bool bal) (y11:=.bool par) (y12:=.i (k:Int)) (y14:=h) (y15:=Ud) (y16:=Ud) (y17:=Ud) (y18:=Ud) (y19:=Ud) (y20:=Ud) hN
 have hl4:=WL w1 hl
 have hD4:=hD.sw w1 (by omega)
 have hF4:=hF.sw (by omega) w1
 have t2:=Qm4 (xb:=xb) 0 db n cap (Mm enc H db l4 []) 0 a b lim (y10:=.bool bal) (y11:=.bool par) (y12:=.i (k:Int)) (y13:=.i (p:Int)) (y14:=h) (y15:=Ud) (y16:=.i (m:Int)) (y17:=.bool bb) (y18:=Ud) (y19:=Ud) (y20:=Ud)
 have t3:=Qm5 (xb:=xb) 0 db n cap (Mm enc H db l4 []) 0 a b lim m (y10:=.bool bal) (y11:=.bool bb) (y12:=.i (k:Int)) (y13:=.i (p:Int)) (y14:=h) (y15:=Ud) (y17:=.bool bb) (y18:=Ud) (y19:=Ud) (y20:=Ud)
 have e1:qA.wrap ((m:Int)-(a:Int))=((m-a:Nat):Int):=(by rw [Qr (by omega) (by omega)];omega)
 have e2:qA.wrap ((b:Int)-(m:Int))=((b-m:Nat):Int):=(by rw [Qr (by omega) (by omega)];omega)
 rw [e1,e2] at t3
 have t4:=Qm6 (xb:=xb) 0 db n cap (Mm enc H db l4 []) 0 a b lim k (y10:=.bool bal) (y11:=.bool bb) (y13:=.i (p:Int)) (y14:=h) (y15:=Ud) (y16:=.i (m:Int)) (y17:=.bool bb) (y18:=.i ((m-a:Nat):Int)) (y19:=.i ((b-m:Nat):Int)) (y20:=Ud)
 generalize qA.wrap (((k:Int):Int).tdiv 8)=th at t4
 have up:∀(x:X) (E:Env) (l':List α),RT polSo 88 (sn 233471 B88) (WW (.sl db 0 n cap n 1) (.i (a:Int)) (.i (b:Int)) (.i lim) (.func 69 [] [.q xb]) (.bool bal) (.bool bb) (.i (k:Int)) (.i (p:Int)) h Ud (.i (m:Int)) (.bool bb) (.i ((m-a:Nat):Int)) (.i ((b-m:Nat):Int)) (.i th)) (Mm enc H db l4 []) .normal E (Mm enc H db l' [])→Out xb enc lt dom H db n cap a b l4 .normal E l' →
   ∃x E l',RT polSo 88 (sn 14591 B88) (WW (.sl db 0 n cap n 1) (.i (a:Int)) (.i (b:Int)) (.i lim) (.func 69 [] [.q xb]) (.bool bal) (.bool par) (.i (k:Int)) (.i (p:Int)) h Ud Ud Ud Ud Ud Ud) (Mm enc H db l []) x E (Mm enc H db l' [])∧Out xb enc lt dom H db n cap a b l x E l':=fun x E l' t ho =>
  ⟨_,E,l',sq (t1) (sq (t2) (sq (t3) (sq (t4) (t) (c:=sn 116735 B88)) (c:=sn 58367 B88)) (c:=sn 29183 B88)) (c:=sn 14591 B88),Out.pre w1 ho⟩
 by_cases c:((m-a:Nat):Int)<((b-m:Nat):Int)
 ·obtain ⟨l5,hc5,v1,v2⟩:=hd a m lim l4 (by omega) (by omega) (by omega) hl0 hl1 hl4 hD4 (hF4.part rfl (by omega))
  obtain ⟨N5,hN5⟩:=hc5.from
  have hl5:=WL v1 hl4
  have e3:qA.wrap ((m:Int)+1)=((m+1:Nat):Int):=Qi (by omega)
  have ho:∀(bl:Bool),Out xb enc lt dom H db n cap a b l4 .normal (WW (.sl db 0 n cap n 1) (.i ((m+1:Nat):Int)) (.i (b:Int)) (.i lim) (.func 69 [] [.q xb]) (.bool bl) (.bool bb) (.i (k:Int)) (.i (p:Int)) h Ud (.i (m:Int)) (.bool bb) (.i ((m-a:Nat):Int)) (.i ((b-m:Nat):Int)) (.i th)) l5:=fun bl=>by
   refine ⟨v1.mono (qB _) (by omega),.inr ⟨.inl rfl,m+1,b,lim,bl,bb,_,_,_,_,_,_,_,_,_,rfl,by omega,by omega,by omega,qB _,hl0,hl1,fun _ k h1 h2=>?_,fun l6 u1 u2=>?_⟩⟩
   ·rw [show m+1-1=m by omega,v1.out (by omega) (k:=k) (by omega),v1.out (by omega) (k:=m) (by omega)]
    exact w4 k (by omega) h2
   ·have em:at_ l6 m=at_ l4 m:=(u1.out (by omega) (k:=m) (by omega)).trans (v1.out (by omega) (k:=m) (by omega))
    refine join hL (m:=m) (fun i j q1 q2 q3=>?_) u2 (fun k q1 q2=>?_) (fun k q1 q2=>?_)
    ·rw [u1.out (by omega) (k:=i) (by omega),u1.out (by omega) (k:=j) (by omega)]
     exact v2 i j q1 q2 q3
    ·rw [em,u1.out (by omega) (k:=k) (by omega)]
     exact v1.all (by omega) (Q:=fun x=>lt x (at_ l4 m)) (qB _) (qB _) w3 k q1 q2
    ·rw [em]
     exact u1.all (by omega) (Q:=fun x=>¬lt x (at_ l4 m)) (lo:=m+1) (hi:=b) (qB _) (qB _) (fun i h1 h2=>by
      rw [v1.out (by omega) (k:=i) (by omega)];exact w4 i (by omega) h2) k (by omega) q2
  by_cases c2:th≤((m-a:Nat):Int)
  ·have t:=Qm7 (xb:=xb) N5 db n cap (Mm enc H db l4 []) 0 a b lim m _ _ th (y10:=.bool bal) (y11:=.bool bb) (y12:=.i (k:Int)) (y13:=.i (p:Int)) (y14:=h) (y15:=Ud) (y17:=.bool bb) c c2 hN5
   rw [e3] at t
   exact up .normal _ l5 t (ho true)
  ·have t:=Qm8 (xb:=xb) N5 db n cap (Mm enc H db l4 []) 0 a b lim m _ _ th (y10:=.bool bal) (y11:=.bool bb) (y12:=.i (k:Int)) (y13:=.i (p:Int)) (y14:=h) (y15:=Ud) (y17:=.bool bb) c c2 hN5
   rw [e3] at t
   exact up .normal _ l5 t (ho false)
 ·have hF5:Flo lt (m+1) b l4:=fun _ k h1 h2=>by rw [show m+1-1=m by omega];exact w4 k (by omega) h2
  obtain ⟨l5,hc5,v1,v2⟩:=hd (m+1) b lim l4 (by omega) (by omega) hb hl0 hl1 hl4 hD4 hF5
  obtain ⟨N5,hN5⟩:=hc5.from
  have hl5:=WL v1 hl4
  have e3:qA.wrap ((m:Int)+1)=((m+1:Nat):Int):=Qi (by omega)
  rw [← e3] at hN5
  have ho:∀(bl:Bool),Out xb enc lt dom H db n cap a b l4 .normal (WW (.sl db 0 n cap n 1) (.i (a:Int)) (.i (m:Int)) (.i lim) (.func 69 [] [.q xb]) (.bool bl) (.bool bb) (.i (k:Int)) (.i (p:Int)) h Ud (.i (m:Int)) (.bool bb) (.i ((m-a:Nat):Int)) (.i ((b-m:Nat):Int)) (.i th)) l5:=fun bl=>by
   have hF6:=(hF4.sw (by omega) (v1.mono (a':=a) (by omega) (qB _))).part (b':=m) rfl (by omega)
   refine ⟨v1.mono (by omega) (qB _),.inr ⟨.inl rfl,a,m,lim,bl,bb,_,_,_,_,_,_,_,_,_,rfl,by omega,qB _,by omega,by omega,hl0,hl1,hF6,fun l6 u1 u2=>?_⟩⟩
   have em:at_ l6 m=at_ l4 m:=(u1.out (by omega) (k:=m) (by omega)).trans (v1.out (by omega) (k:=m) (by omega))
   refine join hL (m:=m) u2 (fun i j q1 q2 q3=>?_) (fun k q1 q2=>?_) (fun k q1 q2=>?_)
   ·rw [u1.out (by omega) (k:=i) (by omega),u1.out (by omega) (k:=j) (by omega)]
    exact v2 i j q1 q2 q3
   ·rw [em]
    exact u1.all (by omega) (Q:=fun x=>lt x (at_ l4 m)) (lo:=a) (hi:=m) (qB _) (qB _) (fun i h1 h2=>by
      rw [v1.out (by omega) (k:=i) (by omega)];exact w3 i h1 h2) k q1 q2
   ·rw [em,u1.out (by omega) (k:=k) (by omega)]
    exact v1.all (by omega) (Q:=fun x=>¬lt x (at_ l4 m)) (qB _) (qB _) (fun i h1 h2=>w4 i (by omega) h2) k (by omega) q2
  by_cases c2:th≤((b-m:Nat):Int)
  ·have t:=Qm9 (xb:=xb) N5 db n cap (Mm enc H db l4 []) 0 a b lim m _ _ th (y10:=.bool bal) (y11:=.bool bb) (y12:=.i (k:Int)) (y13:=.i (p:Int)) (y14:=h) (y15:=Ud) (y17:=.bool bb) c c2 hN5
   exact up .normal _ l5 t (ho true)
  ·have t:=Qna (xb:=xb) N5 db n cap (Mm enc H db l4 []) 0 a b lim m _ _ th (y10:=.bool bal) (y11:=.bool bb) (y12:=.i (k:Int)) (y13:=.i (p:Int)) (y14:=h) (y15:=Ud) (y17:=.bool bb) c c2 hN5
   exact up .normal _ l5 t (ho false)
theorem Qtl (S:So xb enc lt dom H db n) (hL:Lin lt) {a b k p:Nat} {lim:Int} {bal par:Bool} {h:HV} (hd:Ue xb enc lt dom H db n cap (b-a)) (hp1:a≤p) (hp2:p<b) (hb:b≤n) (hk:k≤n) (hl0:0≤lim) (hl1:lim≤1000) {l:List α} (hl:l.length=n) (hD:Dm dom l) (hF:Flo lt a b l) :
  ∃x E l',RT polSo 88 (sn 7295 B88) (WW (.sl db 0 n cap n 1) (.i (a:Int)) (.i (b:Int)) (.i lim) (.func 69 [] [.q xb]) (.bool bal) (.bool par) (.i (k:Int)) (.i (p:Int)) h Ud Ud Ud Ud Ud Ud) (Mm enc H db l []) x E (Mm enc H db l' [])∧Out xb enc lt dom H db n cap a b l x E l':=by
 have hn:=S.nb
 by_cases c0:0<a
 ·have hp:qA.wrap ((a:Int)-1)=((a-1:Nat):Int):=QN (by omega) (by omega)
  by_cases c:lt (at_ l (a-1)) (at_ l p)
  ·obtain ⟨cc,N,hN,hc⟩:=S.ct (T:=[]) hl rfl (hD.at (i:=a-1) (by omega)) (hD.at (i:=p) (by omega)) c
   have t1:=Qm0 (xb:=xb) N db n cap (Mm enc H db l []) 0 a b lim p (y10:=.bool bal) (y11:=.bool par) (y12:=.i (k:Int)) (y14:=h) (y15:=Ud) (y16:=Ud) (y17:=Ud) (y18:=Ud) (y19:=Ud) (y20:=Ud) (by omega) (ixs hp (by omega)) (S.ld l _ _ hl (by omega)) (ixs (i:=p) rfl (by omega)) (S.ld l _ _ hl (by omega)) hN hc
   obtain ⟨x,E,l',t,ho⟩:=QsJ S hL (cap:=cap) (k:=k) (bal:=bal) (par:=par) (h:=h) hd hp1 hp2 hb hk hl0 hl1 hl hD hF
   exact ⟨x,E,l',sq t1 t (c:=sn 7295 B88),ho⟩
  ·obtain ⟨cc,N,hN,hc⟩:=S.cf (T:=[]) hl rfl (hD.at (i:=a-1) (by omega)) (hD.at (i:=p) (by omega)) c
   obtain ⟨m,l4,hc4,w1,w2,w3,w4⟩:=Qmm S (cap:=cap) (T:=[]) hL rfl hb hp1 hp2 hl hD
   obtain ⟨N4,hN4⟩:=hc4.from
   have t1:=Qm1 (xb:=xb) (N+N4) db n cap (Mm enc H db l []) 0 a b lim p (y10:=.bool bal) (y11:=.bool par) (y12:=.i (k:Int)) (y14:=h) (y15:=Ud) (y16:=Ud) (y17:=Ud) (y18:=Ud) (y19:=Ud) (y20:=Ud) (by omega) (ixs hp (by omega)) (S.ld l _ _ hl (by omega)) (ixs (i:=p) rfl (by omega)) (S.ld l _ _ hl (by omega)) (fun kf hk=>hN kf (by omega)) hc (fun kf hk=>hN4 kf (by omega))
   have hlow:∀k,a≤k→k<b→¬lt (at_ l4 k) (at_ l (a-1)):=w1.all (by omega) (Q:=fun x=>¬lt x (at_ l (a-1))) (qB _) (qB _) (hF c0)
   refine ⟨_,_,l4,sqo t1 (c:=sn 7295 B88) (b:=sn 14591 B88),w1,.inr ⟨.inr rfl,m,b,lim,bal,par,_,_,_,_,_,_,_,_,_,rfl,by omega,by omega,by omega,qB _,hl0,hl1,fun _ k h1 h2=>?_,fun l5 u1 u2=>?_⟩⟩
   ·exact hL.tr _ _ _ (w3 (m-1) (by omega) (by omega)) (hL.asy _ _ (w4 k h1 h2))
   ·have hl4:=WL w1 hl
    have hr:∀k,m≤k→k<b→lt (at_ l p) (at_ l5 k):=u1.all (by omega) (Q:=fun x=>lt (at_ l p) x) (qB _) (qB _) w4
    intro i j q1 q2 q3
    by_cases c1:j<m
    ·rw [u1.out (by omega) (k:=i) (by omega),u1.out (by omega) (k:=j) (by omega)]
     exact hL.tr _ _ _ (hL.tr _ _ _ (w3 i q1 (by omega)) c) (hlow j (by omega) q3)
    ·by_cases c2:i<m
     ·rw [u1.out (by omega) (k:=i) (by omega)]
      exact hL.tr _ _ _ (w3 i q1 c2) (hL.asy _ _ (hr j (by omega) q3))
     ·exact u2 i j (by omega) q2 q3
 ·have t1:=Qm2 (xb:=xb) 0 db n cap (Mm enc H db l []) 0 a b lim p (y10:=.bool bal) (y11:=.bool par) (y12:=.i (k:Int)) (y14:=h) (y15:=Ud) (y16:=Ud) (y17:=Ud) (y18:=Ud) (y19:=Ud) (y20:=Ud) (by omega)
  obtain ⟨x,E,l',t,ho⟩:=QsJ S hL (cap:=cap) (k:=k) (bal:=bal) (par:=par) (h:=h) hd hp1 hp2 hb hk hl0 hl1 hl hD hF
  exact ⟨x,E,l',sq t1 t (c:=sn 7295 B88),ho⟩
theorem QsK (S:So xb enc lt dom H db n) (hL:Lin lt) {a b k p:Nat} {lim h:Int} {bal par:Bool} (hd:Ue xb enc lt dom H db n cap (b-a)) (hp1:a≤p) (hp2:p<b) (hb:b≤n) (hk:k≤n) (hl0:0≤lim) (hl1:lim≤1000) {l:List α} (hl:l.length=n) (hD:Dm dom l) (hF:Flo lt a b l) :
  ∃x E l',RT polSo 88 (sn 3647 B88) (WW (.sl db 0 n cap n 1) (.i (a:Int)) (.i (b:Int)) (.i lim) (.func 69 [] [.q xb]) (.bool bal) (.bool par) (.i (k:Int)) (.i (p:Int)) (.i h) Ud Ud Ud Ud Ud Ud) (Mm enc H db l []) x E (Mm enc H db l' [])∧Out xb enc lt dom H db n cap a b l x E l':=by
 have hn:=S.nb
 have on:∀(l3:List α),Sw a b l l3→RT polSo 88 (sn 7294 B88) (WW (.sl db 0 n cap n 1) (.i (a:Int)) (.i (b:Int)) (.i lim) (.func 69 [] [.q xb]) (.bool bal) (.bool par) (.i (k:Int)) (.i (p:Int)) (.i h) Ud Ud Ud Ud Ud Ud) (Mm enc H db l []) .normal (WW (.sl db 0 n cap n 1) (.i (a:Int)) (.i (b:Int)) (.i lim) (.func 69 [] [.q xb]) (.bool bal) (.bool par) (.i (k:Int)) (.i (p:Int)) (.i h) Ud Ud Ud Ud Ud Ud) (Mm enc H db l3 []) →
   ∃x E l',RT polSo 88 (sn 3647 B88) (WW (.sl db 0 n cap n 1) (.i (a:Int)) (.i (b:Int)) (.i lim) (.func 69 [] [.q xb]) (.bool bal) (.bool par) (.i (k:Int)) (.i (p:Int)) (.i h) Ud Ud Ud Ud Ud Ud) (Mm enc H db l []) x E (Mm enc H db l' [])∧Out xb enc lt dom H db n cap a b l x E l':=fun l3 w t1=>by
  obtain ⟨x,E,l',t,ho⟩:=Qtl S hL (cap:=cap) (k:=k) (bal:=bal) (par:=par) (h:=.int .i64 h) hd hp1 hp2 hb hk hl0 hl1 (WL w hl) (hD.sw w (by omega)) (hF.sw (by omega) w)
  exact ⟨x,E,l',sq t1 t (c:=sn 3647 B88),Out.pre w ho⟩
 cases bal with
 | false=>exact on l .refl (QmZ (xb:=xb) 0 db n cap (Mm enc H db l []) 0 a b lim h)
 | true =>
  cases par with
  | false=>exact on l .refl (QmY (xb:=xb) 0 db n cap (Mm enc H db l []) 0 a b lim h)
  | true =>
   by_cases c:h=1
   ·obtain ⟨bb,l3,hc3,w1,w2⟩:=Qmn S hL (cap:=cap) (T:=[]) rfl (a:=a) (by omega) hb hl hD hF
    obtain ⟨N3,hN3⟩:=hc3.from
    cases bb with
    | true =>
     have t1:=QmV (xb:=xb) N3 db n cap (Mm enc H db l []) 0 a b lim h (y12:=.i (k:Int)) (y13:=.i (p:Int)) (y15:=Ud) (y16:=Ud) (y17:=Ud) (y18:=Ud) (y19:=Ud) (y20:=Ud) c hN3
     exact ⟨_,_,l3,sqo t1 (c:=sn 3647 B88) (b:=sn 7295 B88),w1,.inl ⟨rfl,w2 rfl⟩⟩
    | false=>exact on l3 w1 (QmW (xb:=xb) N3 db n cap (Mm enc H db l []) 0 a b lim h c hN3)
   ·exact on l .refl (QmX (xb:=xb) 0 db n cap (Mm enc H db l []) 0 a b lim h c)
theorem Qtm (S:So xb enc lt dom H db n) (hL:Lin lt) {a b k p:Nat} {lim h:Int} {bal par:Bool} (hd:Ue xb enc lt dom H db n cap (b-a)) (hp1:a≤p) (hp2:p<b) (hb:b≤n) (hk:k≤n) (hl0:0≤lim) (hl1:lim≤1000) {l:List α} (hl:l.length=n) (hD:Dm dom l) (hF:Flo lt a b l) :
  ∃x E l',RT polSo 88 (sn 1823 B88) (WW (.sl db 0 n cap n 1) (.i (a:Int)) (.i (b:Int)) (.i lim) (.func 69 [] [.q xb]) (.bool bal) (.bool par) (.i (k:Int)) (.i (p:Int)) (.i h) Ud Ud Ud Ud Ud Ud) (Mm enc H db l []) x E (Mm enc H db l' [])∧Out xb enc lt dom H db n cap a b l x E l':=by
 have hn:=S.nb
 by_cases c:h=2
 ·obtain ⟨l2,hc2,w⟩:=Qlv S (cap:=cap) (T:=[]) (a:=a) (b:=b) (by omega) hb hl
  obtain ⟨N2,hN2⟩:=hc2.from
  have t1:=QmT (xb:=xb) N2 db n cap (Mm enc H db l []) 0 a b lim p h (y10:=.bool bal) (y11:=.bool par) (y12:=.i (k:Int)) (y15:=Ud) (y16:=Ud) (y17:=Ud) (y18:=Ud) (y19:=Ud) (y20:=Ud) c hN2
  have e1:qA.wrap ((b:Int)-1)=((b-1:Nat):Int):=QN (by omega) (by omega)
  have e2:qA.wrap ((p:Int)-(a:Int))=((p-a:Nat):Int):=(by rw [Qr (by omega) (by omega)];omega)
  have e3:qA.wrap (((b-1:Nat):Int)-((p-a:Nat):Int))=((b-1-(p-a):Nat):Int):=(by rw [Qr (by omega) (by omega)];omega)
  rw [e1,e2,e3] at t1
  obtain ⟨x,E,l',t,ho⟩:=QsK S hL (cap:=cap) (k:=k) (p:=b-1-(p-a)) (bal:=bal) (par:=par) (h:=1) hd (by omega) (by omega) hb hk hl0 hl1 (WL w hl) (hD.sw w (by omega)) (hF.sw (by omega) w)
  exact ⟨x,E,l',sq t1 t (c:=sn 1823 B88),Out.pre w ho⟩
 ·have t1:=QmU (xb:=xb) 0 db n cap (Mm enc H db l []) 0 a b lim p h (y10:=.bool bal) (y11:=.bool par) (y12:=.i (k:Int)) (y15:=Ud) (y16:=Ud) (y17:=Ud) (y18:=Ud) (y19:=Ud) (y20:=Ud) c
  obtain ⟨x,E,l',t,ho⟩:=QsK S hL (cap:=cap) (k:=k) (p:=p) (bal:=bal) (par:=par) (h:=h) hd hp1 hp2 hb hk hl0 hl1 hl hD hF
  exact ⟨x,E,l',sq t1 t (c:=sn 1823 B88),ho⟩
theorem Qtn (S:So xb enc lt dom H db n) (hL:Lin lt) {a b:Nat} {lim:Int} {bal par:Bool} (hd:Ue xb enc lt dom H db n cap (b-a)) (hab:a≤b) (hb:b≤n) (hl0:0≤lim) (hl1:lim≤1000) {l:List α} (hl:l.length=n) (hD:Dm dom l) (hF:Flo lt a b l) :
  ∃x E l',RT polSo 88 (sn 56 B88) (WW (.sl db 0 n cap n 1) (.i (a:Int)) (.i (b:Int)) (.i lim) (.func 69 [] [.q xb]) (.bool bal) (.bool par) Ud Ud Ud Ud Ud Ud Ud Ud Ud) (Mm enc H db l []) x E (Mm enc H db l' [])∧Out xb enc lt dom H db n cap a b l x E l':=by
 have hn:=S.nb
 have t0:=QmL (xb:=xb) 0 db n cap (Mm enc H db l []) 0 a b lim (y10:=.bool bal) (y11:=.bool par) (y12:=Ud) (y13:=Ud) (y14:=Ud) (y15:=Ud) (y16:=Ud) (y17:=Ud) (y18:=Ud) (y19:=Ud) (y20:=Ud)
 have e0:qA.wrap ((b:Int)-(a:Int))=((b-a:Nat):Int):=(by rw [Qr (by omega) (by omega)];omega)
 rw [e0] at t0
 by_cases c1:b-a≤12
 ·obtain ⟨l',hc,w1,w2⟩:=Qlu S hL (cap:=cap) (T:=[]) rfl hab hb hl hD
  obtain ⟨N1,hN1⟩:=hc.from
  have t1:=QmM (xb:=xb) N1 db n cap (Mm enc H db l []) 0 a b lim (b-a) (y10:=.bool bal) (y11:=.bool par) (y13:=Ud) (y14:=Ud) (y15:=Ud) (y16:=Ud) (y17:=Ud) (y18:=Ud) (y19:=Ud) (y20:=Ud) (by omega) hN1
  exact ⟨_,_,l',sq (t0) (sqo (t1) (c:=sn 113 B88) (b:=sn 227 B88)) (c:=sn 56 B88),w1,.inl ⟨rfl,w2⟩⟩
 have t1:=QmN (xb:=xb) 0 db n cap (Mm enc H db l []) 0 a b lim (b-a) (y10:=.bool bal) (y11:=.bool par) (y13:=Ud) (y14:=Ud) (y15:=Ud) (y16:=Ud) (y17:=Ud) (y18:=Ud) (y19:=Ud) (y20:=Ud) (by omega)
 by_cases c2:lim=0
 ·obtain ⟨l',hc,w1,w2⟩:=QgO S hL (cap:=cap) (T:=[]) rfl (a:=a) (by omega) hb hl hD
  obtain ⟨N1,hN1⟩:=hc.from
  have t2:=QmO (xb:=xb) N1 db n cap (Mm enc H db l []) 0 a b lim (y10:=.bool bal) (y11:=.bool par) (y12:=.i ((b-a:Nat):Int)) (y13:=Ud) (y14:=Ud) (y15:=Ud) (y16:=Ud) (y17:=Ud) (y18:=Ud) (y19:=Ud) (y20:=Ud) c2 hN1
  exact ⟨_,_,l',sq (t0) (sq (t1) (sqo (t2) (c:=sn 227 B88) (b:=sn 455 B88)) (c:=sn 113 B88)) (c:=sn 56 B88),w1,.inl ⟨rfl,w2⟩⟩
 have t2:=QmP (xb:=xb) 0 db n cap (Mm enc H db l []) 0 a b lim (y10:=.bool bal) (y11:=.bool par) (y12:=.i ((b-a:Nat):Int)) (y13:=Ud) (y14:=Ud) (y15:=Ud) (y16:=Ud) (y17:=Ud) (y18:=Ud) (y19:=Ud) (y20:=Ud) c2
 have on:∀(lim1:Int) (l1:List α),0≤lim1→lim1≤1000→Sw a b l l1→RT polSo 88 (sn 910 B88) (WW (.sl db 0 n cap n 1) (.i (a:Int)) (.i (b:Int)) (.i lim) (.func 69 [] [.q xb]) (.bool bal) (.bool par) (.i ((b-a:Nat):Int)) Ud Ud Ud Ud Ud Ud Ud Ud) (Mm enc H db l []) .normal (WW (.sl db 0 n cap n 1) (.i (a:Int)) (.i (b:Int)) (.i lim1) (.func 69 [] [.q xb]) (.bool bal) (.bool par) (.i ((b-a:Nat):Int)) Ud Ud Ud Ud Ud Ud Ud Ud) (Mm enc H db l1 []) →
   ∃x E l',RT polSo 88 (sn 56 B88) (WW (.sl db 0 n cap n 1) (.i (a:Int)) (.i (b:Int)) (.i lim) (.func 69 [] [.q xb]) (.bool bal) (.bool par) Ud Ud Ud Ud Ud Ud Ud Ud Ud) (Mm enc H db l []) x E (Mm enc H db l' [])∧Out xb enc lt dom H db n cap a b l x E l':=fun lim1 l1 hq0 hq1 w t3=>by
  have hl1':=WL w hl
  have hD1:=hD.sw w (by omega)
  obtain ⟨p,h,hc,p1,p2⟩:=Qnc S (cap:=cap) (a:=a) (b:=b) (by omega) hb hl1' hD1
  obtain ⟨N1,hN1⟩:=hc.from
  have t4:=QmS (xb:=xb) N1 db n cap (Mm enc H db l1 []) 0 a b lim1 (y10:=.bool bal) (y11:=.bool par) (y12:=.i ((b-a:Nat):Int)) (y13:=Ud) (y14:=Ud) (y15:=Ud) (y16:=Ud) (y17:=Ud) (y18:=Ud) (y19:=Ud) (y20:=Ud) hN1
  obtain ⟨x,E,l',t,ho⟩:=Qtm S hL (cap:=cap) (k:=b-a) (p:=p) (bal:=bal) (par:=par) (h:=h) hd p1 p2 hb (by omega) hq0 hq1 hl1' hD1 (hF.sw (by omega) w)
  have t5:=sq t4 t (c:=sn 911 B88)
  have t6:=sq t3 t5 (c:=sn 455 B88)
  have t7:=sq t2 t6 (c:=sn 227 B88)
  have t8:=sq t1 t7 (c:=sn 113 B88)
  exact ⟨x,E,l',sq t0 t8 (c:=sn 56 B88),Out.pre w ho⟩
 cases bal with
 | true=>exact on lim l hl0 hl1 .refl (QmQ (xb:=xb) 0 db n cap (Mm enc H db l []) 0 a b lim)
 | false =>
  obtain ⟨l1,hc,w⟩:=Qne S (cap:=cap) (a:=a) (b:=b) (by omega) hb hl
  obtain ⟨N1,hN1⟩:=hc.from
  have t3:=QmR (xb:=xb) N1 db n cap (Mm enc H db l []) 0 a b lim (y11:=.bool par) (y12:=.i ((b-a:Nat):Int)) (y13:=Ud) (y14:=Ud) (y15:=Ud) (y16:=Ud) (y17:=Ud) (y18:=Ud) (y19:=Ud) (y20:=Ud) hN1
  rw [Qr (n:=lim-1) (by omega) (by omega)] at t3
  exact on (lim-1) l1 (by omega) (by omega) w t3
theorem QgY (S:So xb enc lt dom H db n) (hL:Lin lt):∀(d:Nat) (a b:Nat) (lim:Int) (bal par:Bool) (l:List α),b-a<d→Ue xb enc lt dom H db n cap (b-a)→a≤b→b≤n→0≤lim→lim≤1000→l.length=n→Dm dom l→Flo lt a b l →
  ∃E l',RT polSo 88 (sn 14 B88) (WW (.sl db 0 n cap n 1) (.i (a:Int)) (.i (b:Int)) (.i lim) (.func 69 [] [.q xb]) (.bool bal) (.bool par) Ud Ud Ud Ud Ud Ud Ud Ud Ud) (Mm enc H db l []) .ret E (Mm enc H db l' [])∧Sw a b l l'∧QQ lt a b l':=by
 have hn:=S.nb
 intro d
 induction d with
 | zero=>intro a b lim bal par l hd;omega
 | succ d ih =>
  intro a b lim bal par l hd hP hab hb h0 h1 hl hD hF
  obtain ⟨x,E,l1,t,w,ho⟩:=Qtn S hL (cap:=cap) (bal:=bal) (par:=par) hP hab hb h0 h1 hl hD hF
  rcases ho with ⟨rfl,hs⟩ | ⟨hx,a',b',lim',bal',par',y2,y3,y4,y5,y6,y7,y8,y9,y10,rfl,q1,q2,q3,q4,q5,q6,q7,q8⟩
  ·exact ⟨_,l1,lpo (RunsTo.block_ret (i:=1) (c:=sn 28 B88) t (by kernel_rfl)),w,hs⟩
  ·have st:RT polSo 88 (sn 28 B88) (WW (.sl db 0 n cap n 1) (.i (a:Int)) (.i (b:Int)) (.i lim) (.func 69 [] [.q xb]) (.bool bal) (.bool par) Ud Ud Ud Ud Ud Ud Ud Ud Ud) (Mm enc H db l []) .normal (WW (.sl db 0 n cap n 1) (.i (a':Int)) (.i (b':Int)) (.i lim') (.func 69 [] [.q xb]) (.bool bal') (.bool par') y2 y3 y4 y5 y6 y7 y8 y9 y10) (Mm enc H db l1 []):=by
    rcases hx with rfl | rfl
    ·exact RunsTo.block_normal (i:=1) t (by kernel_rfl)
    ·exact bke t
   have hl1:=WL w hl
   obtain ⟨E,l2,r,v1,v2⟩:=ih a' b' lim' bal' par' l1 (by omega) (fun a2 b2 lim2 l2 g1=>hP a2 b2 lim2 l2 (by omega)) q3 (by omega) q5 q6 hl1 (hD.sw w (by omega)) q7
   exact ⟨E,l2,lop (st) (gcM _ _ _ _ _ rfl) (r),w.trans (v1.mono q2 q4),q8 l2 v1 v2⟩
theorem Qnf (S:So xb enc lt dom H db n) (hL:Lin lt) {a b:Nat} {lim:Int} {l:List α} (hP:Ue xb enc lt dom H db n cap (b-a)) (hab:a≤b) (hb:b≤n) (h0:0≤lim) (h1:lim≤1000) (hl:l.length=n) (hD:Dm dom l) (hF:Flo lt a b l) :
  ∃l',ClS 88 [.sl db 0 n cap n 1,.int .i64 (a:Int),.int .i64 (b:Int),.int .i64 lim,.func 69 [] [.ptr xb 0 0 1]] (Mm enc H db l []) (.tuple []) (Mm enc H db l' [])∧Sw a b l l'∧QQ lt a b l':=by
 obtain ⟨E,l',r,q⟩:=QgY S hL (cap:=cap) _ a b lim true true l (Nat.lt_succ_self _) hP hab hb h0 h1 hl hD hF
 have t0:=QmJ (xb:=xb) 0 db n cap (Mm enc H db l []) 0 a b lim
 have t1:=QmK (xb:=xb) 0 db n cap (Mm enc H db l []) 0 a b lim (y10:=.bool true) (y11:=Ud) (y12:=Ud) (y13:=Ud) (y14:=Ud) (y15:=Ud) (y16:=Ud) (y17:=Ud) (y18:=Ud) (y19:=Ud) (y20:=Ud)
 have t:=sq (t0) (sq (t1) (RunsTo.block_ret (i:=0) (c:=sn 7 B88) (r) (by kernel_rfl)) (c:=sn 3 B88)) (c:=B88)
 have hc:=CallsTo.shared (P:=Tp) (pol:=polSo) (g:=88) (fn:=Try.f88) (cd:=B88) (args:=[.sl db 0 n cap n 1,.int .i64 (a:Int),.int .i64 (b:Int),.int .i64 lim,.func 69 [] [.ptr xb 0 0 1]]) (v:=.tuple []) (by kernel_rfl) (by kernel_rfl) (by kernel_rfl) (by kernel_rfl) t (by kernel_rfl) (by simp) (by kernel_rfl)
 rw [gcM _ _ _ _ _ rfl] at hc
 exact ⟨l',hc,q⟩
theorem QbQ (S:So xb enc lt dom H db n) (hL:Lin lt):∀d,Ue xb enc lt dom H db n cap d
 | 0,_,_,_,_,h=>by omega
 | d+1,a,b,lim,l,h=>fun hab hb h0 h1 hl hD hF=>Qnf S hL (fun a2 b2 lim2 l2 g=>QbQ S hL d a2 b2 lim2 l2 (by omega)) hab hb h0 h1 hl hD hF
theorem Qng (S:So xb enc lt dom H db n) (hL:Lin lt) {lim:Int} (h0:0≤lim) (h1:lim≤1000) {l:List α} (hl:l.length=n) (hD:Dm dom l) :
  ∃l',ClS 88 [.sl db 0 n cap n 1,.int .i64 0,.int .i64 (n:Int),.int .i64 lim,.func 69 [] [.ptr xb 0 0 1]] (Mm enc H db l []) (.tuple []) (Mm enc H db l' [])∧l'.Perm l∧QQ lt 0 n l':=by
 obtain ⟨l',hc,w,hs⟩:=QbQ S hL (cap:=cap) (n+1) 0 n lim l (by omega) (Nat.zero_le _) (qB _) h0 h1 hl hD (fun h=>by omega)
 exact ⟨l',hc,w.perm (by omega),hs⟩
end
abbrev bN (n:Int) (l:List St):Blk:=.arr 2 [Qv n l] true 0
theorem ZX {H:Heap} {xb mx:Nat} {n:Int} {l:List St} (hb:H[xb]?=some (.arr 2 [Qv n l] true mx)):QK Tp H 22 (.ptr xb 0 1 1)=some (.imm .arg 3 (l.map Qa)) :=
 V5 (P:=Tp) (t:=22) (b:=xb) (i:=0) (off:=1) (tot:=1) (els:=[Qv n l]) (cs:=[.int .i64 n,.imm .arg 3 (l.map Qa)]) hb rfl rfl a22 i22 rfl
theorem Yg {H:Heap} {xb mx:Nat} {n:Int} {l:List St} (hb:H[xb]?=some (.arr 2 [Qv n l] true mx)):QK Tp H 3 (.ptr xb 0 0 1)=some (.int .i64 n) :=
 V5 (P:=Tp) (t:=3) (b:=xb) (i:=0) (off:=0) (tot:=1) (els:=[Qv n l]) (cs:=[.int .i64 n,.imm .arg 3 (l.map Qa)]) hb rfl rfl a3 i3 rfl
theorem QgZ (w w2 i j:Int):(QaO (YA w w2) (YA i j)<0)↔(w<w2∨(w=w2∧i<j)):=by
 unfold QaO YA
 by_cases c1:w<w2
 ·simp [c1]
 ·by_cases c2:w2<w
  ·simp [c1,c2] <;> omega
  ·by_cases c3:i<j
   ·simp [c1,c2,c3] <;> omega
   ·by_cases c4:j<i
    ·simp [c1,c2,c3,c4] <;> omega
    ·simp [c1,c2,c3,c4] <;> omega
theorem Qg0 (H:Heap) (l:List Int):Sh kL H (.imm .lit 1 (l.map Qb)) l:=by
 show argP (.imm .lit 1 (l.map Qb))=_
 simp only [argP,XG]
 rfl
theorem Qg1 {H:Heap} {xb mx:Nat} {n:Int} {l:List St} (hb:H[xb]?=some (.arr 2 [Qv n l] true mx)) {i j:Int} (hi:0≤i∧i<(l.length:Int)) (hj:0≤j∧j<(l.length:Int)) :
  ClS 69 [Qb i,Qb j,.ptr xb 0 0 1] H (.int .i64 (QaO (YA (wOf l i) (wOf l j)) (YA i j))) H:=by
 obtain ⟨a,rfl⟩:∃a:Nat,i=(a:Int):=⟨i.toNat,by omega⟩
 obtain ⟨b,rfl⟩:∃b:Nat,j=(b:Int):=⟨j.toNat,by omega⟩
 have g1:=gs (l:=l) (y:=a) (by omega)
 have g2:=gs (l:=l) (y:=b) (by omega)
 have c1:=at2 (pol':=polSo) (g:=71) (c1:=kI) (c2:=kI) (f:=fun x y=>some (.int .i64 (YA x y))) (H:=H) (by kernel_rfl) (ShI H (wOf l (a:Int))) (ShI H (wOf l (b:Int))) rfl
 have c2:=at2 (pol':=polSo) (g:=71) (c1:=kI) (c2:=kI) (f:=fun x y=>some (.int .i64 (YA x y))) (H:=H) (by kernel_rfl) (ShI H (a:Int)) (ShI H (b:Int)) rfl
 have c3:=at1 (pol':=polSo) (g:=70) (c1:=kL) (f:=fun l=>match l with | [a,b]=>some (.int .i64 (QaO a b)) | _=>none) (H:=H) (by kernel_rfl) (Qg0 H [YA (wOf l (a:Int)) (wOf l (b:Int)),YA (a:Int) (b:Int)]) rfl
 have s:=Qtf a b xb H (l.map Qa) (l.getD a (0,0,0)).1 (l.getD a (0,0,0)).2.1 (l.getD a (0,0,0)).2.2 (l.getD b (0,0,0)).1 (l.getD b (0,0,0)).2.1 (l.getD b (0,0,0)).2.2 _ _ _ _ _ _ (ZX hb) g1 (ZX hb) g2 c1 c2 c3
 have h:=CallsTo.shared (P:=Tp) (pol:=polSo) (g:=69) (fn:=Try.f69) (cd:=B69) (args:=[.int .i64 (a:Int),.int .i64 (b:Int),.ptr xb 0 0 1]) (v:=.int .i64 (QaO (YA (wOf l (a:Int)) (wOf l (b:Int))) (YA (a:Int) (b:Int)))) (by kernel_rfl) (by kernel_rfl) (by kernel_rfl) (by kernel_rfl) s (by kernel_rfl) (by simp) (by kernel_rfl)
 rw [QH _ rfl] at h
 exact h
theorem So.sts {n:Int} {l:List St} {H:Heap} {xb db m:Nat} (hm:m≤60000) (hd:db<H.length) (hx:mxs H≤H.length) (hb:H[xb]?=some (bN n l)) (hne:xb≠db):So xb Qb (ltK l) (fun i=>0≤i∧i<(l.length:Int)) H db m:=by
 have hbl:∀(o:List Int) (T:Heap),(Mm Qb H db o T)[db]?=some (bI o):=fun o T=>by
  unfold Mm
  rw [qN (by simpa using hd),qR hd]
  rfl
 refine ⟨hm,hd,hx,fun o T i hl hi=>?_,fun o T i x hl hi=>?_,fun o T x y hl hT h1 h2=>?_⟩
 ·have:=Q6 (hbl o T) (y:=i) (by omega)
  rw [hl] at this
  exact this
 ·have:=ZI (hbl o T) (y:=i) (by omega) x
  rw [hl] at this
  show Q3 Tp _ 3 (.ptr db i 0 m) (.int .i64 x)=_
  rw [this]
  congr 1
  unfold Mm
  rw [List.set_append_left _ _ (by simpa using hd),List.set_set]
  rfl
 ·have hbx:(Mm Qb H db o T)[xb]?=some (bN n l):=by
   unfold Mm
   rw [qN (by
    rcases qH xb H.length with h | h
    ·simpa using h
    ·rw [qE h] at hb;cases hb),List.getElem?_set_ne (by omega)]
   exact hb
  obtain ⟨N,hN⟩:=(Qg1 hbx h1 h2).from
  exact ⟨_,N,hN,by rw [QgZ];rfl⟩
theorem Qg2 {n:Int} {l:List St} {H:Heap} {xb db m:Nat} {cap:Option Nat} {o:List Int} (hm:m≤60000) (ho:o.length=m) (hx:mxs H≤H.length) (hb:H[xb]?=some (bN n l)) (hne:xb≠db) (hdb:H[db]?=some (bI o)) (hD:∀x∈o,0≤x∧x<(l.length:Int)) :
  ∃o',ClS 68 [.sl db 0 m cap m 1,.func 69 [] [.ptr xb 0 0 1]] H (.tuple []) (H.set db (bI o'))∧o'.Perm o∧QQ (ltK l) 0 m o':=by
 have hd:db<H.length:=by
  rcases qH db H.length with h | h
  ·exact h
  ·rw [qE h] at hdb;cases hdb
 have S:=So.sts (n:=n) (l:=l) (xb:=xb) (m:=m) hm hd hx hb hne
 have hlen:=Co (x:=m) (by omega)
 have eM:∀o,Mm Qb H db o []=H.set db (bI o):=fun o=>by unfold Mm;rw [List.append_nil];rfl
 have eH:H.set db (bI o)=H:=by
  apply List.ext_getElem?
  intro i
  by_cases e:db=i
  ·subst e;rw [qR hd,hdb]
  ·rw [List.getElem?_set_ne e]
 obtain ⟨o',hc,h1,h2⟩:=Qng S (QbL l) (cap:=cap) (lim:=(ZA m:Int)) (by omega) (by omega) ho hD
 rw [eM,eM,eH] at hc
 obtain ⟨N,hN⟩:=hc.from
 have hu:IntKind.u64.wrap (m:Int)=(m:Int):=by rw [JC];omega
 have t:=Qnb (xb:=xb) N db m cap H 0 (m0:=(ZA m:Int)) (H0:=H) (fun kf _=>by
  rw [hu,WS (pol:=polSo) (g:=63) (F:=Jx) (by kernel_rfl) (rs:=[.int .u64 (m:Int)]) rfl (res:=.int .i64 (ZA m:Int)) (by simp only [Jx];rw [if_pos (by omega),qK])];rfl) hN
 have hc2:=CallsTo.shared (P:=Tp) (pol:=polSo) (g:=68) (fn:=Try.f68) (cd:=B68) (args:=[.sl db 0 m cap m 1,.func 69 [] [.ptr xb 0 0 1]]) (v:=.tuple []) (by kernel_rfl) (by kernel_rfl) (by kernel_rfl) (by kernel_rfl) t (by kernel_rfl) (by simp) (by kernel_rfl)
 rw [QH _ (by simp)] at hc2
 exact ⟨o',hc2,h1,h2⟩
def Xa:List HV→Option HV:=f1 kN fun p=>if p.2.length≤900 then some (.own 1 ((Qh p.2).map Qb)) else none
theorem QsL:Try.f54.results.toList=[.tmp 2]:=by kernel_rfl
theorem XO:QP Tp 54 Xa:=by
 refine Qp (pol:=polSo) (fn:=Try.f54) (cd:=B54) Qk QgI (by kernel_rfl) (by kernel_rfl) (Zm polSo.prim _ _ (by kernel_rfl)) (by kernel_rfl) ?_
 intro args res h
 obtain ⟨⟨n,l⟩,rfl,hq⟩:=XH h
 split at hq
 case isFalse=>cases hq
 rename_i hl
 simp only at hl
 cases hq
 have a:=Qk0 0 n (l.map Qa)
 have b:=Qk1 0 n (l.map Qa) (y3:=Ud) (y4:=Ud) (y7:=Ud) (y8:=Ud)
 have c:=Qk2 0 n (l.map Qa) 0 [] (y4:=Ud) (y7:=Ud) (y8:=Ud)
 rw [qD] at c
 have r:=Wk (E:=fun i=>(QbN (Qv n l) (.q 0) (.imm .lit 1 []) (.s 1 i) Ud (.i (l.length:Int)) (.i (i:Int)))) (Hs:=fun i=>[bN n l,bI (Qg i)]) l.length
  (E0:=fun i=>(QbN (Qv n l) (.q 0) (.imm .lit 1 []) (.s 1 (i+1)) (.i (i:Int)) (.i (l.length:Int)) (.i ((i+1:Nat):Int)))) (H1:=fun i=>[bN n l,bI (Qg (i+1))])
  (fun i hi=>by
   have ap:=JD (H:=[bN n l,bI (Qg i)]) (b:=1) (o:=Qg i) rfl (by rw [QU];omega) (i:Int)
   rw [QU,← Wr] at ap
   have e:(Qg i).map Qb++[.int .i64 (i:Int)]=(Qg (i+1)).map Qb:=by rw [Wr];simp [Qb]
   have s:=Qk3 0 n (l.map Qa) i l.length i ((Qg i).map Qb) (y4:=Ud) (by omega) (ap.trans (by rw [e];rfl))
   rw [Qi (by omega),e] at s
   exact s) (fun i _=>by kernel_rfl) (fun i _=>QH _ rfl) (Qk4 0 n (l.map Qa) l.length l.length l.length ((Qg l.length).map Qb) (y4:=Ud) (by omega)) (by simp) (c:=sn 58 B54) (by kernel_rfl) (fun i _=>by kernel_rfl)
 obtain ⟨o',q1,q2,q3⟩:=Qg2 (n:=n) (l:=l) (H:=[bN n l,bI (Qg l.length)]) (xb:=0) (db:=1) (m:=l.length) (cap:=none) (o:=Qg l.length) (by omega) (QU _) (by show max 0 (max 0 0)≤2;decide) rfl (by omega) rfl (fun x hx=>startT_mem.1 hx)
 have ol:o'.length=l.length:=by rw [q2.length_eq,QU]
 obtain ⟨N,hN⟩:=q1.from
 have z:=Qk5 N n (l.map Qa) l.length [bN n l,bI (Qg l.length)] (y4:=Ud) (y7:=.i (l.length:Int)) (y8:=.i (l.length:Int)) hN
 have eo:=QaN q2 (by rw [ol];exact q3)
 refine ⟨_,_,_,.sl 1 0 l.length none l.length 1,sq (a) (sq (b) (sq (sq (c) (bke (c:=sn 29 B54) (r)) (c:=sn 14 B54)) (z) (c:=sn 7 B54)) (c:=sn 3 B54)) (c:=B54),by simp,by simp only [Qd,QsL];rfl,?_⟩
 rw [← eo]
 exact VE (b:=1) rfl ol
end Go.Proofs.Ytiejmoglooaalaa
end
section
open Go Go.HL
namespace Go.Proofs.Ytiejmoglooaalaa
set_option linter.unusedSectionVars false
open Go.Proofs.Try renaming prog → Tp
open Go.HL.HV renaming undef → Ud
def sA (l:List St) (k:Int):Int:=(l.getD k.toNat (0,0,0)).1
def sB (l:List St) (k:Int):Int:=(l.getD k.toNat (0,0,0)).2.1
def Kj (l:List St) (s:List Int×List Int×List Int) (k:Int):List Int×List Int×List Int :=
 (upJ s.1 s.2.1 (sA l k) (sB l k),Zr s.2.1 (sA l k) (sB l k),if s.2.1.getD (sA l k).toNat 0≠s.2.1.getD (sB l k).toNat 0 then s.2.2++[k] else s.2.2)
def ksT (l:List St) (t:List Int):List Int×List Int×List Int:=t.foldl (Kj l) (Qg 16,Qg 16,[])
def Qz (l:List St) (t:List Int):List Int:=(ksT l t).2.1
def tkT (l:List St) (t:List Int):List Int:=(ksT l t).2.2
def ZY (l:List St):Bool:=l.all fun s=>decide ((0≤s.1∧s.1<16)∧0≤s.2.1∧s.2.1<16)
theorem endB_iff {l:List St}:ZY l=true↔∀s∈l,(0≤s.1∧s.1<16)∧0≤s.2.1∧s.2.1<16:=by simp [ZY]
theorem Kt {l:List St} (he:ZY l=true) {k:Int} (hk:0≤k∧k<(l.length:Int)):(0≤sA l k∧sA l k<16)∧0≤sB l k∧sB l k<16:=endB_iff.1 he _ (Qu _ (by omega))
theorem Jt {l:List St} (he:ZY l=true) {t:List Int} (ht:∀k∈t,0≤k∧k<(l.length:Int)):Up (ksT l t).1 (ksT l t).2.1:=by
 have key:∀(t:List Int) (s:List Int×List Int×List Int),(∀k∈t,0≤k∧k<(l.length:Int))→Up s.1 s.2.1→Up (t.foldl (Kj l) s).1 (t.foldl (Kj l) s).2.1:=by
  intro t
  induction t with
  | nil=>intro s _ h;exact h
  | cons k t ih =>
   intro s hk h
   obtain ⟨⟨a1,a2⟩,b1,b2⟩:=Kt he (hk k (by simp))
   refine ih _ (fun x hx=>hk x (by simp [hx])) ?_
   have:=h.join (u:=(sA l k).toNat) (v:=(sB l k).toNat) (by omega) (by omega)
   rw [show (((sA l k).toNat:Nat):Int)=sA l k by omega,show (((sB l k).toNat:Nat):Int)=sB l k by omega] at this
   exact this
 exact key t _ ht Up.start
theorem VK (l:List St) (t:List Int) {i:Nat} (hi:i<t.length):ksT l (t.take (i+1))=Kj l (ksT l (t.take i)) (t.getD i 0):=by
 rw [List.take_add_one,List.getElem?_eq_getElem hi,ksT,List.foldl_append,QB hi];rfl
theorem Yh (l:List St) (t:List Int):(ksT l t).2.2.length≤t.length:=by
 have key:∀(t:List Int) (s:List Int×List Int×List Int),(t.foldl (Kj l) s).2.2.length≤s.2.2.length+t.length:=by
  intro t
  induction t with
  | nil=>intro s;exact qB _
  | cons k t ih =>
   intro s
   have:=ih (Kj l s k)
   have h2:(Kj l s k).2.2.length≤s.2.2.length+1:=by
    unfold Kj;simp only;split <;> simp
   rw [List.foldl_cons,qO];omega
 have:=key t (Qg 16,Qg 16,[])
 simpa [ksT] using this
section
variable {F:FuncId→Option (List HV→Option HV)}
theorem QsM (H:Heap) (A B C:Blk):(H++[A,B]).set (H.length+1) C=H++[A,C]:=by
 rw [qL _ _ (by omega),show H.length+1-H.length=1 by omega];rfl
theorem QeK (H:Heap) (A B:Blk):(H++[A,B])[H.length]?=some A:=by rw [qI (qB _),Nat.sub_self];rfl
theorem QbR (H:Heap) (A B:Blk):(H++[A,B])[H.length+1]?=some B:=by rw [qI (by omega),show H.length+1-H.length=1 by omega];rfl
theorem WJ {H X:Heap} {k:Nat} {B:Blk} (h:H[k]?=some B):(H++X)[k]?=some B:=by
 rcases qH k H.length with c | c
 ·rw [qN c];exact h
 ·rw [qE c] at h;cases h
theorem QaT (h53:F 53=none) (h55:F 55=none) (h56:F 56=none) (h57:F 57=none) {n:Int} {l:List St} (he:ZY l=true) {t:List Int} (ht:∀k∈t,0≤k∧k<(l.length:Int)) (hl:t.length≤1000) (H:Heap) (hm:mxs H≤H.length) :
  ClF F 57 [Qv n l,.imm .arg 1 (t.map Qb)] H (.tuple [.ptr (H.length+1) 0 0 1,.int .i64 ((ksT l t).2.2.length:Int)]) (H++[bN n l,bU (ksT l t).1]):=by
 have hN:H[H.length]?=none:=qE (qB _)
 have a:=QkJ (F:=F) 0 n (l.map Qa) (t.map Qb) H (a0:=.ptr H.length 0 0 1) (H0:=H++[bN n l]) rfl
 obtain ⟨N0,c53⟩:=CallsTo.from (K0 (F:=F) h53 (H++[bN n l]) (by rw [WI];simp only [mxs,Blk.mx,qC,qF];omega))
 rw [qG,qC,qF] at c53
 have b:=QkK (F:=F) N0 n (l.map Qa) (t.map Qb) (H++[bN n l]) H.length (H.length+1) c53
 have c:=QkL (F:=F) 0 n (l.map Qa) (t.map Qb) (H++[bN n l,bU (Qg 16)]) H.length (H.length+1)
 have d:=QkM (F:=F) 0 n (l.map Qa) (t.map Qb) (H++[bN n l,bU (Qg 16)]) H.length (H.length+1) 0
 rw [qD] at d
 have r:=Wk (pol':=plF F) (f:=57) (E:=fun i=>(Ze (Qv n l) (.a (t.map Qb)) (.ptr H.length 0 0 1) Ud (.i 0) (.q (H.length+1)) (.i (((ksT l (t.take i)).2.2.length:Nat):Int)) Ud (.a (t.map Qb)) (.i (t.length:Int)) (.i (i:Int)))) (Hs:=fun i=>H++[bN n l,bU (ksT l (t.take i)).1]) t.length
  (E0:=fun i=>(Ze (Qv n l) (.a (t.map Qb)) (.ptr H.length 0 0 1) Ud (.i 0) (.q (H.length+1)) (.i (((ksT l (t.take (i+1))).2.2.length:Nat):Int)) (.i ((t.getD i 0).toNat:Int)) (.a (t.map Qb)) (.i (t.length:Int)) (.i ((i+1:Nat):Int)))) (H1:=fun i=>H++[bN n l,bU (ksT l (t.take (i+1))).1])
  (fun i hi=>by
   have hk:=ht _ (Qu 0 hi)
   have hU:=Jt he (t:=t.take i) fun k hk=>ht k (qP hk)
   obtain ⟨e1,e2⟩:=Kt he hk
   obtain ⟨N1,cj⟩:=CallsTo.from (XJ (F:=F) h55 h56 (H:=H++[bN n l,bU (ksT l (t.take i)).1]) (QbR H _ _) hU e1 e2)
   rw [QsM] at cj
   have hs:=VK l t hi
   have g2:=gs (l:=l) (y:=(t.getD i 0).toNat) (by omega)
   have ln:=ZX (H:=H++[bN n l,bU (ksT l (t.take i)).1]) (QeK H _ _)
   have hlen:=Yh l (t.take i)
   rw [qQ] at hlen
   have es:(ksT l (t.take (i+1))).1=upJ (ksT l (t.take i)).1 (ksT l (t.take i)).2.1 (sA l (t.getD i 0)) (sB l (t.getD i 0)):=by rw [hs];rfl
   by_cases cc:(ksT l (t.take i)).2.1.getD (sA l (t.getD i 0)).toNat 0≠(ksT l (t.take i)).2.1.getD (sB l (t.getD i 0)).toNat 0
   ·rw [decide_eq_true cc] at cj
    have s:=QkN (F:=F) N1 n (l.map Qa) (t.map Qb) (H++[bN n l,bU (ksT l (t.take i)).1]) H.length (H.length+1) (ksT l (t.take i)).2.2.length t.length i (t.getD i 0).toNat (l.getD (t.getD i 0).toNat (0,0,0)).1 (l.getD (t.getD i 0).toNat (0,0,0)).2.1 (l.getD (t.getD i 0).toNat (0,0,0)).2.2 (by omega) (gk hi (m:=l.length) (fun k hk=>ht k hk)).1 ln g2 ln g2 cj
    have el:(ksT l (t.take (i+1))).2.2.length=(ksT l (t.take i)).2.2.length+1:=by rw [hs,Kj];simp only;rw [if_pos cc];simp
    rw [Qi (by omega),Qi (by omega),← el,← es] at s
    exact s
   ·rw [decide_eq_false cc] at cj
    have s:=QkO (F:=F) N1 n (l.map Qa) (t.map Qb) (H++[bN n l,bU (ksT l (t.take i)).1]) H.length (H.length+1) (ksT l (t.take i)).2.2.length t.length i (t.getD i 0).toNat (l.getD (t.getD i 0).toNat (0,0,0)).1 (l.getD (t.getD i 0).toNat (0,0,0)).2.1 (l.getD (t.getD i 0).toNat (0,0,0)).2.2 (by omega) (gk hi (m:=l.length) (fun k hk=>ht k hk)).1 ln g2 ln g2 cj
    have el:(ksT l (t.take (i+1))).2.2.length=(ksT l (t.take i)).2.2.length:=by rw [hs,Kj];simp only;rw [if_neg cc]
    rw [Qi (by omega),← es] at s
    rw [el]
    exact s) (fun i _=>by kernel_rfl) (fun i _=>QH _ (by simp)) (QkP (F:=F) 0 n (l.map Qa) (t.map Qb) (H++[bN n l,bU (ksT l (t.take t.length)).1]) H.length (H.length+1) (ksT l (t.take t.length)).2.2.length t.length t.length 0 0 0 0 (by omega)) (by simp) (c:=sn 122 B57) (by kernel_rfl) (fun i _=>by kernel_rfl)
 have z:=QkQ (F:=F) 0 n (l.map Qa) (t.map Qb) (H++[bN n l,bU (ksT l (t.take t.length)).1]) H.length (H.length+1) (ksT l (t.take t.length)).2.2.length (y11:=(.a (t.map Qb))) (y12:=.i (t.length:Int)) (y13:=.i (t.length:Int))
 have u:=sq (a) (sq (b) (sq (c) (sq (sq (d) (bke (c:=sn 61 B57) (r)) (c:=sn 30 B57)) (z) (c:=sn 15 B57)) (c:=sn 7 B57)) (c:=sn 3 B57)) (c:=B57)
 rw [List.take_length] at u
 have h:=CallsTo.shared (P:=Tp) (pol:=plF F) (g:=57) (fn:=Try.f57) (cd:=B57) (args:=[Qv n l,(.imm .arg 1 (t.map Qb))]) (v:=.tuple [.ptr (H.length+1) 0 0 1,.int .i64 ((ksT l t).2.2.length:Int)]) h57 (by kernel_rfl) (by kernel_rfl) (by kernel_rfl) u (by kernel_rfl) (by simp) (by kernel_rfl)
 have e:gc H.length (bnd (.tuple [.ptr (H.length+1) 0 0 1,.int .i64 ((ksT l t).2.2.length:Int)])) (H++[bN n l,bU (ksT l t).1])=H++[bN n l,bU (ksT l t).1]:=by
  unfold gc
  rw [qJ]
  simp only [qC,qO,List.length_nil,bnd,bndL]
  omega
 rw [e] at h
 exact h
theorem GA (h53:F 53=none) (h55:F 55=none) (h56:F 56=none) (h57:F 57=none) {n:Int} {l:List St} (he:ZY l=true) {t o:List Int} (ht:∀k∈t,0≤k∧k<(l.length:Int)) (hl:t.length≤1000) {H:Heap} (hm:mxs H≤H.length) {lb:Nat} {cap:Option Nat} (hb:H[lb]?=some (bI o)) (ho:∀i,i<t.length→i<o.length∧o.getD i 0=t.getD i 0) :
  ClF F 57 [Qv n l,.sl lb 0 t.length cap o.length 1] H (.tuple [.ptr (H.length+1) 0 0 1,.int .i64 ((ksT l t).2.2.length:Int)]) (H++[bN n l,bU (ksT l t).1]):=by
 have ixs:∀i,i<t.length→Z4 Tp 24 (.sl lb 0 t.length cap o.length 1) (.int .i64 (i:Int))=some (.ptr lb i 0 o.length):=fun i hi=>by
  have:=Ch (P:=Tp) (t:=24) (b:=lb) (len:=t.length) (tot:=o.length) (cap:=cap) (ik:=.i64) (n:=(i:Int)) u24 z3 (by omega) (by omega)
  rwa [qK] at this
 have lds:∀(X:Heap) i,i<t.length→QK Tp (H++X) 3 (.ptr lb i 0 o.length)=some (.int .i64 ((t.getD i 0).toNat:Int)):=fun X i hi=>by
  rw [Q6 (WJ hb) (ho i hi).1,(ho i hi).2]
  have:=ht _ (Qu 0 hi)
  rw [show (((t.getD i 0).toNat:Nat):Int)=t.getD i 0 by omega]
 have hN:H[H.length]?=none:=qE (qB _)
 have a:=QkR (F:=F) 0 n (l.map Qa) lb t.length o.length cap H (a0:=.ptr H.length 0 0 1) (H0:=H++[bN n l]) rfl
 obtain ⟨N0,c53⟩:=CallsTo.from (K0 (F:=F) h53 (H++[bN n l]) (by rw [WI];simp only [mxs,Blk.mx,qC,qF];omega))
 rw [qG,qC,qF] at c53
 have b:=QkS (F:=F) N0 n (l.map Qa) lb t.length o.length cap (H++[bN n l]) H.length (H.length+1) c53
 have c:=QkT (F:=F) 0 n (l.map Qa) lb t.length o.length cap (H++[bN n l,bU (Qg 16)]) H.length (H.length+1)
 have d:=QkU (F:=F) 0 n (l.map Qa) lb t.length o.length cap (H++[bN n l,bU (Qg 16)]) H.length (H.length+1) 0
 skip
 have r:=Wk (pol':=plF F) (f:=57) (E:=fun i=>(Ze (Qv n l) (.sl lb 0 t.length cap o.length 1) (.ptr H.length 0 0 1) Ud (.i 0) (.q (H.length+1)) (.i (((ksT l (t.take i)).2.2.length:Nat):Int)) Ud (.sl lb 0 t.length cap o.length 1) (.i (t.length:Int)) (.i (i:Int)))) (Hs:=fun i=>H++[bN n l,bU (ksT l (t.take i)).1]) t.length
  (E0:=fun i=>(Ze (Qv n l) (.sl lb 0 t.length cap o.length 1) (.ptr H.length 0 0 1) Ud (.i 0) (.q (H.length+1)) (.i (((ksT l (t.take (i+1))).2.2.length:Nat):Int)) (.i ((t.getD i 0).toNat:Int)) (.sl lb 0 t.length cap o.length 1) (.i (t.length:Int)) (.i ((i+1:Nat):Int)))) (H1:=fun i=>H++[bN n l,bU (ksT l (t.take (i+1))).1])
  (fun i hi=>by
   have hk:=ht _ (Qu 0 hi)
   have hU:=Jt he (t:=t.take i) fun k hk=>ht k (qP hk)
   obtain ⟨e1,e2⟩:=Kt he hk
   obtain ⟨N1,cj⟩:=CallsTo.from (XJ (F:=F) h55 h56 (H:=H++[bN n l,bU (ksT l (t.take i)).1]) (QbR H _ _) hU e1 e2)
   rw [QsM] at cj
   have hs:=VK l t hi
   have g2:=gs (l:=l) (y:=(t.getD i 0).toNat) (by omega)
   have ln:=ZX (H:=H++[bN n l,bU (ksT l (t.take i)).1]) (QeK H _ _)
   have hlen:=Yh l (t.take i)
   rw [qQ] at hlen
   have es:(ksT l (t.take (i+1))).1=upJ (ksT l (t.take i)).1 (ksT l (t.take i)).2.1 (sA l (t.getD i 0)) (sB l (t.getD i 0)):=by rw [hs];rfl
   by_cases cc:(ksT l (t.take i)).2.1.getD (sA l (t.getD i 0)).toNat 0≠(ksT l (t.take i)).2.1.getD (sB l (t.getD i 0)).toNat 0
   ·rw [decide_eq_true cc] at cj
    have s:=QkV (F:=F) N1 n (l.map Qa) lb t.length o.length cap (H++[bN n l,bU (ksT l (t.take i)).1]) H.length (H.length+1) (ksT l (t.take i)).2.2.length t.length i (t.getD i 0).toNat (l.getD (t.getD i 0).toNat (0,0,0)).1 (l.getD (t.getD i 0).toNat (0,0,0)).2.1 (l.getD (t.getD i 0).toNat (0,0,0)).2.2 (by omega) (ixs i hi) (lds _ i hi) ln g2 ln g2 cj
    have el:(ksT l (t.take (i+1))).2.2.length=(ksT l (t.take i)).2.2.length+1:=by rw [hs,Kj];simp only;rw [if_pos cc];simp
    rw [Qi (by omega),Qi (by omega),← el,← es] at s
    exact s
   ·rw [decide_eq_false cc] at cj
    have s:=QkW (F:=F) N1 n (l.map Qa) lb t.length o.length cap (H++[bN n l,bU (ksT l (t.take i)).1]) H.length (H.length+1) (ksT l (t.take i)).2.2.length t.length i (t.getD i 0).toNat (l.getD (t.getD i 0).toNat (0,0,0)).1 (l.getD (t.getD i 0).toNat (0,0,0)).2.1 (l.getD (t.getD i 0).toNat (0,0,0)).2.2 (by omega) (ixs i hi) (lds _ i hi) ln g2 ln g2 cj
    have el:(ksT l (t.take (i+1))).2.2.length=(ksT l (t.take i)).2.2.length:=by rw [hs,Kj];simp only;rw [if_neg cc]
    rw [Qi (by omega),← es] at s
    rw [el]
    exact s) (fun i _=>by kernel_rfl) (fun i _=>QH _ (by simp)) (QkX (F:=F) 0 n (l.map Qa) lb t.length o.length cap (H++[bN n l,bU (ksT l (t.take t.length)).1]) H.length (H.length+1) (ksT l (t.take t.length)).2.2.length t.length t.length 0 0 0 0 (by omega)) (by simp) (c:=sn 122 B57) (by kernel_rfl) (fun i _=>by kernel_rfl)
 have z:=QkY (F:=F) 0 n (l.map Qa) lb t.length o.length cap (H++[bN n l,bU (ksT l (t.take t.length)).1]) H.length (H.length+1) (ksT l (t.take t.length)).2.2.length (y11:=(.sl lb 0 t.length cap o.length 1)) (y12:=.i (t.length:Int)) (y13:=.i (t.length:Int))
 have u:=sq (a) (sq (b) (sq (c) (sq (sq (d) (bke (c:=sn 61 B57) (r)) (c:=sn 30 B57)) (z) (c:=sn 15 B57)) (c:=sn 7 B57)) (c:=sn 3 B57)) (c:=B57)
 rw [List.take_length] at u
 have h:=CallsTo.shared (P:=Tp) (pol:=plF F) (g:=57) (fn:=Try.f57) (cd:=B57) (args:=[Qv n l,(.sl lb 0 t.length cap o.length 1)]) (v:=.tuple [.ptr (H.length+1) 0 0 1,.int .i64 ((ksT l t).2.2.length:Int)]) h57 (by kernel_rfl) (by kernel_rfl) (by kernel_rfl) u (by kernel_rfl) (by simp) (by kernel_rfl)
 have e:gc H.length (bnd (.tuple [.ptr (H.length+1) 0 0 1,.int .i64 ((ksT l t).2.2.length:Int)])) (H++[bN n l,bU (ksT l t).1])=H++[bN n l,bU (ksT l t).1]:=by
  unfold gc
  rw [qJ]
  simp only [qC,qO,List.length_nil,bnd,bndL]
  omega
 rw [e] at h
 exact h
end
def Qf (l:List St):List Int:=tkT l (Qh l)
def Wl (n:Int) (l:List St):Bool:=decide (((Qf l).length:Int)=n-1)
def GB (n:Int) (l:List St):Prop:=ZY l=true∧l.length≤900∧0≤n∧n≤1000
instance (n:Int) (l:List St):Decidable (GB n l):=inferInstanceAs (Decidable (_∧_∧_∧_))
def YC:List HV→Option HV:=f1 kN fun p=>if GB p.1 p.2 then some (.tuple [.own 1 ((Qf p.2).map Qb),.bool (Wl p.1 p.2)]) else none
def Vi:FuncId→Option (List HV→Option HV):=fun g=>if g==54 then some Xa else none
theorem Qg3 (n:Nat):Qn Tp (Qc Tp (plF Vi) n):=Qy _ (fun g f h=>by
 unfold Vi at h
 split at h
 ·rename_i hg;cases h;rw [eq_of_beq hg];exact XO
 ·cases h) n
theorem QsN:Try.f40.results.toList=[.tmp 2,.tmp 3]:=by kernel_rfl
theorem Us (l:List Int) (x:Bool) (H:Heap):ZP (.tuple [.own 1 (l.map Qb),.bool x]) H=(.tuple [.sl H.length 0 l.length none l.length 1,.bool x],H++[bI l]):=by
 have h:Wi (.own 1 (l.map Qb)) H=(.sl H.length 0 l.length none l.length 1,H++[bI l]):=by
  simp only [Wi,VC,qD];rfl
 simp only [ZP,ZQ,Jf,h];rfl
theorem Qnh {H:Heap} {b k:Nat} {o:List Int} (hb:H[b]?=some (bI o)) (hk:o.length=k) (x:Bool):WP H false (.tuple [.sl b 0 k none k 1,.bool x])=some (.tuple [.own 1 (o.map Qb),.bool x]):=by
 have hr:=ZE (H:=H) (no:=[b]) (b:=b) (k:=1) (m:=k) (cap:=none) (els:=o.map Qb) hb (by simpa using hk) (WE (fun r=>Ke 4 r) _)
 have ho:QM H false (.tuple [.sl b 0 k none k 1,.bool x])=[b]:=by simp [QM,cellsOf,Zq,hb]
 simp only [WP,ho,List.nodup_cons,List.not_mem_nil,not_false_eq_true,List.nodup_nil,and_self,if_true,W4,mapO,hr]
 rfl
theorem Yi:QP Tp 40 YC:=by
 refine Qp (pol:=plF Vi) (fn:=Try.f40) (cd:=B40) Qk Qg3 (by kernel_rfl) (by kernel_rfl) (Zm Vi _ _ (by kernel_rfl)) (by kernel_rfl) ?_
 intro args res h
 obtain ⟨⟨n,l⟩,rfl,hq⟩:=XH h
 split at hq
 case isFalse=>cases hq
 rename_i hc
 obtain ⟨he,hl,n0,n1⟩:=hc
 simp only at he hl n0 n1
 cases hq
 have ht:∀k∈Qh l,0≤k∧k<(l.length:Int):=fun k hk=>ordT_mem.1 hk
 have hol:=SP l
 have a:=QkA (F:=Vi) 0 n (l.map Qa)
 obtain ⟨N0,c53⟩:=CallsTo.from (K0 (F:=Vi) (by kernel_rfl) [bN n l] (by show max 0 0≤2;decide))
 have b:=QkB (F:=Vi) N0 n (l.map Qa) [bN n l] c53
 have c:=QkC (F:=Vi) 0 n (l.map Qa) ((Qg 16).map Qb)
 have c54:=at1 (pol':=plF Vi) (g:=54) (c1:=kN) (f:=fun p=>if p.2.length≤900 then some (.own 1 ((Qh p.2).map Qb)) else none) (H:=[bN n l,bU (Qg 16),bI []]) (by kernel_rfl) (ShN _ n l) (if_pos hl)
 rw [W1,hol] at c54
 have d:=QkD (F:=Vi) 0 n (l.map Qa) [bN n l,bU (Qg 16),bI []] 0 l.length (Dh (P:=Tp) (b:=0) (els:=[Qv n l]) (cs:=[.int .i64 n,.imm .arg 3 (l.map Qa)]) rfl rfl rfl a66 z66) c54
 have hT:Qf l=(ksT l (Qh l)).2.2:=rfl
 have hCn:Wl n l=decide (((ksT l (Qh l)).2.2.length:Int)=n-1):=rfl
 generalize Qh l=o at *
 have r:=Wk (pol':=plF Vi) (f:=40) (E:=fun i=>(Gz (Qv n l) (.q 0) (.imm .lit 1 []) (.bool false) (.q 1) (.sl 2 0 (ksT l (o.take i)).2.2.length none (ksT l (o.take i)).2.2.length 1) Ud (.s 3 l.length) (.i (l.length:Int)) (.i (i:Int)))) (Hs:=fun i=>[bN n l,bU (ksT l (o.take i)).1,bI (ksT l (o.take i)).2.2,bI o]) l.length
  (E0:=fun i=>(Gz (Qv n l) (.q 0) (.imm .lit 1 []) (.bool false) (.q 1) (.sl 2 0 (ksT l (o.take (i+1))).2.2.length none (ksT l (o.take (i+1))).2.2.length 1) (.i ((o.getD i 0).toNat:Int)) (.s 3 l.length) (.i (l.length:Int)) (.i ((i+1:Nat):Int)))) (H1:=fun i=>[bN n l,bU (ksT l (o.take (i+1))).1,bI (ksT l (o.take (i+1))).2.2,bI o])
  (fun i hi=>by
   have hi2:i<o.length:=by omega
   have hk:=ht _ (Qu 0 hi2)
   have hU:=Jt he (t:=o.take i) fun k hk=>ht k (qP hk)
   obtain ⟨e1,e2⟩:=Kt he hk
   obtain ⟨N1,cj⟩:=CallsTo.from (XJ (F:=Vi) (by kernel_rfl) (by kernel_rfl) (H:=[bN n l,bU (ksT l (o.take i)).1,bI (ksT l (o.take i)).2.2,bI o]) (b:=1) rfl hU e1 e2)
   have hs:=VK l o hi2
   have g2:=gs (l:=l) (y:=(o.getD i 0).toNat) (by omega)
   have ix:=Ch (P:=Tp) (t:=24) (b:=3) (len:=l.length) (tot:=l.length) (cap:=none) (ik:=.i64) (n:=(i:Int)) u24 z3 (by omega) (by omega)
   rw [qK] at ix
   have ld:=Q6 (H:=[bN n l,bU (ksT l (o.take i)).1,bI (ksT l (o.take i)).2.2,bI o]) (k:=3) (o:=o) rfl hi2
   rw [hol,show o.getD i 0=(((o.getD i 0).toNat:Nat):Int) by omega] at ld
   have ln:=ZX (H:=[bN n l,bU (ksT l (o.take i)).1,bI (ksT l (o.take i)).2.2,bI o]) (xb:=0) rfl
   have hlen:=Yh l (o.take i)
   rw [qQ] at hlen
   have es:(ksT l (o.take (i+1))).1=upJ (ksT l (o.take i)).1 (ksT l (o.take i)).2.1 (sA l (o.getD i 0)) (sB l (o.getD i 0)):=by rw [hs];rfl
   have ek:(((o.getD i 0).toNat:Nat):Int)=o.getD i 0:=by omega
   by_cases cc:(ksT l (o.take i)).2.1.getD (sA l (o.getD i 0)).toNat 0≠(ksT l (o.take i)).2.1.getD (sB l (o.getD i 0)).toNat 0
   ·rw [decide_eq_true cc] at cj
    have el:(ksT l (o.take (i+1))).2.2=(ksT l (o.take i)).2.2++[(((o.getD i 0).toNat:Nat):Int)]:=by rw [hs,Kj];simp only;rw [if_pos cc,ek]
    have ap:=JD (H:=[bN n l,bU (upJ (ksT l (o.take i)).1 (ksT l (o.take i)).2.1 (sA l (o.getD i 0)) (sB l (o.getD i 0))),bI (ksT l (o.take i)).2.2,bI o]) (b:=2) (o:=(ksT l (o.take i)).2.2) rfl (by omega) (((o.getD i 0).toNat:Nat):Int)
    rw [← el,← es] at ap
    have s:=QkE (F:=Vi) N1 n (l.map Qa) [bN n l,bU (ksT l (o.take i)).1,bI (ksT l (o.take i)).2.2,bI o] (ksT l (o.take i)).2.2.length l.length i (o.getD i 0).toNat (l.getD (o.getD i 0).toNat (0,0,0)).1 (l.getD (o.getD i 0).toNat (0,0,0)).2.1 (l.getD (o.getD i 0).toNat (0,0,0)).2.2 (by omega) ix ld ln g2 ln g2 cj (by rw [← es];exact ap)
    have el2:(ksT l (o.take (i+1))).2.2.length=(ksT l (o.take i)).2.2.length+1:=by rw [el];simp
    rw [Qi (by omega),← el2] at s
    exact s
   ·rw [decide_eq_false cc] at cj
    have el:(ksT l (o.take (i+1))).2.2=(ksT l (o.take i)).2.2:=by rw [hs,Kj];simp only;rw [if_neg cc]
    have s:=QkF (F:=Vi) N1 n (l.map Qa) [bN n l,bU (ksT l (o.take i)).1,bI (ksT l (o.take i)).2.2,bI o] (ksT l (o.take i)).2.2.length l.length i (o.getD i 0).toNat (l.getD (o.getD i 0).toNat (0,0,0)).1 (l.getD (o.getD i 0).toNat (0,0,0)).2.1 (l.getD (o.getD i 0).toNat (0,0,0)).2.2 (by omega) ix ld ln g2 ln g2 cj
    rw [Qi (by omega),← es] at s
    rw [el]
    exact s) (fun i _=>by kernel_rfl) (fun i _=>QH _ rfl) (QkG (F:=Vi) 0 n (l.map Qa) [bN n l,bU (ksT l (o.take l.length)).1,bI (ksT l (o.take l.length)).2.2,bI o] (ksT l (o.take l.length)).2.2.length l.length l.length 0 0 0 0 (by omega)) (by simp) (c:=sn 122 B40) (by kernel_rfl) (fun i _=>by kernel_rfl)
 have eo:o.take l.length=o:=qJ (by omega)
 rw [eo] at r
 have hw:qA.wrap (n-1)=n-1:=Qr (by omega) (by omega)
 have hlen:=Yh l o
 have fin:∃E H2,RT (plF Vi) 40 (sn 31 B40) ((Gz (Qv n l) (.q 0) (.imm .lit 1 []) (.bool false) (.q 1) (.sl 2 0 (ksT l o).2.2.length none (ksT l o).2.2.length 1) Ud (.s 3 l.length) (.i (l.length:Int)) (.i (l.length:Int)))) [bN n l,bU (ksT l o).1,bI (ksT l o).2.2,bI o] .ret E H2∧H2=[bN n l,bU (ksT l o).1,bI (ksT l o).2.2,bI o]∧E.get 2=.sl 2 0 (ksT l o).2.2.length none (ksT l o).2.2.length 1∧E.get 3=.bool (decide (((ksT l o).2.2.length:Int)=n-1)):=by
  by_cases cc:((ksT l o).2.2.length:Int)=n-1
  ·rw [decide_eq_true cc]
   exact ⟨_,_,QkH (F:=Vi) 0 n (l.map Qa) [bN n l,bU (ksT l o).1,bI (ksT l o).2.2,bI o] (ksT l o).2.2.length l.length (y10:=.s 3 l.length) (y11:=.i (l.length:Int)) (y12:=.i (l.length:Int)) (Yg (xb:=0) rfl) (by rw [hw];exact cc),rfl,rfl,rfl⟩
  ·rw [decide_eq_false cc]
   exact ⟨_,_,QkI (F:=Vi) 0 n (l.map Qa) [bN n l,bU (ksT l o).1,bI (ksT l o).2.2,bI o] (ksT l o).2.2.length l.length (y10:=.s 3 l.length) (y11:=.i (l.length:Int)) (y12:=.i (l.length:Int)) (Yg (xb:=0) rfl) (by rw [hw];exact cc),rfl,rfl,rfl⟩
 obtain ⟨E2,H2,z,rfl,z2,z3⟩:=fin
 refine ⟨_,_,_,.tuple [.sl 2 0 (ksT l o).2.2.length none (ksT l o).2.2.length 1,.bool (decide (((ksT l o).2.2.length:Int)=n-1))],sq (a) (sq (b) (sq (c) (sq (sq (d) (bke (c:=sn 61 B40) (r)) (c:=sn 30 B40)) (z) (c:=sn 15 B40)) (c:=sn 7 B40)) (c:=sn 3 B40)) (c:=B40),by simp,by simp only [Qd,QsN,mapO,Wz,z2,z3],?_⟩
 show WP _ false _=some (.tuple [.own 1 ((Qf l).map Qb),.bool (Wl n l)])
 rw [hT,hCn]
 exact Qnh (b:=2) rfl rfl _
end Go.Proofs.Ytiejmoglooaalaa
end
section
open Go Go.HL
namespace Go.Proofs.Ytiejmoglooaalaa
set_option maxRecDepth 100000
set_option linter.unusedSectionVars false
open Go.Proofs.Try renaming prog → Tp
open Go.HL.HV renaming undef → Ud
section
variable {F:FuncId→Option (List HV→Option HV)}
noncomputable def B60:Code:=Try.f60.body.getD .skip
abbrev QiO (v0 v1 v2 v3:HV):Env:=[(0,v0),(1,v1),(2,v2),(3,v3)]
end
abbrev e60 (a:Int) (b:Int) (w:Int) (nb:Nat) (u2:HV):Env:=QiO (.agg [.i a,.i b,.i w]) (.q nb) u2 (.bool true)
section
variable {F:FuncId→Option (List HV→Option HV)}
variable (a b w:Int) (nb:Nat) (H:Heap) (v:Int)
include a b w nb H v
theorem Qni {a0:HV} {H0:Heap} {a1:HV} {H1:Heap} {a2:HV} {H2:Heap} {a3:HV} {a4:HV} (g0:some (Q4 (.agg [.i a,.i b,.i w]) H)=some (a0,H0)) (g1:Qt Tp 42 a0 0=some (a1)) (g2:LD H0 3 (a1) (.i a)) (g3:LD H0 3 (.q nb) (.i v)) (g4:CM F 52 [.i a,.i 0,.i (qA.wrap (v-1))] H0 (.bool true) H1) (g5:Qt Tp 42 a0 1=some (a2)) (g6:LD H1 3 (a2) (.i b)) (g7:LD H1 3 (.q nb) (.i v)) (g8:CM F 52 [.i b,.i 0,.i (qA.wrap (v-1))] H1 (.bool true) H2) (g9:Qt Tp 42 a0 0=some (a3)) (g10:LD H2 3 (a3) (.i a)) (g11:Qt Tp 42 a0 1=some (a4)) (g12:LD H2 3 (a4) (.i b)) (g13:a=b): RU F 60 1 B60 [(0,.agg [.i a,.i b,.i w]),(1,.q nb)] H .ret (e60 a b w nb a0) H2 :=
 hx 0 60 [jR 0 0 g0,jO 1 0 H0 g1,jO 1 1 H0 g2,jO 1 2 H0 g3,jD 1 4 g4,jO 1 7 H1 g5,jO 1 8 H1 g6,jO 1 9 H1 g7,jD 1 11 g8,jO 1 15 H2 g9,jO 1 16 H2 g10,jO 1 17 H2 g11,jO 1 18 H2 g12,jT 1 19 H2 g13]
end
section
variable {F:FuncId→Option (List HV→Option HV)}
variable (a b w:Int) (nb:Nat) (H:Heap) (v:Int)
include a b w nb H v
theorem Qnj {a0:HV} {H0:Heap} {a1:HV} {H1:Heap} {a2:HV} {H2:Heap} {a3:HV} {a4:HV} {a5:HV} {H3:Heap} (g0:some (Q4 (.agg [.i a,.i b,.i w]) H)=some (a0,H0)) (g1:Qt Tp 42 a0 0=some (a1)) (g2:LD H0 3 (a1) (.i a)) (g3:LD H0 3 (.q nb) (.i v)) (g4:CM F 52 [.i a,.i 0,.i (qA.wrap (v-1))] H0 (.bool true) H1) (g5:Qt Tp 42 a0 1=some (a2)) (g6:LD H1 3 (a2) (.i b)) (g7:LD H1 3 (.q nb) (.i v)) (g8:CM F 52 [.i b,.i 0,.i (qA.wrap (v-1))] H1 (.bool true) H2) (g9:Qt Tp 42 a0 0=some (a3)) (g10:LD H2 3 (a3) (.i a)) (g11:Qt Tp 42 a0 1=some (a4)) (g12:LD H2 3 (a4) (.i b)) (g13:¬(a=b)) (g14:Qt Tp 42 a0 2=some (a5)) (g15:LD H2 3 (a5) (.i w)) (g16:CM F 52 [.i w,.i 0,.i 1000] H2 (.bool true) H3): RU F 60 1 B60 [(0,.agg [.i a,.i b,.i w]),(1,.q nb)] H .ret (QiO (.agg [.i a,.i b,.i w]) (.q nb) a0 (.bool false)) H3 :=
 hx 0 60 [jR 0 0 g0,jO 1 0 H0 g1,jO 1 1 H0 g2,jO 1 2 H0 g3,jD 1 4 g4,jO 1 7 H1 g5,jO 1 8 H1 g6,jO 1 9 H1 g7,jD 1 11 g8,jO 1 15 H2 g9,jO 1 16 H2 g10,jO 1 17 H2 g11,jO 1 18 H2 g12,jF 1 19 H2 g13,jO 1 22 H2 g14,jO 1 23 H2 g15,jD 1 24 g16]
theorem Qnk {a0:HV} {H0:Heap} {a1:HV} {H1:Heap} {a2:HV} {H2:Heap} {a3:HV} {a4:HV} {a5:HV} {H3:Heap} (g0:some (Q4 (.agg [.i a,.i b,.i w]) H)=some (a0,H0)) (g1:Qt Tp 42 a0 0=some (a1)) (g2:LD H0 3 (a1) (.i a)) (g3:LD H0 3 (.q nb) (.i v)) (g4:CM F 52 [.i a,.i 0,.i (qA.wrap (v-1))] H0 (.bool true) H1) (g5:Qt Tp 42 a0 1=some (a2)) (g6:LD H1 3 (a2) (.i b)) (g7:LD H1 3 (.q nb) (.i v)) (g8:CM F 52 [.i b,.i 0,.i (qA.wrap (v-1))] H1 (.bool true) H2) (g9:Qt Tp 42 a0 0=some (a3)) (g10:LD H2 3 (a3) (.i a)) (g11:Qt Tp 42 a0 1=some (a4)) (g12:LD H2 3 (a4) (.i b)) (g13:¬(a=b)) (g14:Qt Tp 42 a0 2=some (a5)) (g15:LD H2 3 (a5) (.i w)) (g16:CM F 52 [.i w,.i 0,.i 1000] H2 (.bool false) H3): RU F 60 1 B60 [(0,.agg [.i a,.i b,.i w]),(1,.q nb)] H .ret (e60 a b w nb a0) H3 :=
 hx 0 60 [jR 0 0 g0,jO 1 0 H0 g1,jO 1 1 H0 g2,jO 1 2 H0 g3,jD 1 4 g4,jO 1 7 H1 g5,jO 1 8 H1 g6,jO 1 9 H1 g7,jD 1 11 g8,jO 1 15 H2 g9,jO 1 16 H2 g10,jO 1 17 H2 g11,jO 1 18 H2 g12,jF 1 19 H2 g13,jO 1 22 H2 g14,jO 1 23 H2 g15,jD 1 24 g16]
theorem Qnl {a0:HV} {H0:Heap} {a1:HV} {H1:Heap} {a2:HV} {H2:Heap} (g0:some (Q4 (.agg [.i a,.i b,.i w]) H)=some (a0,H0)) (g1:Qt Tp 42 a0 0=some (a1)) (g2:LD H0 3 (a1) (.i a)) (g3:LD H0 3 (.q nb) (.i v)) (g4:CM F 52 [.i a,.i 0,.i (qA.wrap (v-1))] H0 (.bool true) H1) (g5:Qt Tp 42 a0 1=some (a2)) (g6:LD H1 3 (a2) (.i b)) (g7:LD H1 3 (.q nb) (.i v)) (g8:CM F 52 [.i b,.i 0,.i (qA.wrap (v-1))] H1 (.bool false) H2): RU F 60 1 B60 [(0,.agg [.i a,.i b,.i w]),(1,.q nb)] H .ret (e60 a b w nb a0) H2 :=
 hx 0 60 [jR 0 0 g0,jO 1 0 H0 g1,jO 1 1 H0 g2,jO 1 2 H0 g3,jD 1 4 g4,jO 1 7 H1 g5,jO 1 8 H1 g6,jO 1 9 H1 g7,jD 1 11 g8]
theorem Qnm {a0:HV} {H0:Heap} {a1:HV} {H1:Heap} (g0:some (Q4 (.agg [.i a,.i b,.i w]) H)=some (a0,H0)) (g1:Qt Tp 42 a0 0=some (a1)) (g2:LD H0 3 (a1) (.i a)) (g3:LD H0 3 (.q nb) (.i v)) (g4:CM F 52 [.i a,.i 0,.i (qA.wrap (v-1))] H0 (.bool false) H1): RU F 60 1 B60 [(0,.agg [.i a,.i b,.i w]),(1,.q nb)] H .ret (e60 a b w nb a0) H1 :=
 hx 0 60 [jR 0 0 g0,jO 1 0 H0 g1,jO 1 1 H0 g2,jO 1 2 H0 g3,jD 1 4 g4]
end
section
variable {F:FuncId→Option (List HV→Option HV)}
noncomputable def B74:Code:=Try.f74.body.getD .skip
abbrev Dy (v0 v1 v4 v5 v7 v8:HV):Env:=[(0,v0),(1,v1),(4,v4),(5,v5),(7,v7),(8,v8)]
end
abbrev e74 (ls:List HV) (nb:Nat) (u3 u4 u5:HV):Env:=Dy (.g ls) (.func 60 [] [.q nb]) (.i 0) u3 u4 u5
section
variable {F:FuncId→Option (List HV→Option HV)}
variable (N:Nat) (ls:List HV) (nb:Nat) (H:Heap)
include N ls nb H
theorem Qnn:RU F 74 2 B74 [(0,.g ls),(1,.func 60 [] [.q nb])] H .normal (e74 ls nb Ud Ud Ud) H :=
 hx N 60 []
end
section
variable {F:FuncId→Option (List HV→Option HV)}
variable (N:Nat) (ls:List HV) (nb:Nat) (H:Heap)
include N ls nb H
theorem Qno (y5 y7 y8:HV:=Ud): RU F 74 12 B74 (e74 ls nb y5 y7 y8) H .normal (e74 ls nb y5 (.i (ls.length:Int)) (.i 0)) H :=
 hx N 60 []
theorem Qnp (m j:Nat) (a b w:Int) {H0:Heap} (g0:(j:Int)<(m:Int)) (g1:IX 22 (.g ls) (.n j) (.vptr (.agg [.i a,.i b,.i w]))) (g2:CN F N 60 [.agg [.i a,.i b,.i w],.q nb] H (.bool true) H0) (y5:HV:=Ud): RU F 74 52 B74 (e74 ls nb y5 (.n m) (.n j)) H .ret (Dy (.g ls) (.func 60 [] [.q nb]) (.n j) (.n j) (.n m) (.n j)) H0 :=
 hx N 60 [jT 2 0 H g0,jO 4 3 H g1,jC 4 5 g2]
theorem Qnq (m j:Nat) (a b w:Int) {H0:Heap} (g0:(j:Int)<(m:Int)) (g1:IX 22 (.g ls) (.n j) (.vptr (.agg [.i a,.i b,.i w]))) (g2:CN F N 60 [.agg [.i a,.i b,.i w],.q nb] H (.bool false) H0) (y5:HV:=Ud): RU F 74 52 B74 (e74 ls nb y5 (.n m) (.n j)) H .normal (e74 ls nb (.n j) (.n m) (.i (qA.wrap ((j:Int)+1)))) H0 :=
 hx N 60 [jT 2 0 H g0,jO 4 3 H g1,jC 4 5 g2]
theorem Qnr (m j:Nat) (a b w:Int) (g0:¬((j:Int)<(m:Int))) (y5:HV:=Ud): RU F 74 52 B74 (e74 ls nb y5 (.n m) (.n j)) H (.exit 0) (e74 ls nb y5 (.n m) (.n j)) H :=
 hx N 60 [jF 2 0 H g0]
theorem Qns (y5 y7 y8:HV:=Ud): RU F 74 7 B74 (e74 ls nb y5 y7 y8) H .ret (Dy (.g ls) (.func 60 [] [.q nb]) (.i (-1)) y5 y7 y8) H :=
 hx N 60 []
end
section
variable {F:FuncId→Option (List HV→Option HV)}
noncomputable def B61:Code:=Try.f61.body.getD .skip
abbrev QiP (v0 v1 v4:HV):Env:=[(0,v0),(1,v1),(4,v4)]
theorem Qnt (N:Nat) (ls:List HV) (nb:Nat) (H:Heap) {r0:Int} {H0:Heap} (g0:CN F N 74 [.g ls,.func 60 [] [.q nb]] H (.i r0) H0) (g1:0≤r0): RU F 61 1 B61 [(0,.g ls),(1,.func 60 [] [.q nb])] H .ret (QiP (.g ls) (.func 60 [] [.q nb]) (.bool true)) H0 :=
 hx N 60 [jC 1 2 g0,jT 1 3 H0 g1]
theorem Qnu (N:Nat) (ls:List HV) (nb:Nat) (H:Heap) {r0:Int} {H0:Heap} (g0:CN F N 74 [.g ls,.func 60 [] [.q nb]] H (.i r0) H0) (g1:¬(0≤r0)): RU F 61 1 B61 [(0,.g ls),(1,.func 60 [] [.q nb])] H .ret (QiP (.g ls) (.func 60 [] [.q nb]) (.bool false)) H0 :=
 hx N 60 [jC 1 2 g0,jF 1 3 H0 g1]
noncomputable def B39:Code:=Try.f39.body.getD .skip
abbrev QbS (v0 v1 v2 v4 v5 v6 v7:HV):Env:=[(0,v0),(1,v1),(2,v2),(4,v4),(5,v5),(6,v6),(7,v7)]
end
section
variable {F:FuncId→Option (List HV→Option HV)}
variable (N:Nat) (n:Int) (ls:List HV) (H:Heap)
include N n ls H
theorem Qnv {a0:HV} {H0:Heap} {a1:HV} {H1:Heap} {H2:Heap} {H3:Heap} {H4:Heap} (g0:some (Q4 (.i n) H)=some (a0,H0)) (g1:some (Q4 (.agg [.i 0,.imm .lit 0 []]) H0)=some (a1,H1)) (g2:LD H1 3 (a0) (.i n)) (g3:CM F 52 [.i n,.i 1,.i 16] H1 (.bool true) H2) (g4:(ls.length:Int)≤60) (g5:CN F N 61 [.g ls,.func 60 [] [a0]] H2 (.bool true) H3) (g6:LD H3 3 (a0) (.i n)) (g7:ST H3 66 (a1) (.N n ls) H4): RU F 39 1 B39 [(0,.i n),(1,.g ls)] H .ret (QbS (.i n) (.g ls) a0 a1 (.bool false) (.func 60 [] [a0]) (.bool false)) H4 :=
 hx N 60 [jR 0 0 g0,jR 0 1 g1,jO 2 0 H1 g2,jD 2 1 g3,jT 2 5 H2 g4,jC 2 10 g5,jO 3 0 H3 g6,jS 3 4 g7]
theorem Qnw {a0:HV} {H0:Heap} {a1:HV} {H1:Heap} {H2:Heap} {H3:Heap} {H4:Heap} (g0:some (Q4 (.i n) H)=some (a0,H0)) (g1:some (Q4 (.agg [.i 0,.imm .lit 0 []]) H0)=some (a1,H1)) (g2:LD H1 3 (a0) (.i n)) (g3:CM F 52 [.i n,.i 1,.i 16] H1 (.bool true) H2) (g4:(ls.length:Int)≤60) (g5:CN F N 61 [.g ls,.func 60 [] [a0]] H2 (.bool false) H3) (g6:LD H3 3 (a0) (.i n)) (g7:ST H3 66 (a1) (.N n ls) H4): RU F 39 1 B39 [(0,.i n),(1,.g ls)] H .ret (QbS (.i n) (.g ls) a0 a1 (.bool true) (.func 60 [] [a0]) (.bool true)) H4 :=
 hx N 60 [jR 0 0 g0,jR 0 1 g1,jO 2 0 H1 g2,jD 2 1 g3,jT 2 5 H2 g4,jC 2 10 g5,jO 3 0 H3 g6,jS 3 4 g7]
theorem Qnx {a0:HV} {H0:Heap} {a1:HV} {H1:Heap} {H2:Heap} {H3:Heap} (g0:some (Q4 (.i n) H)=some (a0,H0)) (g1:some (Q4 (.agg [.i 0,.imm .lit 0 []]) H0)=some (a1,H1)) (g2:LD H1 3 (a0) (.i n)) (g3:CM F 52 [.i n,.i 1,.i 16] H1 (.bool true) H2) (g4:¬((ls.length:Int)≤60)) (g5:LD H2 3 (a0) (.i n)) (g6:ST H2 66 (a1) (.N n ls) H3): RU F 39 1 B39 [(0,.i n),(1,.g ls)] H .ret (QbS (.i n) (.g ls) a0 a1 (.bool false) (.func 60 [] [a0]) (.bool false)) H3 :=
 hx N 60 [jR 0 0 g0,jR 0 1 g1,jO 2 0 H1 g2,jD 2 1 g3,jF 2 5 H2 g4,jO 3 0 H2 g5,jS 3 4 g6]
theorem Qny {a0:HV} {H0:Heap} {a1:HV} {H1:Heap} {H2:Heap} {H3:Heap} (g0:some (Q4 (.i n) H)=some (a0,H0)) (g1:some (Q4 (.agg [.i 0,.imm .lit 0 []]) H0)=some (a1,H1)) (g2:LD H1 3 (a0) (.i n)) (g3:CM F 52 [.i n,.i 1,.i 16] H1 (.bool false) H2) (g4:LD H2 3 (a0) (.i n)) (g5:ST H2 66 (a1) (.N n ls) H3): RU F 39 1 B39 [(0,.i n),(1,.g ls)] H .ret (QbS (.i n) (.g ls) a0 a1 (.bool false) (.func 60 [] [a0]) (.bool false)) H3 :=
 hx N 60 [jR 0 0 g0,jR 0 1 g1,jO 2 0 H1 g2,jD 2 1 g3,jO 3 0 H2 g4,jS 3 4 g5]
end
end Go.Proofs.Ytiejmoglooaalaa
end
section
open Go Go.HL
namespace Go.Proofs.Ytiejmoglooaalaa
set_option linter.unusedSectionVars false
open Go.Proofs.Try renaming prog → Tp
open Go.HL.HV renaming undef → Ud
section
variable {F:FuncId→Option (List HV→Option HV)}
theorem YD (h52:F 52=some WZ) (n lo hi:Int) (H:Heap):∀k,Qc Tp (plF F) (k+1) 52 [.int .i64 n,.int .i64 lo,.int .i64 hi] H=some (.bool (decide (lo≤n∧n≤hi)),H) :=
 at3 (pol':=plF F) (g:=52) (c1:=kI) (c2:=kI) (c3:=kI) (f:=fun n lo hi=>some (.bool (decide (lo≤n∧n≤hi)))) h52 (ShI H n) (ShI H lo) (ShI H hi) rfl
abbrev bT (s:St):Blk:=.arr 3 [Qa s] true 0
theorem ldT {H:Heap} {b:Nat} {s:St} (hb:H[b]?=some (bT s)) (off:Nat) (x:Int) (hx:[HV.int .i64 s.1,.int .i64 s.2.1,.int .i64 s.2.2][off]?=some (.int .i64 x)):QK Tp H 3 (.ptr b 0 off 1)=some (.int .i64 x) :=
 V5 (P:=Tp) (t:=3) (b:=b) (i:=0) (off:=off) (tot:=1) (els:=[Qa s]) (cs:=[.int .i64 s.1,.int .i64 s.2.1,.int .i64 s.2.2]) hb rfl rfl a3 i3 hx
theorem ld1 {H:Heap} {b mx:Nat} {n:Int} (hb:H[b]?=some (.arr 1 [.int .i64 n] true mx)):QK Tp H 3 (.ptr b 0 0 1)=some (.int .i64 n):=WD (b:=b) hb rfl rfl rfl a3 i3
theorem K5 {H X:Heap} (hm:mxs (H++X)≤H.length) {r:Nat} (hr:r≤H.length):gc H.length r (H++X)=H:=by
 unfold gc
 rw [show max H.length (max r (mxs (H++X)))=H.length by omega]
 exact List.take_left
theorem SS (h52:F 52=some WZ) (h60:F 60=none) {H:Heap} {nb:Nat} {n:Int} (hb:H[nb]?=some (.arr 1 [.int .i64 n] true 0)) (hm:mxs H≤H.length) (hn:1≤n∧n≤16) (s:St) :
  ClF F 60 [Qa s,.ptr nb 0 0 1] H (.bool (!stB n s)) H:=by
 have hw:qA.wrap (n-1)=n-1:=Qr (by omega) (by omega)
 have hx:(H++[bT s])[H.length]?=some (bT s):=by rw [qI (qB _),Nat.sub_self];rfl
 have lv:=ld1 (WJ (X:=[bT s]) hb)
 have la:=ldT hx 0 s.1 rfl
 have lb:=ldT hx 1 s.2.1 rfl
 have lw:=ldT hx 2 s.2.2 rfl
 have wi:=fun (x lo hi:Int)=>YD h52 x lo hi (H++[bT s])
 have fin:∀(v:Bool) (E:Env),RT (plF F) 60 (sub [] B60) [(0,Qa s),(1,.ptr nb 0 0 1)] H .ret E (H++[bT s])→E.get 3=.bool v→ClF F 60 [Qa s,.ptr nb 0 0 1] H (.bool v) H:=fun v E t he=>by
  have hr:Try.f60.results.toList=[.tmp 3]:=by kernel_rfl
  have h:=CallsTo.shared (P:=Tp) (pol:=plF F) (g:=60) (fn:=Try.f60) (cd:=B60) (args:=[Qa s,.ptr nb 0 0 1]) (v:=.bool v) h60 (by kernel_rfl) (by kernel_rfl) (by kernel_rfl) t (by kernel_rfl) (by simp) (by simp only [Qd,hr,mapO,Wz,he])
  rw [K5 (r:=bnd (.bool v)) (by rw [WI];show max (mxs H) (max 0 0)≤_;omega) (by simp [bnd])] at h
  exact h
 have nv:some (Q4 (Qa s) H)=some (.ptr H.length 0 0 1,H++[bT s]):=rfl
 have f0:Qt Tp 42 (.ptr H.length 0 0 1) 0=some (.ptr H.length 0 0 1):=by kernel_rfl
 have f1:Qt Tp 42 (.ptr H.length 0 0 1) 1=some (.ptr H.length 0 1 1):=by kernel_rfl
 have f2:Qt Tp 42 (.ptr H.length 0 0 1) 2=some (.ptr H.length 0 2 1):=by kernel_rfl
 have w1:=wi s.1 0 (qA.wrap (n-1))
 have w2:=wi s.2.1 0 (qA.wrap (n-1))
 have w3:=wi s.2.2 0 1000
 rw [hw] at w1 w2
 by_cases k1:0≤s.1∧s.1≤n-1
 ·rw [decide_eq_true k1] at w1
  by_cases k2:0≤s.2.1∧s.2.1≤n-1
  ·rw [decide_eq_true k2] at w2
   by_cases k3:s.1=s.2.1
   ·rw [show stB n s=false from decide_eq_false (fun h=>h.2.2.1 k3)]
    exact fin true _ (Qni (F:=F) s.1 s.2.1 s.2.2 nb H n nv f0 la lv (by rw [hw];exact w1) f1 lb lv (by rw [hw];exact w2) f0 la f1 lb k3) rfl
   ·by_cases k4:0≤s.2.2∧s.2.2≤1000
    ·rw [decide_eq_true k4] at w3
     rw [show stB n s=true from decide_eq_true ⟨by omega,by omega,k3,k4⟩]
     exact fin false _ (Qnj (F:=F) s.1 s.2.1 s.2.2 nb H n nv f0 la lv (by rw [hw];exact w1) f1 lb lv (by rw [hw];exact w2) f0 la f1 lb k3 f2 lw w3) rfl
    ·rw [decide_eq_false k4] at w3
     rw [show stB n s=false from decide_eq_false (fun h=>k4 h.2.2.2)]
     exact fin true _ (Qnk (F:=F) s.1 s.2.1 s.2.2 nb H n nv f0 la lv (by rw [hw];exact w1) f1 lb lv (by rw [hw];exact w2) f0 la f1 lb k3 f2 lw w3) rfl
  ·rw [decide_eq_false k2] at w2
   rw [show stB n s=false from decide_eq_false (fun h=>k2 (by omega))]
   exact fin true _ (Qnl (F:=F) s.1 s.2.1 s.2.2 nb H n nv f0 la lv (by rw [hw];exact w1) f1 lb lv (by rw [hw];exact w2)) rfl
 ·rw [decide_eq_false k1] at w1
  rw [show stB n s=false from decide_eq_false (fun h=>k1 (by omega))]
  exact fin true _ (Qnm (F:=F) s.1 s.2.1 s.2.2 nb H n nv f0 la lv (by rw [hw];exact w1)) rfl
theorem Qg4 (h52:F 52=some WZ) (h60:F 60=none) (h74:F 74=none) {H:Heap} {nb:Nat} {n:Int} (hb:H[nb]?=some (.arr 1 [.int .i64 n] true 0)) (hm:mxs H≤H.length) (hn:1≤n∧n≤16) {l:List St} (hl:l.length≤1000) :
  ∃r:Int,ClF F 74 [.imm .arg 3 (l.map Qa),.func 60 [] [.ptr nb 0 0 1]] H (.int .i64 r) H∧(0≤r↔¬l.all (stB n)=true):=by
 have go:∀m,m≤l.length→(∀i,i<m→¬stB n (l.getD i (0,0,0))=false)→∀i,i<m→RT (plF F) 74 (sn 52 B74) ((Dy (.g (l.map Qa)) (.func 60 [] [.q nb]) (.i 0) Ud (.i (l.length:Int)) (.i (i:Int)))) H .normal ((Dy (.g (l.map Qa)) (.func 60 [] [.q nb]) (.i 0) (.i (i:Int)) (.i (l.length:Int)) (.i ((i+1:Nat):Int)))) H:=fun m hm' hn' i hi=>by
  have ok:stB n (l.getD i (0,0,0))=true:=by have:=hn' i hi;cases c:stB n (l.getD i (0,0,0)) <;> simp_all
  obtain ⟨N,cN⟩:=CallsTo.from (SS h52 h60 hb hm hn (l.getD i (0,0,0)))
  rw [ok] at cN
  have s:=Qnq (F:=F) N (l.map Qa) nb H l.length i (l.getD i (0,0,0)).1 (l.getD i (0,0,0)).2.1 (l.getD i (0,0,0)).2.2 (by omega) (gs (by omega)) cN
  rw [Qi (by omega)] at s
  exact s
 have a:=Qnn (F:=F) 0 (l.map Qa) nb H
 have b:=Qno (F:=F) 0 (l.map Qa) nb H
 rw [qD] at b
 have hr:Try.f74.results.toList=[.tmp 4]:=by kernel_rfl
 rcases Yd (0,0,0) (fun s=>stB n s=false) l with ⟨m,h1,h2,h3⟩ | hno
 ·obtain ⟨N,cN⟩:=CallsTo.from (SS h52 h60 hb hm hn (l.getD m (0,0,0)))
  rw [h2] at cN
  have r:=Wk (pol':=plF F) (f:=74) (E:=fun i=>(Dy (.g (l.map Qa)) (.func 60 [] [.q nb]) (.i 0) Ud (.i (l.length:Int)) (.i (i:Int)))) (Hs:=fun _=>H) m (go m (by omega) h3) (fun i _=>by kernel_rfl) (fun i _=>QH _ rfl) (Qnp (F:=F) N (l.map Qa) nb H l.length m (l.getD m (0,0,0)).1 (l.getD m (0,0,0)).2.1 (l.getD m (0,0,0)).2.2 (by omega) (gs h1) cN) (by simp) (c:=sn 26 B74) (by kernel_rfl) (fun i _=>by kernel_rfl)
  have t:=sq (a) (sqo (sq (b) (RunsTo.block_ret (i:=0) (c:=sn 13 B74) (r) (by kernel_rfl)) (c:=sn 6 B74)) (c:=sn 3 B74) (b:=sn 7 B74)) (c:=B74)
  have h:=CallsTo.shared (P:=Tp) (pol:=plF F) (g:=74) (fn:=Try.f74) (cd:=B74) (args:=[.imm .arg 3 (l.map Qa),.func 60 [] [.ptr nb 0 0 1]]) (v:=.int .i64 (m:Int)) h74 (by kernel_rfl) (by kernel_rfl) (by kernel_rfl) t (by kernel_rfl) (by simp) (by simp only [Qd,hr];rfl)
  rw [QH _ rfl] at h
  refine ⟨_,h,⟨fun _ hall=>?_,fun _=>by omega⟩⟩
  have:=List.all_eq_true.1 hall _ (Qu (0,0,0) h1)
  rw [h2] at this;cases this
 ·have r:=Wk (pol':=plF F) (f:=74) (E:=fun i=>(Dy (.g (l.map Qa)) (.func 60 [] [.q nb]) (.i 0) Ud (.i (l.length:Int)) (.i (i:Int)))) (Hs:=fun _=>H) l.length (go l.length (qB _) fun i hi=>hno _ (Qu _ hi)) (fun i _=>by kernel_rfl) (fun i _=>QH _ rfl) (Qnr (F:=F) 0 (l.map Qa) nb H l.length l.length 0 0 0 (by omega)) (by simp) (c:=sn 26 B74) (by kernel_rfl) (fun i _=>by kernel_rfl)
  have z:=Qns (F:=F) 0 (l.map Qa) nb H (y7:=.i (l.length:Int)) (y8:=.i (l.length:Int))
  have t:=sq (a) (sq (sq (b) (bke (c:=sn 13 B74) (r)) (c:=sn 6 B74)) (z) (c:=sn 3 B74)) (c:=B74)
  have h:=CallsTo.shared (P:=Tp) (pol:=plF F) (g:=74) (fn:=Try.f74) (cd:=B74) (args:=[.imm .arg 3 (l.map Qa),.func 60 [] [.ptr nb 0 0 1]]) (v:=.int .i64 (-1)) h74 (by kernel_rfl) (by kernel_rfl) (by kernel_rfl) t (by kernel_rfl) (by simp) (by simp only [Qd,hr];rfl)
  rw [QH _ rfl] at h
  refine ⟨_,h,⟨fun h=>by omega,fun hall=>absurd (List.all_eq_true.2 fun s hs=>?_) hall⟩⟩
  have:=hno s hs
  cases c:stB n s <;> simp_all
theorem Qg5 (h52:F 52=some WZ) (h60:F 60=none) (h61:F 61=none) (h74:F 74=none) {H:Heap} {nb:Nat} {n:Int} (hb:H[nb]?=some (.arr 1 [.int .i64 n] true 0)) (hm:mxs H≤H.length) (hn:1≤n∧n≤16) {l:List St} (hl:l.length≤1000) :
  ClF F 61 [.imm .arg 3 (l.map Qa),.func 60 [] [.ptr nb 0 0 1]] H (.bool (!l.all (stB n))) H:=by
 obtain ⟨r,hc,hr⟩:=Qg4 h52 h60 h74 hb hm hn hl
 obtain ⟨N,cN⟩:=CallsTo.from hc
 have h61r:Try.f61.results.toList=[.tmp 4]:=by kernel_rfl
 by_cases c:0≤r
 ·have t:=Qnt (F:=F) N (l.map Qa) nb H cN c
  have h:=CallsTo.shared (P:=Tp) (pol:=plF F) (g:=61) (fn:=Try.f61) (cd:=B61) (args:=[.imm .arg 3 (l.map Qa),.func 60 [] [.ptr nb 0 0 1]]) (v:=.bool true) h61 (by kernel_rfl) (by kernel_rfl) (by kernel_rfl) t (by kernel_rfl) (by simp) (by simp only [Qd,h61r];rfl)
  rw [QH _ rfl] at h
  have:l.all (stB n)=false:=by have:=hr.1 c;cases d:l.all (stB n) <;> simp_all
  rw [this];exact h
 ·have t:=Qnu (F:=F) N (l.map Qa) nb H cN c
  have h:=CallsTo.shared (P:=Tp) (pol:=plF F) (g:=61) (fn:=Try.f61) (cd:=B61) (args:=[.imm .arg 3 (l.map Qa),.func 60 [] [.ptr nb 0 0 1]]) (v:=.bool false) h61 (by kernel_rfl) (by kernel_rfl) (by kernel_rfl) t (by kernel_rfl) (by simp) (by simp only [Qd,h61r];rfl)
  rw [QH _ rfl] at h
  have:l.all (stB n)=true:=by
   cases d:l.all (stB n) with
   | true=>rfl
   | false=>exact absurd (hr.2 (by simp [d])) c
  rw [this];exact h
structure NwF (F:FuncId→Option (List HV→Option HV)):Prop where
 h39:F 39=none
 h52:F 52=some WZ
 h60:F 60=none
 h61:F 61=none
 h74:F 74=none
theorem Ut (hF:NwF F) {H:Heap} (hm:mxs H≤H.length) (n:Int) {l:List St} (hl:l.length≤1000):ClF F 39 [.int .i64 n,.imm .arg 3 (l.map Qa)] H (.tuple [Qv n l,.bool (Ww n l)]) H:=by
 have hr:Try.f39.results.toList=[.cell 4 66,.tmp 5]:=by kernel_rfl
 have g0:∀(A B:Blk),(H++[A]++[B])[H.length]?=some A:=fun A B=>by rw [qG];exact QeK H A B
 have g1:∀(A B:Blk),(H++[A]++[B])[H.length+1]?=some B:=fun A B=>by rw [qG];exact QbR H A B
 have nv0:some (Q4 (.int .i64 n) H)=some (.ptr H.length 0 0 1,H++[.arr 1 [.int .i64 n] true 0]):=rfl
 have nv1:some (Q4 (.agg [.int .i64 0,.imm .lit 0 []]) (H++[.arr 1 [.int .i64 n] true 0]))=some (.ptr (H.length+1) 0 0 1,H++[.arr 1 [.int .i64 n] true 0]++[.arr 2 [.agg [.int .i64 0,.imm .lit 0 []]] true 0]):=by
  have:(H++[Blk.arr 1 [HV.int .i64 n] true 0]).length=H.length+1:=by simp
  rw [← this];rfl
 have l0:=ld1 (g0 (.arr 1 [.int .i64 n] true 0) (.arr 2 [.agg [.int .i64 0,.imm .lit 0 []]] true 0))
 have w0:=YD hF.h52 n 1 16 (H++[.arr 1 [.int .i64 n] true 0]++[.arr 2 [.agg [.int .i64 0,.imm .lit 0 []]] true 0])
 have st:Q3 Tp (H++[.arr 1 [.int .i64 n] true 0]++[.arr 2 [.agg [.int .i64 0,.imm .lit 0 []]] true 0]) 66 (.ptr (H.length+1) 0 0 1) (Qv n l)=some (H++[.arr 1 [.int .i64 n] true 0]++[bN n l]):=by
  have:=V6 (P:=Tp) (H:=H++[.arr 1 [.int .i64 n] true 0]++[.arr 2 [.agg [.int .i64 0,.imm .lit 0 []]] true 0]) (t:=66) (b:=H.length+1) (i:=0) (tot:=1) (k:=2) (mx:=0) (els:=[.agg [.int .i64 0,.imm .lit 0 []]]) (cs:=[.int .i64 0,.imm .lit 0 []]) (new:=[.int .i64 n,.imm .arg 3 (l.map Qa)]) (g1 _ _) rfl rfl z66 rfl (by simp) rfl (by simp [bndL,bnd])
  unfold Qv
  rw [this]
  congr 1
  rw [qL _ _ (by simp)]
  simp only [qC,qF,Nat.sub_self]
  rfl
 have hmx:mxs (H++[Blk.arr 1 [.int .i64 n] true 0]++[Blk.arr 2 [.agg [.int .i64 0,.imm .lit 0 []]] true 0])≤(H++[Blk.arr 1 [.int .i64 n] true 0]++[Blk.arr 2 [.agg [.int .i64 0,.imm .lit 0 []]] true 0]).length:=by
  rw [WI,WI,qC,qC];show max (max (mxs H) (max 0 0)) (max 0 0)≤_;omega
 have fin:∀(v:Bool) (E:Env),RT (plF F) 39 (sub [] B39) [(0,.int .i64 n),(1,.imm .arg 3 (l.map Qa))] H .ret E (H++[.arr 1 [.int .i64 n] true 0]++[bN n l])→E.get 4=.ptr (H.length+1) 0 0 1→E.get 5=.bool v→ClF F 39 [.int .i64 n,.imm .arg 3 (l.map Qa)] H (.tuple [Qv n l,.bool v]) H:=fun v E t he4 he5=>by
  have ld:QK Tp (H++[.arr 1 [.int .i64 n] true 0]++[bN n l]) 66 (.ptr (H.length+1) 0 0 1)=some (Qv n l):=Dh (P:=Tp) (b:=H.length+1) (els:=[Qv n l]) (cs:=[.int .i64 n,.imm .arg 3 (l.map Qa)]) (g1 _ _) rfl rfl a66 z66
  have h:=CallsTo.shared (P:=Tp) (pol:=plF F) (g:=39) (fn:=Try.f39) (cd:=B39) (args:=[.int .i64 n,.imm .arg 3 (l.map Qa)]) (v:=.tuple [Qv n l,.bool v]) hF.h39 (by kernel_rfl) (by kernel_rfl) (by kernel_rfl) t (by kernel_rfl) (by simp) (by simp only [Qd,hr,mapO,Wz,he4,he5,ld])
  rw [qG] at h
  rw [K5 (by rw [WI];show max (mxs H) (max 0 (max 0 0))≤_;omega) (by simp [bnd,bndL,Qv])] at h
  exact h
 by_cases k1:1≤n∧n≤16
 ·rw [decide_eq_true k1] at w0
  by_cases k2:l.length≤60
  ·have cf:=Qg5 hF.h52 hF.h60 hF.h61 hF.h74 (H:=H++[.arr 1 [.int .i64 n] true 0]++[.arr 2 [.agg [.int .i64 0,.imm .lit 0 []]] true 0]) (g0 _ _) hmx k1 hl
   obtain ⟨N,cN⟩:=CallsTo.from cf
   have e:Ww n l=l.all (stB n):=by rw [Ww,decide_eq_true ⟨k1,k2⟩,Bool.and_true]
   rw [e]
   cases d:l.all (stB n) with
   | true =>
    rw [d] at cN
    exact fin true _ (Qnw (F:=F) N n (l.map Qa) H nv0 nv1 l0 w0 (by rw [qD];omega) cN l0 st) rfl rfl
   | false =>
    rw [d] at cN
    exact fin false _ (Qnv (F:=F) N n (l.map Qa) H nv0 nv1 l0 w0 (by rw [qD];omega) cN l0 st) rfl rfl
  ·rw [show Ww n l=false by rw [Ww,decide_eq_false (fun h=>k2 h.2),Bool.and_false]]
   exact fin false _ (Qnx (F:=F) 0 n (l.map Qa) H nv0 nv1 l0 w0 (by rw [qD];omega) l0 st) rfl rfl
 ·rw [decide_eq_false k1] at w0
  rw [show Ww n l=false by rw [Ww,decide_eq_false (fun h=>k1 h.1),Bool.and_false]]
  exact fin false _ (Qny (F:=F) 0 n (l.map Qa) H nv0 nv1 l0 w0 l0 st) rfl rfl
end
end Go.Proofs.Ytiejmoglooaalaa
end
