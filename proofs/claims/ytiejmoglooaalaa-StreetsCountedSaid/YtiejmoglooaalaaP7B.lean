/- A part of the proof. -/
import Derived.Test.YtiejmoglooaalaaP7A
set_option linter.unusedVariables false
set_option linter.unusedSimpArgs false
set_option linter.unnecessarySimpa false
open Go.IntKind renaming i64 → qA
open Nat renaming le_refl → qB, lt_or_ge → qE
open List renaming length_map → qC, length_append → qD, getElem?_append_right → qF, getElem?_eq_none → qH, append_assoc → qI, set_append_right → qJ, take_of_length_le → qK, getElem?_append_left → qM, length_singleton → qN, getElem?_set_self → qO
open Int renaming toNat_natCast → qG, tdiv_eq_ediv_of_nonneg → qL
section
open Go Go.HL
namespace Go.Proofs.Ytiejmoglooaalaa
set_option maxRecDepth 100000
set_option linter.unusedSectionVars false
open Go.Proofs.Try renaming prog → Tp
open Go.HL.HV renaming undef → Ud
section
variable {xb:Nat}
noncomputable def QW:Code:=Try.f106.body.getD .skip
abbrev ZZ (v0 v1 v2 v3 v4 v10 v11 v12 v13:HV):Env:=[(0,v0),(1,v1),(2,v2),(3,v3),(4,v4),(10,v10),(11,v11),(12,v12),(13,v13)]
end
abbrev WL (db:Nat) (n:Nat) (cap:Option Nat) (a:Nat) (b:Nat) (p:Nat) (u4 u7 u8:HV):Env:=ZZ (.c db n cap) (.n a) (.n b) (.n p) u4 (.i 0) (.bool false) u7 u8
section
variable {xb:Nat}
variable (N:Nat) (db n:Nat) (cap:Option Nat) (H:Heap) (x:Nat) (a:Nat) (b:Nat) (p:Nat)
include N db n cap H x a b p
theorem Qla:RT polSo 106 (sn 2 QW) [(0,.c db n cap),(1,.n a),(2,.n b),(3,.n p),(4,.func 69 [] [.q xb])] H .normal (WL db n cap a b p (.func 69 [] [.q xb]) Ud Ud) H :=
 hx N 60 []
end
section
variable {xb:Nat}
variable (N:Nat) (db n:Nat) (cap:Option Nat) (H:Heap) (x:Nat) (a:Nat) (b:Nat) (p:Nat)
include N db n cap H x a b p
theorem Qlb {y12 y13:HV} {a0:HV} {v0:HV} {a1:HV} {v1:HV} {a2:HV} {H0:Heap} {a3:HV} {H1:Heap} (g0:IX 24 (.c db n cap) (.n p) (a0)) (g1:LD H 3 (a0) (v0)) (g2:IX 24 (.c db n cap) (.n a) (a1)) (g3:LD H 3 (a1) (v1)) (g4:IX 24 (.c db n cap) (.n a) (a2)) (g5:ST H 3 (a2) (v0) H0) (g6:IX 24 (.c db n cap) (.n p) (a3)) (g7:ST H0 3 (a3) (v1) H1): RT polSo 106 (sn 6 QW) (WL db n cap a b p (.func 69 [] [.q xb]) y12 y13) H .normal (WL db n cap a b p (.func 69 [] [.q xb]) y12 y13) H1 :=
 hx N 60 [jO 1 6 H g0,jO 1 7 H g1,jO 1 10 H g2,jO 1 11 H g3,jO 1 12 H g4,jS 1 13 g5,jO 1 14 H0 g6,jS 1 15 g7]
theorem Qlc {y12 y13:HV}: RT polSo 106 (sn 14 QW) (WL db n cap a b p (.func 69 [] [.q xb]) y12 y13) H .normal (WL db n cap a b p (.func 69 [] [.q xb]) (.i (qA.wrap ((a:Int)+1))) (.i (qA.wrap ((b:Int)-1)))) H :=
 hx N 60 []
theorem Qld (i:Nat) (j:Nat) {a0:HV} {v0:HV} {a1:HV} {v1:HV} {c0:Int} {H0:Heap} (g0:(i:Int)≤(j:Int)) (g1:IX 24 (.c db n cap) (.n i) (a0)) (g2:LD H 3 (a0) (v0)) (g3:IX 24 (.c db n cap) (.n a) (a1)) (g4:LD H 3 (a1) (v1)) (g5:∀kf,N≤kf→Qb Tp polSo (kf+1) 69 [v0,v1,.q xb] H=some (.i c0,H0)) (g6:c0<0): RT polSo 106 (sn 120 QW) (WL db n cap a b p (.func 69 [] [.q xb]) (.n i) (.n j)) H .normal (WL db n cap a b p (.func 69 [] [.q xb]) (.i (qA.wrap ((i:Int)+1))) (.n j)) H0 :=
 hx N 60 [jT 3 2 H g0,jO 3 7 H g1,jO 3 8 H g2,jO 3 11 H g3,jO 3 12 H g4,jC 3 13 g5,jT 3 14 H0 g6]
theorem Qle (i:Nat) (j:Nat) {a0:HV} {v0:HV} {a1:HV} {v1:HV} {c0:Int} {H0:Heap} (g0:(i:Int)≤(j:Int)) (g1:IX 24 (.c db n cap) (.n i) (a0)) (g2:LD H 3 (a0) (v0)) (g3:IX 24 (.c db n cap) (.n a) (a1)) (g4:LD H 3 (a1) (v1)) (g5:∀kf,N≤kf→Qb Tp polSo (kf+1) 69 [v0,v1,.q xb] H=some (.i c0,H0)) (g6:¬(c0<0)): RT polSo 106 (sn 120 QW) (WL db n cap a b p (.func 69 [] [.q xb]) (.n i) (.n j)) H (.exit 0) (WL db n cap a b p (.func 69 [] [.q xb]) (.n i) (.n j)) H0 :=
 hx N 60 [jT 3 2 H g0,jO 3 7 H g1,jO 3 8 H g2,jO 3 11 H g3,jO 3 12 H g4,jC 3 13 g5,jF 3 14 H0 g6]
theorem Qeb (i:Nat) (j:Nat) (g0:¬((i:Int)≤(j:Int))): RT polSo 106 (sn 120 QW) (WL db n cap a b p (.func 69 [] [.q xb]) (.n i) (.n j)) H (.exit 0) (WL db n cap a b p (.func 69 [] [.q xb]) (.n i) (.n j)) H :=
 hx N 60 [jF 3 2 H g0]
theorem Qlf (i:Nat) (j:Nat) {a0:HV} {v0:HV} {a1:HV} {v1:HV} {c0:Int} {H0:Heap} (g0:(i:Int)≤(j:Int)) (g1:IX 24 (.c db n cap) (.n j) (a0)) (g2:LD H 3 (a0) (v0)) (g3:IX 24 (.c db n cap) (.n a) (a1)) (g4:LD H 3 (a1) (v1)) (g5:∀kf,N≤kf→Qb Tp polSo (kf+1) 69 [v0,v1,.q xb] H=some (.i c0,H0)) (g6:c0<0): RT polSo 106 (sn 248 QW) (WL db n cap a b p (.func 69 [] [.q xb]) (.n i) (.n j)) H (.exit 2) (WL db n cap a b p (.func 69 [] [.q xb]) (.n i) (.n j)) H0 :=
 hx N 60 [jT 5 2 H g0,jO 5 7 H g1,jO 5 8 H g2,jO 5 11 H g3,jO 5 12 H g4,jC 5 13 g5,jT 5 14 H0 g6]
theorem Qlg (i:Nat) (j:Nat) {a0:HV} {v0:HV} {a1:HV} {v1:HV} {c0:Int} {H0:Heap} (g0:(i:Int)≤(j:Int)) (g1:IX 24 (.c db n cap) (.n j) (a0)) (g2:LD H 3 (a0) (v0)) (g3:IX 24 (.c db n cap) (.n a) (a1)) (g4:LD H 3 (a1) (v1)) (g5:∀kf,N≤kf→Qb Tp polSo (kf+1) 69 [v0,v1,.q xb] H=some (.i c0,H0)) (g6:¬(c0<0)): RT polSo 106 (sn 248 QW) (WL db n cap a b p (.func 69 [] [.q xb]) (.n i) (.n j)) H .normal (WL db n cap a b p (.func 69 [] [.q xb]) (.n i) (.i (qA.wrap ((j:Int)-1)))) H0 :=
 hx N 60 [jT 5 2 H g0,jO 5 7 H g1,jO 5 8 H g2,jO 5 11 H g3,jO 5 12 H g4,jC 5 13 g5,jF 5 14 H0 g6]
theorem Qec (i:Nat) (j:Nat) (g0:¬((i:Int)≤(j:Int))): RT polSo 106 (sn 248 QW) (WL db n cap a b p (.func 69 [] [.q xb]) (.n i) (.n j)) H (.exit 2) (WL db n cap a b p (.func 69 [] [.q xb]) (.n i) (.n j)) H :=
 hx N 60 [jF 5 2 H g0]
theorem Qlh (i:Nat) (j:Nat) {a0:HV} {v0:HV} {a1:HV} {v1:HV} {a2:HV} {H0:Heap} {a3:HV} {H1:Heap} (g0:(j:Int)<(i:Int)) (g1:IX 24 (.c db n cap) (.n a) (a0)) (g2:LD H 3 (a0) (v0)) (g3:IX 24 (.c db n cap) (.n j) (a1)) (g4:LD H 3 (a1) (v1)) (g5:IX 24 (.c db n cap) (.n j) (a2)) (g6:ST H 3 (a2) (v0) H0) (g7:IX 24 (.c db n cap) (.n a) (a3)) (g8:ST H0 3 (a3) (v1) H1): RT polSo 106 (sn 126 QW) (WL db n cap a b p (.func 69 [] [.q xb]) (.n i) (.n j)) H .ret (ZZ (.c db n cap) (.n a) (.n b) (.n p) (.func 69 [] [.q xb]) (.n j) (.bool true) (.n i) (.n j)) H1 :=
 hx N 60 [jT 7 2 H g0,jO 8 6 H g1,jO 8 7 H g2,jO 8 10 H g3,jO 8 11 H g4,jO 8 12 H g5,jS 8 13 g6,jO 8 14 H0 g7,jS 8 15 g8]
theorem Qli (i:Nat) (j:Nat) (g0:¬((j:Int)<(i:Int))): RT polSo 106 (sn 126 QW) (WL db n cap a b p (.func 69 [] [.q xb]) (.n i) (.n j)) H .normal (WL db n cap a b p (.func 69 [] [.q xb]) (.n i) (.n j)) H :=
 hx N 60 [jF 7 2 H g0]
theorem Qlj (i:Nat) (j:Nat) {a0:HV} {v0:HV} {a1:HV} {v1:HV} {a2:HV} {H0:Heap} {a3:HV} {H1:Heap} (g0:IX 24 (.c db n cap) (.n j) (a0)) (g1:LD H 3 (a0) (v0)) (g2:IX 24 (.c db n cap) (.n i) (a1)) (g3:LD H 3 (a1) (v1)) (g4:IX 24 (.c db n cap) (.n i) (a2)) (g5:ST H 3 (a2) (v0) H0) (g6:IX 24 (.c db n cap) (.n j) (a3)) (g7:ST H0 3 (a3) (v1) H1): RT polSo 106 (sn 254 QW) (WL db n cap a b p (.func 69 [] [.q xb]) (.n i) (.n j)) H .normal (WL db n cap a b p (.func 69 [] [.q xb]) (.n i) (.n j)) H1 :=
 hx N 60 [jO 10 6 H g0,jO 10 7 H g1,jO 10 10 H g2,jO 10 11 H g3,jO 10 12 H g4,jS 10 13 g5,jO 10 14 H0 g6,jS 10 15 g7]
theorem Qlk (i:Nat) (j:Nat): RT polSo 106 (sn 510 QW) (WL db n cap a b p (.func 69 [] [.q xb]) (.n i) (.n j)) H .normal (WL db n cap a b p (.func 69 [] [.q xb]) (.i (qA.wrap ((i:Int)+1))) (.n j)) H :=
 hx N 60 []
theorem Qll (i:Nat) (j:Nat): RT polSo 106 (sn 1022 QW) (WL db n cap a b p (.func 69 [] [.q xb]) (.n i) (.n j)) H .normal (WL db n cap a b p (.func 69 [] [.q xb]) (.n i) (.i (qA.wrap ((j:Int)-1)))) H :=
 hx N 60 []
theorem Qlm (i:Nat) (j:Nat) {a0:HV} {v0:HV} {a1:HV} {v1:HV} {c0:Int} {H0:Heap} (g0:(i:Int)≤(j:Int)) (g1:IX 24 (.c db n cap) (.n i) (a0)) (g2:LD H 3 (a0) (v0)) (g3:IX 24 (.c db n cap) (.n a) (a1)) (g4:LD H 3 (a1) (v1)) (g5:∀kf,N≤kf→Qb Tp polSo (kf+1) 69 [v0,v1,.q xb] H=some (.i c0,H0)) (g6:c0<0): RT polSo 106 (sn 130944 QW) (WL db n cap a b p (.func 69 [] [.q xb]) (.n i) (.n j)) H .normal (WL db n cap a b p (.func 69 [] [.q xb]) (.i (qA.wrap ((i:Int)+1))) (.n j)) H0 :=
 hx N 60 [jT 13 2 H g0,jO 13 7 H g1,jO 13 8 H g2,jO 13 11 H g3,jO 13 12 H g4,jC 13 13 g5,jT 13 14 H0 g6]
theorem Qln (i:Nat) (j:Nat) {a0:HV} {v0:HV} {a1:HV} {v1:HV} {c0:Int} {H0:Heap} (g0:(i:Int)≤(j:Int)) (g1:IX 24 (.c db n cap) (.n i) (a0)) (g2:LD H 3 (a0) (v0)) (g3:IX 24 (.c db n cap) (.n a) (a1)) (g4:LD H 3 (a1) (v1)) (g5:∀kf,N≤kf→Qb Tp polSo (kf+1) 69 [v0,v1,.q xb] H=some (.i c0,H0)) (g6:¬(c0<0)): RT polSo 106 (sn 130944 QW) (WL db n cap a b p (.func 69 [] [.q xb]) (.n i) (.n j)) H (.exit 6) (WL db n cap a b p (.func 69 [] [.q xb]) (.n i) (.n j)) H0 :=
 hx N 60 [jT 13 2 H g0,jO 13 7 H g1,jO 13 8 H g2,jO 13 11 H g3,jO 13 12 H g4,jC 13 13 g5,jF 13 14 H0 g6]
theorem Qed (i:Nat) (j:Nat) (g0:¬((i:Int)≤(j:Int))): RT polSo 106 (sn 130944 QW) (WL db n cap a b p (.func 69 [] [.q xb]) (.n i) (.n j)) H (.exit 6) (WL db n cap a b p (.func 69 [] [.q xb]) (.n i) (.n j)) H :=
 hx N 60 [jF 13 2 H g0]
theorem Qlo (i:Nat) (j:Nat) {a0:HV} {v0:HV} {a1:HV} {v1:HV} {c0:Int} {H0:Heap} (g0:(i:Int)≤(j:Int)) (g1:IX 24 (.c db n cap) (.n j) (a0)) (g2:LD H 3 (a0) (v0)) (g3:IX 24 (.c db n cap) (.n a) (a1)) (g4:LD H 3 (a1) (v1)) (g5:∀kf,N≤kf→Qb Tp polSo (kf+1) 69 [v0,v1,.q xb] H=some (.i c0,H0)) (g6:c0<0): RT polSo 106 (sn 261896 QW) (WL db n cap a b p (.func 69 [] [.q xb]) (.n i) (.n j)) H (.exit 8) (WL db n cap a b p (.func 69 [] [.q xb]) (.n i) (.n j)) H0 :=
 hx N 60 [jT 15 2 H g0,jO 15 7 H g1,jO 15 8 H g2,jO 15 11 H g3,jO 15 12 H g4,jC 15 13 g5,jT 15 14 H0 g6]
theorem Qlp (i:Nat) (j:Nat) {a0:HV} {v0:HV} {a1:HV} {v1:HV} {c0:Int} {H0:Heap} (g0:(i:Int)≤(j:Int)) (g1:IX 24 (.c db n cap) (.n j) (a0)) (g2:LD H 3 (a0) (v0)) (g3:IX 24 (.c db n cap) (.n a) (a1)) (g4:LD H 3 (a1) (v1)) (g5:∀kf,N≤kf→Qb Tp polSo (kf+1) 69 [v0,v1,.q xb] H=some (.i c0,H0)) (g6:¬(c0<0)): RT polSo 106 (sn 261896 QW) (WL db n cap a b p (.func 69 [] [.q xb]) (.n i) (.n j)) H .normal (WL db n cap a b p (.func 69 [] [.q xb]) (.n i) (.i (qA.wrap ((j:Int)-1)))) H0 :=
 hx N 60 [jT 15 2 H g0,jO 15 7 H g1,jO 15 8 H g2,jO 15 11 H g3,jO 15 12 H g4,jC 15 13 g5,jF 15 14 H0 g6]
theorem Qee (i:Nat) (j:Nat) (g0:¬((i:Int)≤(j:Int))): RT polSo 106 (sn 261896 QW) (WL db n cap a b p (.func 69 [] [.q xb]) (.n i) (.n j)) H (.exit 8) (WL db n cap a b p (.func 69 [] [.q xb]) (.n i) (.n j)) H :=
 hx N 60 [jF 15 2 H g0]
theorem Qef (i:Nat) (j:Nat) (g0:(j:Int)<(i:Int)): RT polSo 106 (sn 65475 QW) (WL db n cap a b p (.func 69 [] [.q xb]) (.n i) (.n j)) H (.exit 4) (WL db n cap a b p (.func 69 [] [.q xb]) (.n i) (.n j)) H :=
 hx N 60 [jT 17 2 H g0]
theorem Qlq (i:Nat) (j:Nat) {a0:HV} {v0:HV} {a1:HV} {v1:HV} {a2:HV} {H0:Heap} {a3:HV} {H1:Heap} (g0:¬((j:Int)<(i:Int))) (g1:IX 24 (.c db n cap) (.n j) (a0)) (g2:LD H 3 (a0) (v0)) (g3:IX 24 (.c db n cap) (.n i) (a1)) (g4:LD H 3 (a1) (v1)) (g5:IX 24 (.c db n cap) (.n i) (a2)) (g6:ST H 3 (a2) (v0) H0) (g7:IX 24 (.c db n cap) (.n j) (a3)) (g8:ST H0 3 (a3) (v1) H1): RT polSo 106 (sn 65475 QW) (WL db n cap a b p (.func 69 [] [.q xb]) (.n i) (.n j)) H .normal (WL db n cap a b p (.func 69 [] [.q xb]) (.i (qA.wrap ((i:Int)+1))) (.i (qA.wrap ((j:Int)-1)))) H1 :=
 hx N 60 [jF 17 2 H g0,jO 18 6 H g1,jO 18 7 H g2,jO 18 10 H g3,jO 18 11 H g4,jO 18 12 H g5,jS 18 13 g6,jO 18 14 H0 g7,jS 18 15 g8]
theorem Qlr (i:Nat) (j:Nat) {a0:HV} {v0:HV} {a1:HV} {v1:HV} {a2:HV} {H0:Heap} {a3:HV} {H1:Heap} (g0:IX 24 (.c db n cap) (.n a) (a0)) (g1:LD H 3 (a0) (v0)) (g2:IX 24 (.c db n cap) (.n j) (a1)) (g3:LD H 3 (a1) (v1)) (g4:IX 24 (.c db n cap) (.n j) (a2)) (g5:ST H 3 (a2) (v0) H0) (g6:IX 24 (.c db n cap) (.n a) (a3)) (g7:ST H0 3 (a3) (v1) H1): RT polSo 106 (sn 2047 QW) (WL db n cap a b p (.func 69 [] [.q xb]) (.n i) (.n j)) H .ret (ZZ (.c db n cap) (.n a) (.n b) (.n p) (.func 69 [] [.q xb]) (.n j) (.bool false) (.n i) (.n j)) H1 :=
 hx N 60 [jO 21 6 H g0,jO 21 7 H g1,jO 21 10 H g2,jO 21 11 H g3,jO 21 12 H g4,jS 21 13 g5,jO 21 14 H0 g6,jS 21 15 g7]
end
section
variable {xb:Nat}
noncomputable def W9:Code:=Try.f105.body.getD .skip
abbrev Vr (v0 v1 v2 v3 v4 v10 v11 v12:HV):Env:=[(0,v0),(1,v1),(2,v2),(3,v3),(4,v4),(10,v10),(11,v11),(12,v12)]
end
abbrev JV (db:Nat) (n:Nat) (cap:Option Nat) (a:Nat) (b:Nat) (p:Nat) (u4 u6 u7:HV):Env:=Vr (.c db n cap) (.n a) (.n b) (.n p) u4 (.i 0) u6 u7
section
variable {xb:Nat}
variable (N:Nat) (db n:Nat) (cap:Option Nat) (H:Heap) (x:Nat) (a:Nat) (b:Nat) (p:Nat)
include N db n cap H x a b p
theorem Qls:RT polSo 105 (sn 2 W9) [(0,.c db n cap),(1,.n a),(2,.n b),(3,.n p),(4,.func 69 [] [.q xb])] H .normal (JV db n cap a b p (.func 69 [] [.q xb]) Ud Ud) H :=
 hx N 60 []
end
section
variable {xb:Nat}
variable (N:Nat) (db n:Nat) (cap:Option Nat) (H:Heap) (x:Nat) (a:Nat) (b:Nat) (p:Nat)
include N db n cap H x a b p
theorem Qlt {y11 y12:HV} {a0:HV} {v0:HV} {a1:HV} {v1:HV} {a2:HV} {H0:Heap} {a3:HV} {H1:Heap} (g0:IX 24 (.c db n cap) (.n p) (a0)) (g1:LD H 3 (a0) (v0)) (g2:IX 24 (.c db n cap) (.n a) (a1)) (g3:LD H 3 (a1) (v1)) (g4:IX 24 (.c db n cap) (.n a) (a2)) (g5:ST H 3 (a2) (v0) H0) (g6:IX 24 (.c db n cap) (.n p) (a3)) (g7:ST H0 3 (a3) (v1) H1): RT polSo 105 (sn 6 W9) (JV db n cap a b p (.func 69 [] [.q xb]) y11 y12) H .normal (JV db n cap a b p (.func 69 [] [.q xb]) y11 y12) H1 :=
 hx N 60 [jO 1 6 H g0,jO 1 7 H g1,jO 1 10 H g2,jO 1 11 H g3,jO 1 12 H g4,jS 1 13 g5,jO 1 14 H0 g6,jS 1 15 g7]
theorem Qlu {y11 y12:HV}: RT polSo 105 (sn 14 W9) (JV db n cap a b p (.func 69 [] [.q xb]) y11 y12) H .normal (JV db n cap a b p (.func 69 [] [.q xb]) (.i (qA.wrap ((a:Int)+1))) (.i (qA.wrap ((b:Int)-1)))) H :=
 hx N 60 []
theorem Qlv (i:Nat) (j:Nat) {a0:HV} {v0:HV} {a1:HV} {v1:HV} {c0:Int} {H0:Heap} (g0:(i:Int)≤(j:Int)) (g1:IX 24 (.c db n cap) (.n a) (a0)) (g2:LD H 3 (a0) (v0)) (g3:IX 24 (.c db n cap) (.n i) (a1)) (g4:LD H 3 (a1) (v1)) (g5:∀kf,N≤kf→Qb Tp polSo (kf+1) 69 [v0,v1,.q xb] H=some (.i c0,H0)) (g6:c0<0): RT polSo 105 (sn 1920 W9) (JV db n cap a b p (.func 69 [] [.q xb]) (.n i) (.n j)) H (.exit 2) (JV db n cap a b p (.func 69 [] [.q xb]) (.n i) (.n j)) H0 :=
 hx N 60 [jT 3 2 H g0,jO 3 7 H g1,jO 3 8 H g2,jO 3 11 H g3,jO 3 12 H g4,jC 3 13 g5,jT 3 14 H0 g6]
theorem Qlw (i:Nat) (j:Nat) {a0:HV} {v0:HV} {a1:HV} {v1:HV} {c0:Int} {H0:Heap} (g0:(i:Int)≤(j:Int)) (g1:IX 24 (.c db n cap) (.n a) (a0)) (g2:LD H 3 (a0) (v0)) (g3:IX 24 (.c db n cap) (.n i) (a1)) (g4:LD H 3 (a1) (v1)) (g5:∀kf,N≤kf→Qb Tp polSo (kf+1) 69 [v0,v1,.q xb] H=some (.i c0,H0)) (g6:¬(c0<0)): RT polSo 105 (sn 1920 W9) (JV db n cap a b p (.func 69 [] [.q xb]) (.n i) (.n j)) H .normal (JV db n cap a b p (.func 69 [] [.q xb]) (.i (qA.wrap ((i:Int)+1))) (.n j)) H0 :=
 hx N 60 [jT 3 2 H g0,jO 3 7 H g1,jO 3 8 H g2,jO 3 11 H g3,jO 3 12 H g4,jC 3 13 g5,jF 3 14 H0 g6]
theorem Qeg (i:Nat) (j:Nat) (g0:¬((i:Int)≤(j:Int))): RT polSo 105 (sn 1920 W9) (JV db n cap a b p (.func 69 [] [.q xb]) (.n i) (.n j)) H (.exit 2) (JV db n cap a b p (.func 69 [] [.q xb]) (.n i) (.n j)) H :=
 hx N 60 [jF 3 2 H g0]
theorem Qlx (i:Nat) (j:Nat) {a0:HV} {v0:HV} {a1:HV} {v1:HV} {c0:Int} {H0:Heap} (g0:(i:Int)≤(j:Int)) (g1:IX 24 (.c db n cap) (.n a) (a0)) (g2:LD H 3 (a0) (v0)) (g3:IX 24 (.c db n cap) (.n j) (a1)) (g4:LD H 3 (a1) (v1)) (g5:∀kf,N≤kf→Qb Tp polSo (kf+1) 69 [v0,v1,.q xb] H=some (.i c0,H0)) (g6:c0<0): RT polSo 105 (sn 3848 W9) (JV db n cap a b p (.func 69 [] [.q xb]) (.n i) (.n j)) H .normal (JV db n cap a b p (.func 69 [] [.q xb]) (.n i) (.i (qA.wrap ((j:Int)-1)))) H0 :=
 hx N 60 [jT 5 2 H g0,jO 5 7 H g1,jO 5 8 H g2,jO 5 11 H g3,jO 5 12 H g4,jC 5 13 g5,jT 5 14 H0 g6]
theorem Qly (i:Nat) (j:Nat) {a0:HV} {v0:HV} {a1:HV} {v1:HV} {c0:Int} {H0:Heap} (g0:(i:Int)≤(j:Int)) (g1:IX 24 (.c db n cap) (.n a) (a0)) (g2:LD H 3 (a0) (v0)) (g3:IX 24 (.c db n cap) (.n j) (a1)) (g4:LD H 3 (a1) (v1)) (g5:∀kf,N≤kf→Qb Tp polSo (kf+1) 69 [v0,v1,.q xb] H=some (.i c0,H0)) (g6:¬(c0<0)): RT polSo 105 (sn 3848 W9) (JV db n cap a b p (.func 69 [] [.q xb]) (.n i) (.n j)) H (.exit 4) (JV db n cap a b p (.func 69 [] [.q xb]) (.n i) (.n j)) H0 :=
 hx N 60 [jT 5 2 H g0,jO 5 7 H g1,jO 5 8 H g2,jO 5 11 H g3,jO 5 12 H g4,jC 5 13 g5,jF 5 14 H0 g6]
theorem Qeh (i:Nat) (j:Nat) (g0:¬((i:Int)≤(j:Int))): RT polSo 105 (sn 3848 W9) (JV db n cap a b p (.func 69 [] [.q xb]) (.n i) (.n j)) H (.exit 4) (JV db n cap a b p (.func 69 [] [.q xb]) (.n i) (.n j)) H :=
 hx N 60 [jF 5 2 H g0]
theorem Qei (i:Nat) (j:Nat) (g0:(j:Int)<(i:Int)): RT polSo 105 (sn 963 W9) (JV db n cap a b p (.func 69 [] [.q xb]) (.n i) (.n j)) H (.exit 0) (JV db n cap a b p (.func 69 [] [.q xb]) (.n i) (.n j)) H :=
 hx N 60 [jT 7 2 H g0]
theorem Qlz (i:Nat) (j:Nat) {a0:HV} {v0:HV} {a1:HV} {v1:HV} {a2:HV} {H0:Heap} {a3:HV} {H1:Heap} (g0:¬((j:Int)<(i:Int))) (g1:IX 24 (.c db n cap) (.n j) (a0)) (g2:LD H 3 (a0) (v0)) (g3:IX 24 (.c db n cap) (.n i) (a1)) (g4:LD H 3 (a1) (v1)) (g5:IX 24 (.c db n cap) (.n i) (a2)) (g6:ST H 3 (a2) (v0) H0) (g7:IX 24 (.c db n cap) (.n j) (a3)) (g8:ST H0 3 (a3) (v1) H1): RT polSo 105 (sn 963 W9) (JV db n cap a b p (.func 69 [] [.q xb]) (.n i) (.n j)) H .normal (JV db n cap a b p (.func 69 [] [.q xb]) (.i (qA.wrap ((i:Int)+1))) (.i (qA.wrap ((j:Int)-1)))) H1 :=
 hx N 60 [jF 7 2 H g0,jO 8 6 H g1,jO 8 7 H g2,jO 8 10 H g3,jO 8 11 H g4,jO 8 12 H g5,jS 8 13 g6,jO 8 14 H0 g7,jS 8 15 g8]
theorem QlA (i:Nat) (j:Nat): RT polSo 105 (sn 31 W9) (JV db n cap a b p (.func 69 [] [.q xb]) (.n i) (.n j)) H .ret (Vr (.c db n cap) (.n a) (.n b) (.n p) (.func 69 [] [.q xb]) (.n i) (.n i) (.n j)) H :=
 hx N 60 []
end
section
variable {xb:Nat}
noncomputable def QC:Code:=Try.f104.body.getD .skip
abbrev Wq (v0 v1 v2 v3 v8 v9 v10 v11 v12:HV):Env:=[(0,v0),(1,v1),(2,v2),(3,v3),(8,v8),(9,v9),(10,v10),(11,v11),(12,v12)]
end
abbrev WV (db:Nat) (n:Nat) (cap:Option Nat) (a:Nat) (b:Nat) (i:Nat) (k:Nat) (u3 u7 u8:HV):Env:=Wq (.c db n cap) (.n a) (.n b) u3 (.bool false) (.n i) (.n k) u7 u8
section
variable {xb:Nat}
variable (N:Nat) (db n:Nat) (cap:Option Nat) (H:Heap) (x:Nat) (a:Nat) (b:Nat)
include N db n cap H x a b
theorem QlB:RT polSo 104 (sn 2 QC) [(0,.c db n cap),(1,.n a),(2,.n b),(3,.func 69 [] [.q xb])] H .normal (Wq (.c db n cap) (.n a) (.n b) (.func 69 [] [.q xb]) (.bool false) Ud Ud Ud Ud) H :=
 hx N 60 []
end
section
variable {xb:Nat}
variable (N:Nat) (db n:Nat) (cap:Option Nat) (H:Heap) (x:Nat) (a:Nat) (b:Nat)
include N db n cap H x a b
theorem QlC {y9 y10 y11 y12:HV}: RT polSo 104 (sn 6 QC) (Wq (.c db n cap) (.n a) (.n b) (.func 69 [] [.q xb]) (.bool false) y9 y10 y11 y12) H .normal (Wq (.c db n cap) (.n a) (.n b) (.func 69 [] [.q xb]) (.bool false) (.i (qA.wrap ((a:Int)+1))) y10 y11 y12) H :=
 hx N 60 []
theorem QlD (i:Nat) {y10 y11 y12:HV}: RT polSo 104 (sn 28 QC) (Wq (.c db n cap) (.n a) (.n b) (.func 69 [] [.q xb]) (.bool false) (.n i) y10 y11 y12) H .normal (Wq (.c db n cap) (.n a) (.n b) (.func 69 [] [.q xb]) (.bool false) (.n i) (.i 0) y11 y12) H :=
 hx N 60 []
theorem QlE (i:Nat) (k:Nat) {y11 y12:HV} (g0:(k:Int)<5): RT polSo 104 (sn 232 QC) (WV db n cap a b i k (.func 69 [] [.q xb]) y11 y12) H .normal (WV db n cap a b i k (.func 69 [] [.q xb]) y11 y12) H :=
 hx N 60 [jT 3 1 H g0]
theorem QlF (i:Nat) (k:Nat) {y11 y12:HV} (g0:¬((k:Int)<5)): RT polSo 104 (sn 232 QC) (WV db n cap a b i k (.func 69 [] [.q xb]) y11 y12) H (.exit 0) (WV db n cap a b i k (.func 69 [] [.q xb]) y11 y12) H :=
 hx N 60 [jF 3 1 H g0]
theorem QlG (i:Nat) (k:Nat) {y11 y12:HV} {a0:HV} {v0:HV} {a1:HV} {v1:HV} {c0:Int} {H0:Heap} (g0:(i:Int)<(b:Int)) (g1:IX 24 (.c db n cap) (.n i) (a0)) (g2:LD H 3 (a0) (v0)) (g3:IX 24 (.c db n cap) (.i (qA.wrap ((i:Int)-1))) (a1)) (g4:LD H 3 (a1) (v1)) (g5:∀kf,N≤kf→Qb Tp polSo (kf+1) 69 [v0,v1,.q xb] H=some (.i c0,H0)) (g6:c0<0): RT polSo 104 (sn 7456 QC) (WV db n cap a b i k (.func 69 [] [.q xb]) y11 y12) H (.exit 2) (WV db n cap a b i k (.func 69 [] [.q xb]) y11 y12) H0 :=
 hx N 60 [jT 5 2 H g0,jO 5 7 H g1,jO 5 8 H g2,jO 5 12 H g3,jO 5 13 H g4,jC 5 14 g5,jT 5 15 H0 g6]
theorem QlH (i:Nat) (k:Nat) {y11 y12:HV} {a0:HV} {v0:HV} {a1:HV} {v1:HV} {c0:Int} {H0:Heap} (g0:(i:Int)<(b:Int)) (g1:IX 24 (.c db n cap) (.n i) (a0)) (g2:LD H 3 (a0) (v0)) (g3:IX 24 (.c db n cap) (.i (qA.wrap ((i:Int)-1))) (a1)) (g4:LD H 3 (a1) (v1)) (g5:∀kf,N≤kf→Qb Tp polSo (kf+1) 69 [v0,v1,.q xb] H=some (.i c0,H0)) (g6:¬(c0<0)): RT polSo 104 (sn 7456 QC) (WV db n cap a b i k (.func 69 [] [.q xb]) y11 y12) H .normal (Wq (.c db n cap) (.n a) (.n b) (.func 69 [] [.q xb]) (.bool false) (.i (qA.wrap ((i:Int)+1))) (.n k) y11 y12) H0 :=
 hx N 60 [jT 5 2 H g0,jO 5 7 H g1,jO 5 8 H g2,jO 5 12 H g3,jO 5 13 H g4,jC 5 14 g5,jF 5 15 H0 g6]
theorem Qej (i:Nat) (k:Nat) {y11 y12:HV} (g0:¬((i:Int)<(b:Int))): RT polSo 104 (sn 7456 QC) (WV db n cap a b i k (.func 69 [] [.q xb]) y11 y12) H (.exit 2) (WV db n cap a b i k (.func 69 [] [.q xb]) y11 y12) H :=
 hx N 60 [jF 5 2 H g0]
theorem QlI (i:Nat) (k:Nat) {y11 y12:HV} (g0:(i:Int)=(b:Int)): RT polSo 104 (sn 3730 QC) (WV db n cap a b i k (.func 69 [] [.q xb]) y11 y12) H .ret (Wq (.c db n cap) (.n a) (.n b) (.func 69 [] [.q xb]) (.bool true) (.n i) (.n k) y11 y12) H :=
 hx N 60 [jT 7 2 H g0]
theorem QlJ (i:Nat) (k:Nat) {y11 y12:HV} (g0:¬((i:Int)=(b:Int))): RT polSo 104 (sn 3730 QC) (WV db n cap a b i k (.func 69 [] [.q xb]) y11 y12) H .normal (WV db n cap a b i k (.func 69 [] [.q xb]) y11 y12) H :=
 hx N 60 [jF 7 2 H g0]
theorem QlK (i:Nat) (k:Nat) {y11 y12:HV} (g0:qA.wrap ((b:Int)-(a:Int))<50): RT polSo 104 (sn 7462 QC) (WV db n cap a b i k (.func 69 [] [.q xb]) y11 y12) H .ret (WV db n cap a b i k (.func 69 [] [.q xb]) y11 y12) H :=
 hx N 60 [jT 9 3 H g0]
theorem QlL (i:Nat) (k:Nat) {y11 y12:HV} (g0:¬(qA.wrap ((b:Int)-(a:Int))<50)): RT polSo 104 (sn 7462 QC) (WV db n cap a b i k (.func 69 [] [.q xb]) y11 y12) H .normal (WV db n cap a b i k (.func 69 [] [.q xb]) y11 y12) H :=
 hx N 60 [jF 9 3 H g0]
theorem QlM (i:Nat) (k:Nat) {y11 y12:HV} {a0:HV} {v0:HV} {a1:HV} {v1:HV} {a2:HV} {H0:Heap} {a3:HV} {H1:Heap} (g0:IX 24 (.c db n cap) (.i (qA.wrap ((i:Int)-1))) (a0)) (g1:LD H 3 (a0) (v0)) (g2:IX 24 (.c db n cap) (.n i) (a1)) (g3:LD H 3 (a1) (v1)) (g4:IX 24 (.c db n cap) (.n i) (a2)) (g5:ST H 3 (a2) (v0) H0) (g6:IX 24 (.c db n cap) (.i (qA.wrap ((i:Int)-1))) (a3)) (g7:ST H0 3 (a3) (v1) H1): RT polSo 104 (sn 14926 QC) (WV db n cap a b i k (.func 69 [] [.q xb]) y11 y12) H .normal (WV db n cap a b i k (.func 69 [] [.q xb]) y11 y12) H1 :=
 hx N 60 [jO 11 8 H g0,jO 11 9 H g1,jO 11 12 H g2,jO 11 13 H g3,jO 11 14 H g4,jS 11 15 g5,jO 11 16 H0 g6,jS 11 17 g7]
theorem QlN (i:Nat) (k:Nat) {y11 y12:HV} (g0:2≤qA.wrap ((i:Int)-(a:Int))): RunsTo Tp polSo 104 (sn 59708 QC) (WV db n cap a b i k (.func 69 [] [.q xb]) y11 y12) H .normal [0,1,2,3,8,9,10,11,12,65] [(0,.c db n cap),(1,.n a),(2,.n b),(3,.func 69 [] [.q xb]),(8,.bool false),(9,.n i),(10,.n k),(11,y11),(12,y12),(65,.bool true)] H :=
 hx N 60 [jT 12 3 H g0]
theorem QlO (i:Nat) (k:Nat) {y11 y12:HV} (g0:¬(2≤qA.wrap ((i:Int)-(a:Int)))): RunsTo Tp polSo 104 (sn 59708 QC) (WV db n cap a b i k (.func 69 [] [.q xb]) y11 y12) H .normal [0,1,2,3,8,9,10,11,12,65] [(0,.c db n cap),(1,.n a),(2,.n b),(3,.func 69 [] [.q xb]),(8,.bool false),(9,.n i),(10,.n k),(11,y11),(12,y12),(65,.bool false)] H :=
 hx N 60 [jF 12 3 H g0]
theorem QlP (i:Nat) (k:Nat) {y11 y12:HV}: RT polSo 104 (sn 238836 QC) (WV db n cap a b i k (.func 69 [] [.q xb]) y11 y12) H .normal (WV db n cap a b i k (.func 69 [] [.q xb]) (.i (qA.wrap ((i:Int)-1))) y12) H :=
 hx N 60 []
theorem QlQ (i:Nat) (k:Nat) (j:Nat) {y12:HV} {a0:HV} {v0:HV} {a1:HV} {v1:HV} {c0:Int} {H0:Heap} {a2:HV} {v2:HV} {a3:HV} {v3:HV} {a4:HV} {H1:Heap} {a5:HV} {H2:Heap} (g0:1≤(j:Int)) (g1:IX 24 (.c db n cap) (.n j) (a0)) (g2:LD H 3 (a0) (v0)) (g3:IX 24 (.c db n cap) (.i (qA.wrap ((j:Int)-1))) (a1)) (g4:LD H 3 (a1) (v1)) (g5:∀kf,N≤kf→Qb Tp polSo (kf+1) 69 [v0,v1,.q xb] H=some (.i c0,H0)) (g6:c0<0) (g7:IX 24 (.c db n cap) (.i (qA.wrap ((j:Int)-1))) (a2)) (g8:LD H0 3 (a2) (v2)) (g9:IX 24 (.c db n cap) (.n j) (a3)) (g10:LD H0 3 (a3) (v3)) (g11:IX 24 (.c db n cap) (.n j) (a4)) (g12:ST H0 3 (a4) (v2) H1) (g13:IX 24 (.c db n cap) (.i (qA.wrap ((j:Int)-1))) (a5)) (g14:ST H1 3 (a5) (v3) H2): RT polSo 104 (sn 955348 QC) (WV db n cap a b i k (.func 69 [] [.q xb]) (.n j) y12) H .normal (WV db n cap a b i k (.func 69 [] [.q xb]) (.i (qA.wrap ((j:Int)-1))) y12) H2 :=
 hx N 60 [jT 14 1 H g0,jO 16 3 H g1,jO 16 4 H g2,jO 16 8 H g3,jO 16 9 H g4,jC 16 10 g5,jT 16 11 H0 g6,jO 17 8 H0 g7,jO 17 9 H0 g8,jO 17 12 H0 g9,jO 17 13 H0 g10,jO 17 14 H0 g11,jS 17 15 g12,jO 17 16 H1 g13,jS 17 17 g14]
theorem QlR (i:Nat) (k:Nat) (j:Nat) {y12:HV} {a0:HV} {v0:HV} {a1:HV} {v1:HV} {c0:Int} {H0:Heap} (g0:1≤(j:Int)) (g1:IX 24 (.c db n cap) (.n j) (a0)) (g2:LD H 3 (a0) (v0)) (g3:IX 24 (.c db n cap) (.i (qA.wrap ((j:Int)-1))) (a1)) (g4:LD H 3 (a1) (v1)) (g5:∀kf,N≤kf→Qb Tp polSo (kf+1) 69 [v0,v1,.q xb] H=some (.i c0,H0)) (g6:¬(c0<0)): RT polSo 104 (sn 955348 QC) (WV db n cap a b i k (.func 69 [] [.q xb]) (.n j) y12) H (.exit 4) (WV db n cap a b i k (.func 69 [] [.q xb]) (.n j) y12) H0 :=
 hx N 60 [jT 14 1 H g0,jO 16 3 H g1,jO 16 4 H g2,jO 16 8 H g3,jO 16 9 H g4,jC 16 10 g5,jF 16 11 H0 g6]
theorem QlS (i:Nat) (k:Nat) (j:Nat) {y12:HV} (g0:¬(1≤(j:Int))): RT polSo 104 (sn 955348 QC) (WV db n cap a b i k (.func 69 [] [.q xb]) (.n j) y12) H (.exit 4) (WV db n cap a b i k (.func 69 [] [.q xb]) (.n j) y12) H :=
 hx N 60 [jF 14 1 H g0]
theorem QlT (i:Nat) (k:Nat) {y11 y12:HV} (g0:2≤qA.wrap ((b:Int)-(i:Int))): RunsTo Tp polSo 104 (sn 59710 QC) (WV db n cap a b i k (.func 69 [] [.q xb]) y11 y12) H .normal [0,1,2,3,8,9,10,11,12,104] [(0,.c db n cap),(1,.n a),(2,.n b),(3,.func 69 [] [.q xb]),(8,.bool false),(9,.n i),(10,.n k),(11,y11),(12,y12),(104,.bool true)] H :=
 hx N 60 [jT 18 3 H g0]
theorem QlU (i:Nat) (k:Nat) {y11 y12:HV} (g0:¬(2≤qA.wrap ((b:Int)-(i:Int)))): RunsTo Tp polSo 104 (sn 59710 QC) (WV db n cap a b i k (.func 69 [] [.q xb]) y11 y12) H .normal [0,1,2,3,8,9,10,11,12,104] [(0,.c db n cap),(1,.n a),(2,.n b),(3,.func 69 [] [.q xb]),(8,.bool false),(9,.n i),(10,.n k),(11,y11),(12,y12),(104,.bool false)] H :=
 hx N 60 [jF 18 3 H g0]
theorem QlV (i:Nat) (k:Nat) {y11 y12:HV}: RT polSo 104 (sn 238844 QC) (WV db n cap a b i k (.func 69 [] [.q xb]) y11 y12) H .normal (WV db n cap a b i k (.func 69 [] [.q xb]) y11 (.i (qA.wrap ((i:Int)+1)))) H :=
 hx N 60 []
theorem QlW (i:Nat) (k:Nat) (w:Nat) {y11:HV} {a0:HV} {v0:HV} {a1:HV} {v1:HV} {c0:Int} {H0:Heap} {a2:HV} {v2:HV} {a3:HV} {v3:HV} {a4:HV} {H1:Heap} {a5:HV} {H2:Heap} (g0:(w:Int)<(b:Int)) (g1:IX 24 (.c db n cap) (.n w) (a0)) (g2:LD H 3 (a0) (v0)) (g3:IX 24 (.c db n cap) (.i (qA.wrap ((w:Int)-1))) (a1)) (g4:LD H 3 (a1) (v1)) (g5:∀kf,N≤kf→Qb Tp polSo (kf+1) 69 [v0,v1,.q xb] H=some (.i c0,H0)) (g6:c0<0) (g7:IX 24 (.c db n cap) (.i (qA.wrap ((w:Int)-1))) (a2)) (g8:LD H0 3 (a2) (v2)) (g9:IX 24 (.c db n cap) (.n w) (a3)) (g10:LD H0 3 (a3) (v3)) (g11:IX 24 (.c db n cap) (.n w) (a4)) (g12:ST H0 3 (a4) (v2) H1) (g13:IX 24 (.c db n cap) (.i (qA.wrap ((w:Int)-1))) (a5)) (g14:ST H1 3 (a5) (v3) H2): RT polSo 104 (sn 955380 QC) (WV db n cap a b i k (.func 69 [] [.q xb]) y11 (.n w)) H .normal (WV db n cap a b i k (.func 69 [] [.q xb]) y11 (.i (qA.wrap ((w:Int)+1)))) H2 :=
 hx N 60 [jT 20 2 H g0,jO 22 3 H g1,jO 22 4 H g2,jO 22 8 H g3,jO 22 9 H g4,jC 22 10 g5,jT 22 11 H0 g6,jO 23 8 H0 g7,jO 23 9 H0 g8,jO 23 12 H0 g9,jO 23 13 H0 g10,jO 23 14 H0 g11,jS 23 15 g12,jO 23 16 H1 g13,jS 23 17 g14]
theorem QlX (i:Nat) (k:Nat) (w:Nat) {y11:HV} {a0:HV} {v0:HV} {a1:HV} {v1:HV} {c0:Int} {H0:Heap} (g0:(w:Int)<(b:Int)) (g1:IX 24 (.c db n cap) (.n w) (a0)) (g2:LD H 3 (a0) (v0)) (g3:IX 24 (.c db n cap) (.i (qA.wrap ((w:Int)-1))) (a1)) (g4:LD H 3 (a1) (v1)) (g5:∀kf,N≤kf→Qb Tp polSo (kf+1) 69 [v0,v1,.q xb] H=some (.i c0,H0)) (g6:¬(c0<0)): RT polSo 104 (sn 955380 QC) (WV db n cap a b i k (.func 69 [] [.q xb]) y11 (.n w)) H (.exit 6) (WV db n cap a b i k (.func 69 [] [.q xb]) y11 (.n w)) H0 :=
 hx N 60 [jT 20 2 H g0,jO 22 3 H g1,jO 22 4 H g2,jO 22 8 H g3,jO 22 9 H g4,jC 22 10 g5,jF 22 11 H0 g6]
theorem Qek (i:Nat) (k:Nat) (w:Nat) {y11:HV} (g0:¬((w:Int)<(b:Int))): RT polSo 104 (sn 955380 QC) (WV db n cap a b i k (.func 69 [] [.q xb]) y11 (.n w)) H (.exit 6) (WV db n cap a b i k (.func 69 [] [.q xb]) y11 (.n w)) H :=
 hx N 60 [jF 20 2 H g0]
theorem QlY (i:Nat) (k:Nat) {y11 y12:HV}: RT polSo 104 (sn 467 QC) (WV db n cap a b i k (.func 69 [] [.q xb]) y11 y12) H .normal (Wq (.c db n cap) (.n a) (.n b) (.func 69 [] [.q xb]) (.bool false) (.n i) (.i (qA.wrap ((k:Int)+1))) y11 y12) H :=
 hx N 60 []
theorem QlZ (i:Nat) (k:Nat) {y11 y12:HV}: RT polSo 104 (sn 15 QC) (WV db n cap a b i k (.func 69 [] [.q xb]) y11 y12) H .ret (WV db n cap a b i k (.func 69 [] [.q xb]) y11 y12) H :=
 hx N 60 []
end
end Go.Proofs.Ytiejmoglooaalaa
end
section
open Go Go.HL Go.HL.So
namespace Go.Proofs.Ytiejmoglooaalaa
set_option linter.unusedSectionVars false
open Go.Proofs.Try renaming prog → Tp
open Go.HL.HV renaming undef → Ud
section
variable {xb:Nat} {α:Type} [Inhabited α] {enc:α→HV} {lt:α→α→Prop} {dom:α→Prop} {H:Heap} {db n:Nat} {cap:Option Nat}
theorem pt1 (S:So xb enc lt dom H db n) {T:Heap} (hT:mxs T=0) {a b p j:Nat} {l:List α} (hl:l.length=n) (hD:Dm dom l):∀(d i:Nat),j+1-i≤d→a<i→i≤j+1→j<n →
  ∃i':Nat,RT polSo 106 (sn 60 QW) (ZZ (.sl db 0 n cap n 1) (.i (a:Int)) (.i (b:Int)) (.i (p:Int)) (.func 69 [] [.q xb]) (.i 0) (.bool false) (.i (i:Int)) (.i (j:Int))) (Mm enc H db l T) (.exit 0) (ZZ (.sl db 0 n cap n 1) (.i (a:Int)) (.i (b:Int)) (.i (p:Int)) (.func 69 [] [.q xb]) (.i 0) (.bool false) (.i (i':Int)) (.i (j:Int))) (Mm enc H db l T)∧i≤i'∧i'≤j+1∧(∀k:Nat,i≤k→k<i'→lt (at_ l k) (at_ l a))∧(j<i'∨¬lt (at_ l i') (at_ l a)):=by
 have hn:=S.nb
 intro d
 induction d with
 | zero =>
  intro i hd hi1 hi2 hj
  exact ⟨i,lpo (Qeb (xb:=xb) 0 db n cap (Mm enc H db l T) 0 a b p i j (by omega)),qB _,by omega,fun k h1 h2=>by omega,.inl (by omega)⟩
 | succ d ih =>
  intro i hd hi1 hi2 hj
  by_cases c0:i≤j
  ·by_cases c:lt (at_ l i) (at_ l a)
   ·obtain ⟨cc,N,hN,hc⟩:=S.ct (T:=T) hl hT (hD.at (i:=i) (by omega)) (hD.at (i:=a) (by omega)) c
    have st:=Qld (xb:=xb) N db n cap (Mm enc H db l T) 0 a b p i j (by omega) (ixs (i:=i) rfl (by omega)) (S.ld l T i hl (by omega)) (ixs (i:=a) rfl (by omega)) (S.ld l T a hl (by omega)) hN hc
    rw [Qj (by omega)] at st
    obtain ⟨i',r,q1,q2,q3,q4⟩:=ih (i+1) (by omega) (by omega) (by omega) hj
    exact ⟨i',lop (st) (gcM _ _ _ _ _ rfl) (r),by omega,q2,fun k h1 h2=>by
     by_cases e:k=i
     ·subst e;exact c
     ·exact q3 k (by omega) h2,q4⟩
   ·have c':¬lt (at_ l i) (at_ l a):=c
    obtain ⟨cc,N,hN,hc⟩:=S.cf (T:=T) hl hT (hD.at (i:=i) (by omega)) (hD.at (i:=a) (by omega)) c'
    have st:=Qle (xb:=xb) N db n cap (Mm enc H db l T) 0 a b p i j (by omega) (ixs (i:=i) rfl (by omega)) (S.ld l T i hl (by omega)) (ixs (i:=a) rfl (by omega)) (S.ld l T a hl (by omega)) hN hc
    exact ⟨i,lpo (st),qB _,by omega,fun k h1 h2=>by omega,Or.inr c'⟩
  ·exact ⟨i,lpo (Qeb (xb:=xb) 0 db n cap (Mm enc H db l T) 0 a b p i j (by omega)),qB _,by omega,fun k h1 h2=>by omega,.inl (by omega)⟩
theorem pt2 (S:So xb enc lt dom H db n) {T:Heap} (hT:mxs T=0) {a b p i:Nat} {l:List α} (hl:l.length=n) (hD:Dm dom l):∀(d j:Nat),j+1-i≤d→a<i→i≤j+1→j<n →
  ∃j':Nat,RT polSo 106 (sn 124 QW) (ZZ (.sl db 0 n cap n 1) (.i (a:Int)) (.i (b:Int)) (.i (p:Int)) (.func 69 [] [.q xb]) (.i 0) (.bool false) (.i (i:Int)) (.i (j:Int))) (Mm enc H db l T) (.exit 2) (ZZ (.sl db 0 n cap n 1) (.i (a:Int)) (.i (b:Int)) (.i (p:Int)) (.func 69 [] [.q xb]) (.i 0) (.bool false) (.i (i:Int)) (.i (j':Int))) (Mm enc H db l T)∧j'≤j∧i≤j'+1∧(∀k:Nat,j'<k→k≤j→¬lt (at_ l k) (at_ l a))∧(j'<i∨lt (at_ l j') (at_ l a)):=by
 have hn:=S.nb
 intro d
 induction d with
 | zero =>
  intro j hd hi1 hi2 hj
  exact ⟨j,lpo (Qec (xb:=xb) 0 db n cap (Mm enc H db l T) 0 a b p i j (by omega)),qB _,by omega,fun k h1 h2=>by omega,.inl (by omega)⟩
 | succ d ih =>
  intro j hd hi1 hi2 hj
  by_cases c0:i≤j
  ·by_cases c:¬lt (at_ l j) (at_ l a)
   ·obtain ⟨cc,N,hN,hc⟩:=S.cf (T:=T) hl hT (hD.at (i:=j) (by omega)) (hD.at (i:=a) (by omega)) c
    have st:=Qlg (xb:=xb) N db n cap (Mm enc H db l T) 0 a b p i j (by omega) (ixs (i:=j) rfl (by omega)) (S.ld l T j hl (by omega)) (ixs (i:=a) rfl (by omega)) (S.ld l T a hl (by omega)) hN hc
    rw [QQ (by omega) (by omega)] at st
    obtain ⟨j',r,q1,q2,q3,q4⟩:=ih (j-1) (by omega) hi1 (by omega) (by omega)
    exact ⟨j',lop (st) (gcM _ _ _ _ _ rfl) (r),by omega,q2,fun k h1 h2=>by
     by_cases e:k=j
     ·subst e;exact c
     ·exact q3 k h1 (by omega),q4⟩
   ·have c':lt (at_ l j) (at_ l a):=Classical.not_not.1 c
    obtain ⟨cc,N,hN,hc⟩:=S.ct (T:=T) hl hT (hD.at (i:=j) (by omega)) (hD.at (i:=a) (by omega)) c'
    have st:=Qlf (xb:=xb) N db n cap (Mm enc H db l T) 0 a b p i j (by omega) (ixs (i:=j) rfl (by omega)) (S.ld l T j hl (by omega)) (ixs (i:=a) rfl (by omega)) (S.ld l T a hl (by omega)) hN hc
    exact ⟨j,lpo (st),qB _,by omega,fun k h1 h2=>by omega,Or.inr c'⟩
  ·exact ⟨j,lpo (Qec (xb:=xb) 0 db n cap (Mm enc H db l T) 0 a b p i j (by omega)),qB _,by omega,fun k h1 h2=>by omega,.inl (by omega)⟩
theorem pt3 (S:So xb enc lt dom H db n) {T:Heap} (hT:mxs T=0) {a b p j:Nat} {l:List α} (hl:l.length=n) (hD:Dm dom l):∀(d i:Nat),j+1-i≤d→a<i→i≤j+1→j<n →
  ∃i':Nat,RT polSo 106 (sn 65472 QW) (ZZ (.sl db 0 n cap n 1) (.i (a:Int)) (.i (b:Int)) (.i (p:Int)) (.func 69 [] [.q xb]) (.i 0) (.bool false) (.i (i:Int)) (.i (j:Int))) (Mm enc H db l T) (.exit 6) (ZZ (.sl db 0 n cap n 1) (.i (a:Int)) (.i (b:Int)) (.i (p:Int)) (.func 69 [] [.q xb]) (.i 0) (.bool false) (.i (i':Int)) (.i (j:Int))) (Mm enc H db l T)∧i≤i'∧i'≤j+1∧(∀k:Nat,i≤k→k<i'→lt (at_ l k) (at_ l a))∧(j<i'∨¬lt (at_ l i') (at_ l a)):=by
 have hn:=S.nb
 intro d
 induction d with
 | zero =>
  intro i hd hi1 hi2 hj
  exact ⟨i,lpo (Qed (xb:=xb) 0 db n cap (Mm enc H db l T) 0 a b p i j (by omega)),qB _,by omega,fun k h1 h2=>by omega,.inl (by omega)⟩
 | succ d ih =>
  intro i hd hi1 hi2 hj
  by_cases c0:i≤j
  ·by_cases c:lt (at_ l i) (at_ l a)
   ·obtain ⟨cc,N,hN,hc⟩:=S.ct (T:=T) hl hT (hD.at (i:=i) (by omega)) (hD.at (i:=a) (by omega)) c
    have st:=Qlm (xb:=xb) N db n cap (Mm enc H db l T) 0 a b p i j (by omega) (ixs (i:=i) rfl (by omega)) (S.ld l T i hl (by omega)) (ixs (i:=a) rfl (by omega)) (S.ld l T a hl (by omega)) hN hc
    rw [Qj (by omega)] at st
    obtain ⟨i',r,q1,q2,q3,q4⟩:=ih (i+1) (by omega) (by omega) (by omega) hj
    exact ⟨i',lop (st) (gcM _ _ _ _ _ rfl) (r),by omega,q2,fun k h1 h2=>by
     by_cases e:k=i
     ·subst e;exact c
     ·exact q3 k (by omega) h2,q4⟩
   ·have c':¬lt (at_ l i) (at_ l a):=c
    obtain ⟨cc,N,hN,hc⟩:=S.cf (T:=T) hl hT (hD.at (i:=i) (by omega)) (hD.at (i:=a) (by omega)) c'
    have st:=Qln (xb:=xb) N db n cap (Mm enc H db l T) 0 a b p i j (by omega) (ixs (i:=i) rfl (by omega)) (S.ld l T i hl (by omega)) (ixs (i:=a) rfl (by omega)) (S.ld l T a hl (by omega)) hN hc
    exact ⟨i,lpo (st),qB _,by omega,fun k h1 h2=>by omega,Or.inr c'⟩
  ·exact ⟨i,lpo (Qed (xb:=xb) 0 db n cap (Mm enc H db l T) 0 a b p i j (by omega)),qB _,by omega,fun k h1 h2=>by omega,.inl (by omega)⟩
theorem pt4 (S:So xb enc lt dom H db n) {T:Heap} (hT:mxs T=0) {a b p i:Nat} {l:List α} (hl:l.length=n) (hD:Dm dom l):∀(d j:Nat),j+1-i≤d→a<i→i≤j+1→j<n →
  ∃j':Nat,RT polSo 106 (sn 130948 QW) (ZZ (.sl db 0 n cap n 1) (.i (a:Int)) (.i (b:Int)) (.i (p:Int)) (.func 69 [] [.q xb]) (.i 0) (.bool false) (.i (i:Int)) (.i (j:Int))) (Mm enc H db l T) (.exit 8) (ZZ (.sl db 0 n cap n 1) (.i (a:Int)) (.i (b:Int)) (.i (p:Int)) (.func 69 [] [.q xb]) (.i 0) (.bool false) (.i (i:Int)) (.i (j':Int))) (Mm enc H db l T)∧j'≤j∧i≤j'+1∧(∀k:Nat,j'<k→k≤j→¬lt (at_ l k) (at_ l a))∧(j'<i∨lt (at_ l j') (at_ l a)):=by
 have hn:=S.nb
 intro d
 induction d with
 | zero =>
  intro j hd hi1 hi2 hj
  exact ⟨j,lpo (Qee (xb:=xb) 0 db n cap (Mm enc H db l T) 0 a b p i j (by omega)),qB _,by omega,fun k h1 h2=>by omega,.inl (by omega)⟩
 | succ d ih =>
  intro j hd hi1 hi2 hj
  by_cases c0:i≤j
  ·by_cases c:¬lt (at_ l j) (at_ l a)
   ·obtain ⟨cc,N,hN,hc⟩:=S.cf (T:=T) hl hT (hD.at (i:=j) (by omega)) (hD.at (i:=a) (by omega)) c
    have st:=Qlp (xb:=xb) N db n cap (Mm enc H db l T) 0 a b p i j (by omega) (ixs (i:=j) rfl (by omega)) (S.ld l T j hl (by omega)) (ixs (i:=a) rfl (by omega)) (S.ld l T a hl (by omega)) hN hc
    rw [QQ (by omega) (by omega)] at st
    obtain ⟨j',r,q1,q2,q3,q4⟩:=ih (j-1) (by omega) hi1 (by omega) (by omega)
    exact ⟨j',lop (st) (gcM _ _ _ _ _ rfl) (r),by omega,q2,fun k h1 h2=>by
     by_cases e:k=j
     ·subst e;exact c
     ·exact q3 k h1 (by omega),q4⟩
   ·have c':lt (at_ l j) (at_ l a):=Classical.not_not.1 c
    obtain ⟨cc,N,hN,hc⟩:=S.ct (T:=T) hl hT (hD.at (i:=j) (by omega)) (hD.at (i:=a) (by omega)) c'
    have st:=Qlo (xb:=xb) N db n cap (Mm enc H db l T) 0 a b p i j (by omega) (ixs (i:=j) rfl (by omega)) (S.ld l T j hl (by omega)) (ixs (i:=a) rfl (by omega)) (S.ld l T a hl (by omega)) hN hc
    exact ⟨j,lpo (st),qB _,by omega,fun k h1 h2=>by omega,Or.inr c'⟩
  ·exact ⟨j,lpo (Qee (xb:=xb) 0 db n cap (Mm enc H db l T) 0 a b p i j (by omega)),qB _,by omega,fun k h1 h2=>by omega,.inl (by omega)⟩
theorem pe1 (S:So xb enc lt dom H db n) {T:Heap} (hT:mxs T=0) {a b p j:Nat} {l:List α} (hl:l.length=n) (hD:Dm dom l):∀(d i:Nat),j+1-i≤d→a<i→i≤j+1→j<n →
  ∃i':Nat,RT polSo 105 (sn 960 W9) (Vr (.sl db 0 n cap n 1) (.i (a:Int)) (.i (b:Int)) (.i (p:Int)) (.func 69 [] [.q xb]) (.i 0) (.i (i:Int)) (.i (j:Int))) (Mm enc H db l T) (.exit 2) (Vr (.sl db 0 n cap n 1) (.i (a:Int)) (.i (b:Int)) (.i (p:Int)) (.func 69 [] [.q xb]) (.i 0) (.i (i':Int)) (.i (j:Int))) (Mm enc H db l T)∧i≤i'∧i'≤j+1∧(∀k:Nat,i≤k→k<i'→¬lt (at_ l a) (at_ l k))∧(j<i'∨lt (at_ l a) (at_ l i')):=by
 have hn:=S.nb
 intro d
 induction d with
 | zero =>
  intro i hd hi1 hi2 hj
  exact ⟨i,lpo (Qeg (xb:=xb) 0 db n cap (Mm enc H db l T) 0 a b p i j (by omega)),qB _,by omega,fun k h1 h2=>by omega,.inl (by omega)⟩
 | succ d ih =>
  intro i hd hi1 hi2 hj
  by_cases c0:i≤j
  ·by_cases c:¬lt (at_ l a) (at_ l i)
   ·obtain ⟨cc,N,hN,hc⟩:=S.cf (T:=T) hl hT (hD.at (i:=a) (by omega)) (hD.at (i:=i) (by omega)) c
    have st:=Qlw (xb:=xb) N db n cap (Mm enc H db l T) 0 a b p i j (by omega) (ixs (i:=a) rfl (by omega)) (S.ld l T a hl (by omega)) (ixs (i:=i) rfl (by omega)) (S.ld l T i hl (by omega)) hN hc
    rw [Qj (by omega)] at st
    obtain ⟨i',r,q1,q2,q3,q4⟩:=ih (i+1) (by omega) (by omega) (by omega) hj
    exact ⟨i',lop (st) (gcM _ _ _ _ _ rfl) (r),by omega,q2,fun k h1 h2=>by
     by_cases e:k=i
     ·subst e;exact c
     ·exact q3 k (by omega) h2,q4⟩
   ·have c':lt (at_ l a) (at_ l i):=Classical.not_not.1 c
    obtain ⟨cc,N,hN,hc⟩:=S.ct (T:=T) hl hT (hD.at (i:=a) (by omega)) (hD.at (i:=i) (by omega)) c'
    have st:=Qlv (xb:=xb) N db n cap (Mm enc H db l T) 0 a b p i j (by omega) (ixs (i:=a) rfl (by omega)) (S.ld l T a hl (by omega)) (ixs (i:=i) rfl (by omega)) (S.ld l T i hl (by omega)) hN hc
    exact ⟨i,lpo (st),qB _,by omega,fun k h1 h2=>by omega,Or.inr c'⟩
  ·exact ⟨i,lpo (Qeg (xb:=xb) 0 db n cap (Mm enc H db l T) 0 a b p i j (by omega)),qB _,by omega,fun k h1 h2=>by omega,.inl (by omega)⟩
theorem pe2 (S:So xb enc lt dom H db n) {T:Heap} (hT:mxs T=0) {a b p i:Nat} {l:List α} (hl:l.length=n) (hD:Dm dom l):∀(d j:Nat),j+1-i≤d→a<i→i≤j+1→j<n →
  ∃j':Nat,RT polSo 105 (sn 1924 W9) (Vr (.sl db 0 n cap n 1) (.i (a:Int)) (.i (b:Int)) (.i (p:Int)) (.func 69 [] [.q xb]) (.i 0) (.i (i:Int)) (.i (j:Int))) (Mm enc H db l T) (.exit 4) (Vr (.sl db 0 n cap n 1) (.i (a:Int)) (.i (b:Int)) (.i (p:Int)) (.func 69 [] [.q xb]) (.i 0) (.i (i:Int)) (.i (j':Int))) (Mm enc H db l T)∧j'≤j∧i≤j'+1∧(∀k:Nat,j'<k→k≤j→lt (at_ l a) (at_ l k))∧(j'<i∨¬lt (at_ l a) (at_ l j')):=by
 have hn:=S.nb
 intro d
 induction d with
 | zero =>
  intro j hd hi1 hi2 hj
  exact ⟨j,lpo (Qeh (xb:=xb) 0 db n cap (Mm enc H db l T) 0 a b p i j (by omega)),qB _,by omega,fun k h1 h2=>by omega,.inl (by omega)⟩
 | succ d ih =>
  intro j hd hi1 hi2 hj
  by_cases c0:i≤j
  ·by_cases c:lt (at_ l a) (at_ l j)
   ·obtain ⟨cc,N,hN,hc⟩:=S.ct (T:=T) hl hT (hD.at (i:=a) (by omega)) (hD.at (i:=j) (by omega)) c
    have st:=Qlx (xb:=xb) N db n cap (Mm enc H db l T) 0 a b p i j (by omega) (ixs (i:=a) rfl (by omega)) (S.ld l T a hl (by omega)) (ixs (i:=j) rfl (by omega)) (S.ld l T j hl (by omega)) hN hc
    rw [QQ (by omega) (by omega)] at st
    obtain ⟨j',r,q1,q2,q3,q4⟩:=ih (j-1) (by omega) hi1 (by omega) (by omega)
    exact ⟨j',lop (st) (gcM _ _ _ _ _ rfl) (r),by omega,q2,fun k h1 h2=>by
     by_cases e:k=j
     ·subst e;exact c
     ·exact q3 k h1 (by omega),q4⟩
   ·have c':¬lt (at_ l a) (at_ l j):=c
    obtain ⟨cc,N,hN,hc⟩:=S.cf (T:=T) hl hT (hD.at (i:=a) (by omega)) (hD.at (i:=j) (by omega)) c'
    have st:=Qly (xb:=xb) N db n cap (Mm enc H db l T) 0 a b p i j (by omega) (ixs (i:=a) rfl (by omega)) (S.ld l T a hl (by omega)) (ixs (i:=j) rfl (by omega)) (S.ld l T j hl (by omega)) hN hc
    exact ⟨j,lpo (st),qB _,by omega,fun k h1 h2=>by omega,Or.inr c'⟩
  ·exact ⟨j,lpo (Qeh (xb:=xb) 0 db n cap (Mm enc H db l T) 0 a b p i j (by omega)),qB _,by omega,fun k h1 h2=>by omega,.inl (by omega)⟩
theorem U9 {l:List α} {i j a:Nat} (hi:i<l.length) (hj:j<l.length) (h1:a≠i) (h2:a≠j):at_ (swp l i j) a=at_ l a:=by rw [ZD hi hj,if_neg h2,if_neg h1]
def PI (lt:α→α→Prop) (a b i j:Nat) (l:List α):Prop:=(a<i∧i≤j+1∧a≤j∧j<b)∧(∀k,a<k→k<i→lt (at_ l k) (at_ l a))∧∀k,j<k→k<b→¬lt (at_ l k) (at_ l a)
theorem PI.scan {a b i j i' j':Nat} {l:List α} (h:PI lt a b i j l) (h1:i≤i') (h2:i'≤j+1) (h3:∀k,i≤k→k<i'→lt (at_ l k) (at_ l a)) (h4:j'≤j) (h5:i'≤j'+1) (h6:∀k,j'<k→k≤j→¬lt (at_ l k) (at_ l a)):PI lt a b i' j' l:=by
 obtain ⟨p1,p2,p3⟩:=h
 refine ⟨by omega,fun k q1 q2=>?_,fun k q1 q2=>?_⟩
 ·by_cases c:k<i
  ·exact p2 k q1 c
  ·exact h3 k (by omega) q2
 ·by_cases c:j<k
  ·exact p3 k c q2
  ·exact h6 k q1 (by omega)
theorem PI.swap {a b i j:Nat} {l:List α} (hb:b≤l.length) (h:PI lt a b i j l) (hij:i≤j) (h1:¬lt (at_ l i) (at_ l a)) (h2:lt (at_ l j) (at_ l a)):PI lt a b (i+1) (j-1) (swp l i j):=by
 obtain ⟨p1,p2,p3⟩:=h
 have hne:i≠j:=fun e=>by subst e;exact h1 h2
 have e0:at_ (swp l i j) a=at_ l a:=U9 (by omega) (by omega) (by omega) (by omega)
 refine ⟨by omega,fun k q1 q2=>?_,fun k q1 q2=>?_⟩
 ·rw [e0,ZD (by omega) (by omega),if_neg (by omega)]
  by_cases c:k=i
  ·rw [if_pos c];exact h2
  ·rw [if_neg c];exact p2 k q1 (by omega)
 ·rw [e0,ZD (by omega) (by omega)]
  by_cases c:k=j
  ·rw [if_pos c];exact h1
  ·rw [if_neg c,if_neg (by omega)];exact p3 k (by omega) q2
theorem PI.done {a b i j:Nat} {l:List α} (hb:b≤l.length) (h:PI lt a b i j l) (hij:j<i):(∀k,a≤k→k<j→lt (at_ (swp l j a) k) (at_ (swp l j a) j))∧∀k,j<k→k<b→¬lt (at_ (swp l j a) k) (at_ (swp l j a) j):=by
 obtain ⟨p1,p2,p3⟩:=h
 have ej:at_ (swp l j a) j=at_ l a:=by
  rw [ZD (by omega) (by omega)]
  by_cases c:j=a
  ·rw [if_pos c,c]
  ·rw [if_neg c,if_pos rfl]
 refine ⟨fun k q1 q2=>?_,fun k q1 q2=>?_⟩
 ·rw [ej,ZD (by omega) (by omega)]
  by_cases c:k=a
  ·rw [if_pos c];exact p2 j (by omega) (by omega)
  ·rw [if_neg c,if_neg (by omega)];exact p2 k (by omega) (by omega)
 ·rw [ej,ZD (by omega) (by omega),if_neg (by omega),if_neg (by omega)];exact p3 k q1 q2
theorem Qgj (S:So xb enc lt dom H db n) {T:Heap} (hT:mxs T=0) {a b p:Nat} (hb:b≤n):∀(d i j:Nat) (l:List α),j+1-i≤d→l.length=n→Dm dom l→PI lt a b i j l →
  ∃(i' j':Nat) (l':List α),RT polSo 106 (sn 4092 QW) (ZZ (.sl db 0 n cap n 1) (.i (a:Int)) (.i (b:Int)) (.i (p:Int)) (.func 69 [] [.q xb]) (.i 0) (.bool false) (.i (i:Int)) (.i (j:Int))) (Mm enc H db l T) (.exit 4) (ZZ (.sl db 0 n cap n 1) (.i (a:Int)) (.i (b:Int)) (.i (p:Int)) (.func 69 [] [.q xb]) (.i 0) (.bool false) (.i (i':Int)) (.i (j':Int))) (Mm enc H db l' T)∧Sw a b l l'∧PI lt a b i' j' l'∧j'<i':=by
 have hn:=S.nb
 intro d
 induction d with
 | zero =>
  intro i j l hd hl hD hI
  obtain ⟨p1,p2,p3⟩:=id hI
  obtain ⟨i',r1,q1,q2,q3,q4⟩:=pt3 S (cap:=cap) (a:=a) (b:=b) (p:=p) (j:=j) hT hl hD _ i (qB _) p1.1 p1.2.1 (by omega)
  obtain ⟨j',r2,q5,q6,q7,q8⟩:=pt4 S (cap:=cap) (a:=a) (b:=b) (p:=p) hT hl hD _ j (qB _) (i:=i') (by omega) (by omega) (by omega)
  have st:=RunsTo.block_other (i:=5) (c:=sn 8184 QW) (sq (bke (c:=sn 32736 QW) (r1)) (sq (bke (c:=sn 65474 QW) (r2)) (Qef (xb:=xb) 0 db n cap (Mm enc H db l T) 0 a b p i' j' (by omega)) (c:=sn 32737 QW)) (c:=sn 16368 QW)) (by simp) (by kernel_rfl)
  exact ⟨i',j',l,lpo (st),.refl,hI.scan q1 q2 q3 q5 q6 q7,by omega⟩
 | succ d ih =>
  intro i j l hd hl hD hI
  obtain ⟨p1,p2,p3⟩:=id hI
  obtain ⟨i',r1,q1,q2,q3,q4⟩:=pt3 S (cap:=cap) (a:=a) (b:=b) (p:=p) (j:=j) hT hl hD _ i (qB _) p1.1 p1.2.1 (by omega)
  obtain ⟨j',r2,q5,q6,q7,q8⟩:=pt4 S (cap:=cap) (a:=a) (b:=b) (p:=p) hT hl hD _ j (qB _) (i:=i') (by omega) (by omega) (by omega)
  have hI':=hI.scan q1 q2 q3 q5 q6 q7
  by_cases c:j'<i'
  ·have st:=RunsTo.block_other (i:=5) (c:=sn 8184 QW) (sq (bke (c:=sn 32736 QW) (r1)) (sq (bke (c:=sn 65474 QW) (r2)) (Qef (xb:=xb) 0 db n cap (Mm enc H db l T) 0 a b p i' j' (by omega)) (c:=sn 32737 QW)) (c:=sn 16368 QW)) (by simp) (by kernel_rfl)
   exact ⟨i',j',l,lpo (st),.refl,hI',c⟩
  ·have q4':=q4.resolve_left (by omega)
   have q8':=q8.resolve_left (by omega)
   obtain ⟨s1,s2⟩:=S.st2 (T:=T) hl (i:=i') (j:=j') (by omega) (by omega)
   have sl:=Qlq (xb:=xb) 0 db n cap (Mm enc H db l T) 0 a b p i' j' (by omega) (ixs (i:=j') rfl (by omega)) (S.ld l T _ hl (by omega)) (ixs (i:=i') rfl (by omega)) (S.ld l T _ hl (by omega)) (ixs (i:=i') rfl (by omega)) s1 (ixs (i:=j') rfl (by omega)) s2
   rw [Qj (by omega),QQ (by omega) (by omega)] at sl
   have st:=RunsTo.block_normal (i:=5) (c:=sn 8184 QW) (sq (bke (c:=sn 32736 QW) (r1)) (sq (bke (c:=sn 65474 QW) (r2)) (sl) (c:=sn 32737 QW)) (c:=sn 16368 QW)) (by kernel_rfl)
   have sw:Sw a b l (swp l i' j'):=Sw.one (by omega) (by omega) (by omega) (by omega)
   obtain ⟨i2,j2,l',r,w1,w2,w3⟩:=ih (i'+1) (j'-1) (swp l i' j') (by omega) (by rw [swp_len];exact hl) (hD.sw sw (by omega)) (hI'.swap (by omega) (by omega) q4' q8')
   exact ⟨i2,j2,l',lop (st) (gcM _ _ _ _ _ rfl) (r),sw.trans w1,w2,w3⟩
theorem Qgk (S:So xb enc lt dom H db n) {T:Heap} (hT:mxs T=0) {a b p:Nat} (hb:b≤n) (hp1:a≤p) (hp2:p<b) {l:List α} (hl:l.length=n) (hD:Dm dom l) :
  ∃m bb l',ClS 106 [.sl db 0 n cap n 1,.int .i64 (a:Int),.int .i64 (b:Int),.int .i64 (p:Int),.func 69 [] [.ptr xb 0 0 1]] (Mm enc H db l T) (.tuple [.int .i64 ((m:Nat):Int),.bool bb]) (Mm enc H db l' T)∧Sw a b l l'∧(a≤m∧m<b)∧(∀k,a≤k→k<m→lt (at_ l' k) (at_ l' m))∧∀k,m<k→k<b→¬lt (at_ l' k) (at_ l' m):=by
 have hn:=S.nb
 obtain ⟨s1,s2⟩:=S.st2 (T:=T) hl (i:=a) (j:=p) (by omega) (by omega)
 have t0:=Qla (xb:=xb) 0 db n cap (Mm enc H db l T) 0 a b p
 have t1:=Qlb (xb:=xb) 0 db n cap (Mm enc H db l T) 0 a b p (y12:=Ud) (y13:=Ud) (ixs (i:=p) rfl (by omega)) (S.ld l T _ hl (by omega)) (ixs (i:=a) rfl (by omega)) (S.ld l T _ hl (by omega)) (ixs (i:=a) rfl (by omega)) s1 (ixs (i:=p) rfl (by omega)) s2
 have sw0:Sw a b l (swp l a p):=Sw.one (by omega) (by omega) (by omega) (by omega)
 have hl0:=WK sw0 hl
 have hD0:=hD.sw sw0 (by omega)
 generalize swp l a p=l0 at t1 sw0 hl0 hD0 s2
 clear s2
 have t2:=Qlc (xb:=xb) 0 db n cap (Mm enc H db l0 T) 0 a b p (y12:=Ud) (y13:=Ud)
 rw [Qj (by omega),QQ (by omega) (by omega)] at t2
 have hI0:PI lt a b (a+1) (b-1) l0:=⟨by omega,fun k h1 h2=>by omega,fun k h1 h2=>by omega⟩
 obtain ⟨i,r1,q1,q2,q3,q4⟩:=pt1 S (cap:=cap) (a:=a) (b:=b) (p:=p) (j:=b-1) hT hl0 hD0 _ (a+1) (qB _) (by omega) (by omega) (by omega)
 obtain ⟨j,r2,q5,q6,q7,q8⟩:=pt2 S (cap:=cap) (a:=a) (b:=b) (p:=p) hT hl0 hD0 _ (b-1) (qB _) (i:=i) (by omega) (by omega) (by omega)
 have hI:=hI0.scan q1 q2 q3 q5 q6 q7
 have hI':=hI.1
 have fin:∀(i j:Nat) (l1:List α) (bb:Bool) (E:Env) (H':Heap),Sw a b l l1→PI lt a b i j l1→j<i→H'=Mm enc H db (swp l1 j a) T→RT polSo 106 QW (Kh [.sl db 0 n cap n 1,.int .i64 (a:Int),.int .i64 (b:Int),.int .i64 (p:Int),.func 69 [] [.ptr xb 0 0 1]]) (Mm enc H db l T) .ret E H'→Qf Tp Try.f106 E H'=some (.tuple [.int .i64 ((j:Nat):Int),.bool bb]) →
   ∃m bb l',ClS 106 [.sl db 0 n cap n 1,.int .i64 (a:Int),.int .i64 (b:Int),.int .i64 (p:Int),.func 69 [] [.ptr xb 0 0 1]] (Mm enc H db l T) (.tuple [.int .i64 ((m:Nat):Int),.bool bb]) (Mm enc H db l' T)∧Sw a b l l'∧(a≤m∧m<b)∧(∀k,a≤k→k<m→lt (at_ l' k) (at_ l' m))∧∀k,m<k→k<b→¬lt (at_ l' k) (at_ l' m):=by
  intro i j l1 bb E H' hs hI hij he t hv
  subst he
  have hI':=hI.1
  have hll:=WK hs hl
  have hc:=CallsTo.shared (P:=Tp) (pol:=polSo) (g:=106) (fn:=Try.f106) (cd:=QW) (args:=[.sl db 0 n cap n 1,.int .i64 (a:Int),.int .i64 (b:Int),.int .i64 (p:Int),.func 69 [] [.ptr xb 0 0 1]]) (by kernel_rfl) (by kernel_rfl) (by kernel_rfl) (by kernel_rfl) t (by kernel_rfl) (by simp) hv
  rw [gcM _ _ _ _ _ rfl] at hc
  obtain ⟨w1,w2⟩:=hI.done (by omega) hij
  exact ⟨j,bb,_,hc,hs.step (by omega) (by omega) (qB _) (by omega),by omega,w1,w2⟩
 by_cases c:j<i
 ·obtain ⟨s3,s4⟩:=S.st2 (T:=T) hl0 (i:=j) (j:=a) (by omega) (by omega)
  have t3:=Qlh (xb:=xb) 0 db n cap (Mm enc H db l0 T) 0 a b p i j (by omega) (ixs (i:=a) rfl (by omega)) (S.ld l0 T _ hl0 (by omega)) (ixs (i:=j) rfl (by omega)) (S.ld l0 T _ hl0 (by omega)) (ixs (i:=j) rfl (by omega)) s3 (ixs (i:=a) rfl (by omega)) s4
  have t:=sq (t0) (sq (t1) (sq (t2) (sq (bke (c:=sn 30 QW) (r1)) (sq (bke (c:=sn 62 QW) (r2)) (sqo (t3) (c:=sn 63 QW) (b:=sn 127 QW)) (c:=sn 31 QW)) (c:=sn 15 QW)) (c:=sn 7 QW)) (c:=sn 3 QW)) (c:=QW)
  exact fin i j l0 true _ _ sw0 hI c rfl t (by kernel_rfl)
 ·have q4':=q4.resolve_left (by omega)
  have q8':=q8.resolve_left (by omega)
  obtain ⟨s3,s4⟩:=S.st2 (T:=T) hl0 (i:=i) (j:=j) (by omega) (by omega)
  have t3:=Qli (xb:=xb) 0 db n cap (Mm enc H db l0 T) 0 a b p i j (by omega)
  have t4:=Qlj (xb:=xb) 0 db n cap (Mm enc H db l0 T) 0 a b p i j (ixs (i:=j) rfl (by omega)) (S.ld l0 T _ hl0 (by omega)) (ixs (i:=i) rfl (by omega)) (S.ld l0 T _ hl0 (by omega)) (ixs (i:=i) rfl (by omega)) s3 (ixs (i:=j) rfl (by omega)) s4
  have sw1:Sw a b l0 (swp l0 i j):=Sw.one (by omega) (by omega) (by omega) (by omega)
  have hl1:=WK sw1 hl0
  have hD1:=hD0.sw sw1 (by omega)
  have hI1:=hI.swap (by omega) (by omega) q4' q8'
  generalize swp l0 i j=l1 at t4 sw1 hl1 hD1 hI1 s4
  clear s4
  have t5:=Qlk (xb:=xb) 0 db n cap (Mm enc H db l1 T) 0 a b p i j
  rw [Qj (by omega)] at t5
  have t6:=Qll (xb:=xb) 0 db n cap (Mm enc H db l1 T) 0 a b p (i+1) j
  rw [QQ (by omega) (by omega)] at t6
  obtain ⟨i2,j2,l2,r3,w1,w2,w3⟩:=Qgj S (cap:=cap) (p:=p) hT hb _ (i+1) (j-1) l1 (qB _) hl1 hD1 hI1
  have w2':=w2.1
  have hl2:=WK w1 hl1
  obtain ⟨s5,s6⟩:=S.st2 (T:=T) hl2 (i:=j2) (j:=a) (by omega) (by omega)
  have t7:=Qlr (xb:=xb) 0 db n cap (Mm enc H db l2 T) 0 a b p i2 j2 (ixs (i:=a) rfl (by omega)) (S.ld l2 T _ hl2 (by omega)) (ixs (i:=j2) rfl (by omega)) (S.ld l2 T _ hl2 (by omega)) (ixs (i:=j2) rfl (by omega)) s5 (ixs (i:=a) rfl (by omega)) s6
  have t:=sq (t0) (sq (t1) (sq (t2) (sq (bke (c:=sn 30 QW) (r1)) (sq (bke (c:=sn 62 QW) (r2)) (sq (t3) (sq (t4) (sq (t5) (sq (t6) (sq (bke (c:=sn 2046 QW) (r3)) (t7) (c:=sn 1023 QW)) (c:=sn 511 QW)) (c:=sn 255 QW)) (c:=sn 127 QW)) (c:=sn 63 QW)) (c:=sn 31 QW)) (c:=sn 15 QW)) (c:=sn 7 QW)) (c:=sn 3 QW)) (c:=QW)
  exact fin i2 j2 l2 false _ _ (sw0.trans (sw1.trans w1)) w2 w3 rfl t (by kernel_rfl)
def PE (lt:α→α→Prop) (a b i j:Nat) (l:List α):Prop:=(a<i∧i≤j+1∧a≤j∧j<b)∧(∀k,a<k→k<i→¬lt (at_ l a) (at_ l k))∧∀k,j<k→k<b→lt (at_ l a) (at_ l k)
theorem PE.scan {a b i j i' j':Nat} {l:List α} (h:PE lt a b i j l) (h1:i≤i') (h2:i'≤j+1) (h3:∀k,i≤k→k<i'→¬lt (at_ l a) (at_ l k)) (h4:j'≤j) (h5:i'≤j'+1) (h6:∀k,j'<k→k≤j→lt (at_ l a) (at_ l k)):PE lt a b i' j' l:=by
 obtain ⟨p1,p2,p3⟩:=h
 refine ⟨by omega,fun k q1 q2=>?_,fun k q1 q2=>?_⟩
 ·by_cases c:k<i
  ·exact p2 k q1 c
  ·exact h3 k (by omega) q2
 ·by_cases c:j<k
  ·exact p3 k c q2
  ·exact h6 k q1 (by omega)
theorem PE.swap {a b i j:Nat} {l:List α} (hb:b≤l.length) (h:PE lt a b i j l) (hij:i≤j) (h1:lt (at_ l a) (at_ l i)) (h2:¬lt (at_ l a) (at_ l j)):PE lt a b (i+1) (j-1) (swp l i j):=by
 obtain ⟨p1,p2,p3⟩:=h
 have hne:i≠j:=fun e=>by subst e;exact h2 h1
 have e0:at_ (swp l i j) a=at_ l a:=U9 (by omega) (by omega) (by omega) (by omega)
 refine ⟨by omega,fun k q1 q2=>?_,fun k q1 q2=>?_⟩
 ·rw [e0,ZD (by omega) (by omega),if_neg (by omega)]
  by_cases c:k=i
  ·rw [if_pos c];exact h2
  ·rw [if_neg c];exact p2 k q1 (by omega)
 ·rw [e0,ZD (by omega) (by omega)]
  by_cases c:k=j
  ·rw [if_pos c];exact h1
  ·rw [if_neg c,if_neg (by omega)];exact p3 k (by omega) q2
theorem Qgl (S:So xb enc lt dom H db n) {T:Heap} (hT:mxs T=0) {a b p:Nat} (hb:b≤n):∀(d i j:Nat) (l:List α),j+1-i≤d→l.length=n→Dm dom l→PE lt a b i j l →
  ∃(i' j':Nat) (l':List α),RT polSo 105 (sn 60 W9) (Vr (.sl db 0 n cap n 1) (.i (a:Int)) (.i (b:Int)) (.i (p:Int)) (.func 69 [] [.q xb]) (.i 0) (.i (i:Int)) (.i (j:Int))) (Mm enc H db l T) (.exit 0) (Vr (.sl db 0 n cap n 1) (.i (a:Int)) (.i (b:Int)) (.i (p:Int)) (.func 69 [] [.q xb]) (.i 0) (.i (i':Int)) (.i (j':Int))) (Mm enc H db l' T)∧Sw a b l l'∧at_ l' a=at_ l a∧PE lt a b i' j' l'∧j'<i':=by
 have hn:=S.nb
 intro d
 induction d with
 | zero =>
  intro i j l hd hl hD hI
  obtain ⟨p1,p2,p3⟩:=id hI
  obtain ⟨i',r1,q1,q2,q3,q4⟩:=pe1 S (cap:=cap) (a:=a) (b:=b) (p:=p) (j:=j) hT hl hD _ i (qB _) p1.1 p1.2.1 (by omega)
  obtain ⟨j',r2,q5,q6,q7,q8⟩:=pe2 S (cap:=cap) (a:=a) (b:=b) (p:=p) hT hl hD _ j (qB _) (i:=i') (by omega) (by omega) (by omega)
  have st:=RunsTo.block_other (i:=1) (c:=sn 120 W9) (sq (bke (c:=sn 480 W9) (r1)) (sq (bke (c:=sn 962 W9) (r2)) (Qei (xb:=xb) 0 db n cap (Mm enc H db l T) 0 a b p i' j' (by omega)) (c:=sn 481 W9)) (c:=sn 240 W9)) (by simp) (by kernel_rfl)
  exact ⟨i',j',l,lpo (st),.refl,rfl,hI.scan q1 q2 q3 q5 q6 q7,by omega⟩
 | succ d ih =>
  intro i j l hd hl hD hI
  obtain ⟨p1,p2,p3⟩:=id hI
  obtain ⟨i',r1,q1,q2,q3,q4⟩:=pe1 S (cap:=cap) (a:=a) (b:=b) (p:=p) (j:=j) hT hl hD _ i (qB _) p1.1 p1.2.1 (by omega)
  obtain ⟨j',r2,q5,q6,q7,q8⟩:=pe2 S (cap:=cap) (a:=a) (b:=b) (p:=p) hT hl hD _ j (qB _) (i:=i') (by omega) (by omega) (by omega)
  have hI':=hI.scan q1 q2 q3 q5 q6 q7
  by_cases c:j'<i'
  ·have st:=RunsTo.block_other (i:=1) (c:=sn 120 W9) (sq (bke (c:=sn 480 W9) (r1)) (sq (bke (c:=sn 962 W9) (r2)) (Qei (xb:=xb) 0 db n cap (Mm enc H db l T) 0 a b p i' j' (by omega)) (c:=sn 481 W9)) (c:=sn 240 W9)) (by simp) (by kernel_rfl)
   exact ⟨i',j',l,lpo (st),.refl,rfl,hI',c⟩
  ·have q4':=q4.resolve_left (by omega)
   have q8':=q8.resolve_left (by omega)
   obtain ⟨s1,s2⟩:=S.st2 (T:=T) hl (i:=i') (j:=j') (by omega) (by omega)
   have sl:=Qlz (xb:=xb) 0 db n cap (Mm enc H db l T) 0 a b p i' j' (by omega) (ixs (i:=j') rfl (by omega)) (S.ld l T _ hl (by omega)) (ixs (i:=i') rfl (by omega)) (S.ld l T _ hl (by omega)) (ixs (i:=i') rfl (by omega)) s1 (ixs (i:=j') rfl (by omega)) s2
   rw [Qj (by omega),QQ (by omega) (by omega)] at sl
   have st:=RunsTo.block_normal (i:=1) (c:=sn 120 W9) (sq (bke (c:=sn 480 W9) (r1)) (sq (bke (c:=sn 962 W9) (r2)) (sl) (c:=sn 481 W9)) (c:=sn 240 W9)) (by kernel_rfl)
   have sw:Sw a b l (swp l i' j'):=Sw.one (by omega) (by omega) (by omega) (by omega)
   have e0:at_ (swp l i' j') a=at_ l a:=U9 (by omega) (by omega) (by omega) (by omega)
   obtain ⟨i2,j2,l',r,w1,w0,w2,w3⟩:=ih (i'+1) (j'-1) (swp l i' j') (by omega) (by rw [swp_len];exact hl) (hD.sw sw (by omega)) (hI'.swap (by omega) (by omega) q4' q8')
   exact ⟨i2,j2,l',lop (st) (gcM _ _ _ _ _ rfl) (r),sw.trans w1,w0.trans e0,w2,w3⟩
theorem Ql0 (S:So xb enc lt dom H db n) (hL:Lin lt) {T:Heap} (hT:mxs T=0) {a b p:Nat} (hb:b≤n) (hp1:a≤p) (hp2:p<b) {l:List α} (hl:l.length=n) (hD:Dm dom l) :
  ∃m l',ClS 105 [.sl db 0 n cap n 1,.int .i64 (a:Int),.int .i64 (b:Int),.int .i64 (p:Int),.func 69 [] [.ptr xb 0 0 1]] (Mm enc H db l T) (.int .i64 ((m:Nat):Int)) (Mm enc H db l' T)∧Sw a b l l'∧(a<m∧m≤b)∧(∀k,a≤k→k<m→¬lt (at_ l p) (at_ l' k))∧∀k,m≤k→k<b→lt (at_ l p) (at_ l' k):=by
 have hn:=S.nb
 obtain ⟨s1,s2⟩:=S.st2 (T:=T) hl (i:=a) (j:=p) (by omega) (by omega)
 have t0:=Qls (xb:=xb) 0 db n cap (Mm enc H db l T) 0 a b p
 have t1:=Qlt (xb:=xb) 0 db n cap (Mm enc H db l T) 0 a b p (y11:=Ud) (y12:=Ud) (ixs (i:=p) rfl (by omega)) (S.ld l T _ hl (by omega)) (ixs (i:=a) rfl (by omega)) (S.ld l T _ hl (by omega)) (ixs (i:=a) rfl (by omega)) s1 (ixs (i:=p) rfl (by omega)) s2
 have sw0:Sw a b l (swp l a p):=Sw.one (by omega) (by omega) (by omega) (by omega)
 have e0:at_ (swp l a p) a=at_ l p:=by
  rw [ZD (by omega) (by omega)]
  by_cases c:a=p
  ·rw [if_pos c,c]
  ·rw [if_neg c,if_pos rfl]
 have hl0:=WK sw0 hl
 have hD0:=hD.sw sw0 (by omega)
 generalize swp l a p=l0 at t1 sw0 hl0 hD0 s2 e0
 clear s2
 have t2:=Qlu (xb:=xb) 0 db n cap (Mm enc H db l0 T) 0 a b p (y11:=Ud) (y12:=Ud)
 rw [Qj (by omega),QQ (by omega) (by omega)] at t2
 have hI0:PE lt a b (a+1) (b-1) l0:=⟨by omega,fun k h1 h2=>by omega,fun k h1 h2=>by omega⟩
 obtain ⟨i,j,l1,r,w1,w0,w2,w3⟩:=Qgl S (cap:=cap) (p:=p) hT hb _ (a+1) (b-1) l0 (qB _) hl0 hD0 hI0
 obtain ⟨w4,w5,w6⟩:=w2
 have z:=QlA (xb:=xb) 0 db n cap (Mm enc H db l1 T) 0 a b p i j
 have t:=sq (t0) (sq (t1) (sq (t2) (sq (bke (c:=sn 30 W9) (r)) (z) (c:=sn 15 W9)) (c:=sn 7 W9)) (c:=sn 3 W9)) (c:=W9)
 have hc:=CallsTo.shared (P:=Tp) (pol:=polSo) (g:=105) (fn:=Try.f105) (cd:=W9) (args:=[.sl db 0 n cap n 1,.int .i64 (a:Int),.int .i64 (b:Int),.int .i64 (p:Int),.func 69 [] [.ptr xb 0 0 1]]) (v:=.int .i64 (i:Int)) (by kernel_rfl) (by kernel_rfl) (by kernel_rfl) (by kernel_rfl) t (by kernel_rfl) (by simp) (by kernel_rfl)
 rw [gcM _ _ _ _ _ rfl] at hc
 refine ⟨i,l1,hc,sw0.trans w1,by omega,fun k h1 h2=>?_,fun k h1 h2=>?_⟩
 ·rw [← e0,← w0]
  by_cases c:k=a
  ·subst c;exact hL.rf _
  ·exact w5 k (by omega) h2
 ·rw [← e0,← w0];exact w6 k (by omega) h2
end
section
variable {xb:Nat} {α:Type} [Inhabited α] {enc:α→HV} {lt:α→α→Prop} {dom:α→Prop} {H:Heap} {db n:Nat} {cap:Option Nat}
theorem Da {a:Nat} {l:List α}:QN lt a (a+1) l:=fun p q h1 h2 h3=>by omega
theorem Sz (hL:Lin lt) {a i:Nat} {l:List α} (h:QN lt a i l) (hc:¬lt (at_ l i) (at_ l (i-1))):QN lt a (i+1) l:=fun p q h1 h2 h3=>by
 by_cases e:q=i
 ·subst e
  by_cases e2:p=q-1
  ·rw [e2];exact hc
  ·exact hL.tr _ _ _ (h p (q-1) h1 (by omega) (by omega)) hc
 ·exact h p q h1 h2 (by omega)
theorem Qgm (S:So xb enc lt dom H db n) (hL:Lin lt) {T:Heap} (hT:mxs T=0) {a b k:Nat} (hb:b≤n) {l:List α} (hl:l.length=n) (hD:Dm dom l):∀(d i:Nat),b-i≤d→a<i→i≤b→QN lt a i l →
  ∃i':Nat,RT polSo 104 (sn 3728 QC) (Wq (.sl db 0 n cap n 1) (.i (a:Int)) (.i (b:Int)) (.func 69 [] [.q xb]) (.bool false) (.i (i:Int)) (.i (k:Int)) Ud Ud) (Mm enc H db l T) (.exit 2) (Wq (.sl db 0 n cap n 1) (.i (a:Int)) (.i (b:Int)) (.func 69 [] [.q xb]) (.bool false) (.i (i':Int)) (.i (k:Int)) Ud Ud) (Mm enc H db l T)∧(a<i'∧i'≤b)∧QN lt a i' l∧(i'<b→lt (at_ l i') (at_ l (i'-1))):=by
 have hn:=S.nb
 intro d
 induction d with
 | zero =>
  intro i hd ha hi hS
  exact ⟨i,lpo (Qej (xb:=xb) 0 db n cap (Mm enc H db l T) 0 a b i k (by omega)),by omega,hS,fun h=>by omega⟩
 | succ d ih =>
  intro i hd ha hi hS
  by_cases c0:i<b
  ·by_cases c:lt (at_ l i) (at_ l (i-1))
   ·obtain ⟨cc,N,hN,hc⟩:=S.ct (T:=T) hl hT (hD.at (i:=i) (by omega)) (hD.at (i:=i-1) (by omega)) c
    have st:=QlG (xb:=xb) N db n cap (Mm enc H db l T) 0 a b i k (y11:=Ud) (y12:=Ud) (by omega) (ixs (i:=i) rfl (by omega)) (S.ld l T _ hl (by omega)) (ixs (i:=i-1) (QQ (by omega) (by omega)) (by omega)) (S.ld l T _ hl (by omega)) hN hc
    exact ⟨i,lpo (st),by omega,hS,fun _=>c⟩
   ·obtain ⟨cc,N,hN,hc⟩:=S.cf (T:=T) hl hT (hD.at (i:=i) (by omega)) (hD.at (i:=i-1) (by omega)) c
    have st:=QlH (xb:=xb) N db n cap (Mm enc H db l T) 0 a b i k (y11:=Ud) (y12:=Ud) (by omega) (ixs (i:=i) rfl (by omega)) (S.ld l T _ hl (by omega)) (ixs (i:=i-1) (QQ (by omega) (by omega)) (by omega)) (S.ld l T _ hl (by omega)) hN hc
    rw [Qj (by omega)] at st
    obtain ⟨i',r,q⟩:=ih (i+1) (by omega) (by omega) (by omega) (Sz hL hS c)
    exact ⟨i',lop (st) (gcM _ _ _ _ _ rfl) (r),q⟩
  ·exact ⟨i,lpo (Qej (xb:=xb) 0 db n cap (Mm enc H db l T) 0 a b i k (by omega)),by omega,hS,fun h=>by omega⟩
def Flo (lt:α→α→Prop) (a b:Nat) (l:List α):Prop:=0<a→∀k,a≤k→k<b→¬lt (at_ l k) (at_ l (a-1))
theorem Flo.sw {a b:Nat} {l l':List α} (h:Flo lt a b l) (hb:b≤l.length) (hs:Sw a b l l'):Flo lt a b l':=fun h0=>by
 rw [hs.out hb (k:=a-1) (by omega)]
 exact hs.all hb (Q:=fun x=>¬lt x (at_ l (a-1))) (qB _) (qB _) (h h0)
theorem Qgn (S:So xb enc lt dom H db n) (hL:Lin lt) {T:Heap} (hT:mxs T=0) {a b i k:Nat} (hi:i<b) (hb:b≤n):∀(j:Nat) (l:List α),l.length=n→j<i→a≤j→Dm dom l→Flo lt a b l→Sv lt a i j l →
  ∃y l',RT polSo 104 (sn 477674 QC) (Wq (.sl db 0 n cap n 1) (.i (a:Int)) (.i (b:Int)) (.func 69 [] [.q xb]) (.bool false) (.i (i:Int)) (.i (k:Int)) (.i (j:Int)) Ud) (Mm enc H db l T) (.exit 4) (Wq (.sl db 0 n cap n 1) (.i (a:Int)) (.i (b:Int)) (.func 69 [] [.q xb]) (.bool false) (.i (i:Int)) (.i (k:Int)) y Ud) (Mm enc H db l' T)∧Sw a i l l'∧QN lt a i l':=by
 have hn:=S.nb
 intro j
 induction j with
 | zero =>
  intro l hl hj ha hD hF hS
  exact ⟨_,l,lpo (QlS (xb:=xb) 0 db n cap (Mm enc H db l T) 0 a b i k 0 (by omega)),.refl,JK hL hS (.inl (Nat.zero_le _))⟩
 | succ j ih =>
  intro l hl hj ha hD hF hS
  have hw:qA.wrap (((j+1:Nat):Int)-1)=((j:Nat):Int):=QQ (j:=j+1) (by omega) (by omega)
  by_cases c2:lt (at_ l (j+1)) (at_ l j)
  ·have ha':a<j+1:=by
    rcases qE a (j+1) with h | h
    ·exact h
    ·exfalso
     have e:a=j+1:=by omega
     have:=hF (by omega) (j+1) (by omega) (by omega)
     rw [show a-1=j by omega] at this
     exact this c2
   obtain ⟨cc,N,hN,hc⟩:=S.ct (T:=T) hl hT (hD.at (i:=j+1) (by omega)) (hD.at (i:=j) (by omega)) c2
   obtain ⟨s1,s2⟩:=S.st2 (T:=T) hl (i:=j+1) (j:=j) (by omega) (by omega)
   have sw:Sw a i l (swp l (j+1) j):=Sw.one (by omega) (by omega) (by omega) (by omega)
   have st:=QlQ (xb:=xb) N db n cap (Mm enc H db l T) 0 a b i k (j+1) (y12:=Ud) (by omega) (ixs (i:=j+1) rfl (by omega)) (S.ld l T _ hl (by omega)) (ixs hw (by omega)) (S.ld l T _ hl (by omega)) hN hc
    (ixs hw (by omega)) (S.ld l T _ hl (by omega)) (ixs (i:=j+1) rfl (by omega)) (S.ld l T _ hl (by omega)) (ixs (i:=j+1) rfl (by omega)) s1 (ixs hw (by omega)) s2
   rw [hw] at st
   obtain ⟨y,l',r,q1,q2⟩:=ih (swp l (j+1) j) (by rw [swp_len];exact hl) (by omega) (by omega) (hD.sw sw (by omega)) (hF.sw (by omega) (sw.mono (qB _) (by omega))) (Yl hL (j:=j+1) (by omega) (by omega) ha' hS c2)
   exact ⟨y,l',lop (st) (gcM _ _ _ _ _ rfl) (r),sw.trans q1,q2⟩
  ·obtain ⟨cc,N,hN,hc⟩:=S.cf (T:=T) hl hT (hD.at (i:=j+1) (by omega)) (hD.at (i:=j) (by omega)) c2
   have st:=QlR (xb:=xb) N db n cap (Mm enc H db l T) 0 a b i k (j+1) (y12:=Ud) (by omega) (ixs (i:=j+1) rfl (by omega)) (S.ld l T _ hl (by omega)) (ixs hw (by omega)) (S.ld l T _ hl (by omega)) hN hc
   exact ⟨_,l,lpo (st),.refl,JK hL hS (.inr c2)⟩
theorem Qel (S:So xb enc lt dom H db n) {T:Heap} (hT:mxs T=0) {a b i k:Nat} (hb:b≤n):∀(d w:Nat) (l:List α),b-w≤d→l.length=n→i<w→Dm dom l →
  ∃y l',RT polSo 104 (sn 477690 QC) (Wq (.sl db 0 n cap n 1) (.i (a:Int)) (.i (b:Int)) (.func 69 [] [.q xb]) (.bool false) (.i (i:Int)) (.i (k:Int)) Ud (.i (w:Int))) (Mm enc H db l T) (.exit 6) (Wq (.sl db 0 n cap n 1) (.i (a:Int)) (.i (b:Int)) (.func 69 [] [.q xb]) (.bool false) (.i (i:Int)) (.i (k:Int)) Ud y) (Mm enc H db l' T)∧Sw i b l l':=by
 have hn:=S.nb
 intro d
 induction d with
 | zero =>
  intro w l hd hl hw hD
  exact ⟨_,l,lpo (Qek (xb:=xb) 0 db n cap (Mm enc H db l T) 0 a b i k w (by omega)),.refl⟩
 | succ d ih =>
  intro w l hd hl hi hD
  by_cases c0:w<b
  ·have hw:qA.wrap ((w:Int)-1)=((w-1:Nat):Int):=QQ (by omega) (by omega)
   by_cases c:lt (at_ l w) (at_ l (w-1))
   ·obtain ⟨cc,N,hN,hc⟩:=S.ct (T:=T) hl hT (hD.at (i:=w) (by omega)) (hD.at (i:=w-1) (by omega)) c
    obtain ⟨s1,s2⟩:=S.st2 (T:=T) hl (i:=w) (j:=w-1) (by omega) (by omega)
    have sw:Sw i b l (swp l w (w-1)):=Sw.one (by omega) (by omega) (by omega) (by omega)
    have st:=QlW (xb:=xb) N db n cap (Mm enc H db l T) 0 a b i k w (y11:=Ud) (by omega) (ixs (i:=w) rfl (by omega)) (S.ld l T _ hl (by omega)) (ixs hw (by omega)) (S.ld l T _ hl (by omega)) hN hc
     (ixs hw (by omega)) (S.ld l T _ hl (by omega)) (ixs (i:=w) rfl (by omega)) (S.ld l T _ hl (by omega)) (ixs (i:=w) rfl (by omega)) s1 (ixs hw (by omega)) s2
    rw [Qj (by omega)] at st
    obtain ⟨y,l',r,q1⟩:=ih (w+1) (swp l w (w-1)) (by omega) (by rw [swp_len];exact hl) (by omega) (hD.sw sw (by omega))
    exact ⟨y,l',lop (st) (gcM _ _ _ _ _ rfl) (r),sw.trans q1⟩
   ·obtain ⟨cc,N,hN,hc⟩:=S.cf (T:=T) hl hT (hD.at (i:=w) (by omega)) (hD.at (i:=w-1) (by omega)) c
    have st:=QlX (xb:=xb) N db n cap (Mm enc H db l T) 0 a b i k w (y11:=Ud) (by omega) (ixs (i:=w) rfl (by omega)) (S.ld l T _ hl (by omega)) (ixs hw (by omega)) (S.ld l T _ hl (by omega)) hN hc
    exact ⟨_,l,lpo (st),.refl⟩
  ·exact ⟨_,l,lpo (Qek (xb:=xb) 0 db n cap (Mm enc H db l T) 0 a b i k w (by omega)),.refl⟩
theorem Qsr (S:So xb enc lt dom H db n) (hL:Lin lt) {T:Heap} (hT:mxs T=0) {a b i k:Nat} (hai:a<i) (hi:i<b) (hb:b≤n) {l:List α} (hl:l.length=n) (hD:Dm dom l) (hF:Flo lt a b l) (hS:QN lt a (i-1) l) :
  ∃y l',RT polSo 104 (sn 29854 QC) (Wq (.sl db 0 n cap n 1) (.i (a:Int)) (.i (b:Int)) (.func 69 [] [.q xb]) (.bool false) (.i (i:Int)) (.i (k:Int)) Ud Ud) (Mm enc H db l T) .normal (Wq (.sl db 0 n cap n 1) (.i (a:Int)) (.i (b:Int)) (.func 69 [] [.q xb]) (.bool false) (.i (i:Int)) (.i (k:Int)) y Ud) (Mm enc H db l' T)∧Sw a i l l'∧QN lt a i l':=by
 have hn:=S.nb
 have hw:qA.wrap ((i:Int)-(a:Int))=((i-a:Nat):Int):=(by rw [Qs (by omega) (by omega)];omega)
 by_cases c:2≤i-a
 ·have t0:=QlN (xb:=xb) 0 db n cap (Mm enc H db l T) 0 a b i k (y11:=Ud) (y12:=Ud) (by rw [hw];omega)
  have t1:=QlP (xb:=xb) 0 db n cap (Mm enc H db l T) 0 a b i k (y11:=Ud) (y12:=Ud)
  rw [QQ (by omega) (by omega)] at t1
  have hk:Sv lt a i (i-1) l:=by
   have:=Xw (i:=i-1) hS
   rwa [show i-1+1=i by omega] at this
  obtain ⟨y,l',r,q1,q2⟩:=Qgn S hL (cap:=cap) (k:=k) hT hi hb (i-1) l hl (by omega) (by omega) hD hF hk
  exact ⟨y,l',sq (t0) (RunsTo.cond (y:=.tmp 65) (t:=true) (c:=sn 59709 QC) (a:=sn 119418 QC) (b:=sn 119419 QC) (by kernel_rfl) rfl (sq (t1) (bke (c:=sn 238837 QC) (r)) (c:=sn 119418 QC))) (c:=sn 29854 QC),q1,q2⟩
 ·have t0:=QlO (xb:=xb) 0 db n cap (Mm enc H db l T) 0 a b i k (y11:=Ud) (y12:=Ud) (by rw [hw];omega)
  refine ⟨_,l,sq (t0) (RunsTo.cond (y:=.tmp 65) (t:=false) (c:=sn 59709 QC) (a:=sn 119418 QC) (b:=sn 119419 QC) (by kernel_rfl) rfl (RunsTo.skip (E:=(Wq (.sl db 0 n cap n 1) (.i (a:Int)) (.i (b:Int)) (.func 69 [] [.q xb]) (.bool false) (.i (i:Int)) (.i (k:Int)) Ud Ud)) (by kernel_rfl) (by kernel_rfl))) (c:=sn 29854 QC),.refl,?_⟩
  rw [show i=a+1 by omega];exact Da
theorem Qss (S:So xb enc lt dom H db n) {T:Heap} (hT:mxs T=0) {a b i k:Nat} {y0:HV} (hi:i<b) (hb:b≤n) {l:List α} (hl:l.length=n) (hD:Dm dom l) :
  ∃y y' l',RT polSo 104 (sn 29855 QC) (Wq (.sl db 0 n cap n 1) (.i (a:Int)) (.i (b:Int)) (.func 69 [] [.q xb]) (.bool false) (.i (i:Int)) (.i (k:Int)) y0 Ud) (Mm enc H db l T) .normal (Wq (.sl db 0 n cap n 1) (.i (a:Int)) (.i (b:Int)) (.func 69 [] [.q xb]) (.bool false) (.i (i:Int)) (.i (k:Int)) y y') (Mm enc H db l' T)∧Sw i b l l':=by
 have hn:=S.nb
 have hw:qA.wrap ((b:Int)-(i:Int))=((b-i:Nat):Int):=(by rw [Qs (by omega) (by omega)];omega)
 by_cases c:2≤b-i
 ·have t0:=QlT (xb:=xb) 0 db n cap (Mm enc H db l T) 0 a b i k (y11:=y0) (y12:=Ud) (by rw [hw];omega)
  have t1:=QlV (xb:=xb) 0 db n cap (Mm enc H db l T) 0 a b i k (y11:=y0) (y12:=Ud)
  rw [Qj (by omega)] at t1
  obtain ⟨y,l',r,q1⟩:=Qel S (cap:=cap) (a:=a) (i:=i) (k:=k) hT hb _ (i+1) l (qB _) hl (by omega) hD
  have r':=lpi (e0:=(Wq (.sl db 0 n cap n 1) (.i (a:Int)) (.i (b:Int)) (.func 69 [] [.q xb]) (.bool false) (.i (i:Int)) (.i (k:Int)) y0 (.i ((i+1:Nat):Int)))) r (b:=sn 955380 QC)
  exact ⟨_,y,l',sq (t0) (RunsTo.cond (y:=.tmp 104) (t:=true) (c:=sn 59711 QC) (a:=sn 119422 QC) (b:=sn 119423 QC) (by kernel_rfl) rfl (sq (t1) (bke (c:=sn 238845 QC) (r')) (c:=sn 119422 QC))) (c:=sn 29855 QC),q1⟩
 ·have t0:=QlU (xb:=xb) 0 db n cap (Mm enc H db l T) 0 a b i k (y11:=y0) (y12:=Ud) (by rw [hw];omega)
  exact ⟨_,_,l,sq (t0) (RunsTo.cond (y:=.tmp 104) (t:=false) (c:=sn 59711 QC) (a:=sn 119422 QC) (b:=sn 119423 QC) (by kernel_rfl) rfl (RunsTo.skip (E:=(Wq (.sl db 0 n cap n 1) (.i (a:Int)) (.i (b:Int)) (.func 69 [] [.q xb]) (.bool false) (.i (i:Int)) (.i (k:Int)) y0 Ud)) (by kernel_rfl) (by kernel_rfl))) (c:=sn 29855 QC),.refl⟩
theorem Qgo (S:So xb enc lt dom H db n) (hL:Lin lt) {T:Heap} (hT:mxs T=0) {a b:Nat} (hb:b≤n):∀(d k i:Nat) (l:List α),k+d=5→a<i→i≤b→l.length=n→Dm dom l→Flo lt a b l→QN lt a i l →
  ∃x E l',RT polSo 104 (sn 58 QC) (Wq (.sl db 0 n cap n 1) (.i (a:Int)) (.i (b:Int)) (.func 69 [] [.q xb]) (.bool false) (.i (i:Int)) (.i (k:Int)) Ud Ud) (Mm enc H db l T) x E (Mm enc H db l' T)∧Sw a b l l'∧((x=.exit 0∧∃y5 y6:Nat,E=(Wq (.sl db 0 n cap n 1) (.i (a:Int)) (.i (b:Int)) (.func 69 [] [.q xb]) (.bool false) (.i (y5:Int)) (.i (y6:Int)) Ud Ud))∨(x=.ret∧∃bb,Qf Tp Try.f104 E (Mm enc H db l' T)=some (.bool bb)∧(bb=true→QN lt a b l'))):=by
 have hn:=S.nb
 intro d
 induction d with
 | zero =>
  intro k i l hk ha hi hl hD hF hS
  exact ⟨_,_,l,lpo (sqo (QlF (xb:=xb) 0 db n cap (Mm enc H db l T) 0 a b i k (by omega) (y11:=Ud) (y12:=Ud)) (c:=sn 116 QC) (b:=sn 233 QC)),.refl,.inl ⟨rfl,_,_,rfl⟩⟩
 | succ d ih =>
  intro k i l hk ha hi hl hD hF hS
  have t0:=QlE (xb:=xb) 0 db n cap (Mm enc H db l T) 0 a b i k (by omega) (y11:=Ud) (y12:=Ud)
  obtain ⟨i',r,q1,q2,q3⟩:=Qgm S hL (cap:=cap) (k:=k) hT hb hl hD _ i (qB _) ha hi hS
  by_cases c:i'=b
  ·have t1:=QlI (xb:=xb) 0 db n cap (Mm enc H db l T) 0 a b i' k (by omega) (y11:=Ud) (y12:=Ud)
   have st:=sq (t0) (sqo (RunsTo.block_ret (i:=1) (c:=sn 466 QC) (sq (bke (c:=sn 1864 QC) (r)) (sqo (t1) (c:=sn 1865 QC) (b:=sn 3731 QC)) (c:=sn 932 QC)) (by kernel_rfl)) (c:=sn 233 QC) (b:=sn 467 QC)) (c:=sn 116 QC)
   exact ⟨_,_,l,lpo (st),.refl,.inr ⟨rfl,true,by kernel_rfl,fun _=>c▸q2⟩⟩
  ·have t1:=QlJ (xb:=xb) 0 db n cap (Mm enc H db l T) 0 a b i' k (by omega) (y11:=Ud) (y12:=Ud)
   have hw:qA.wrap ((b:Int)-(a:Int))=((b-a:Nat):Int):=(by rw [Qs (by omega) (by omega)];omega)
   by_cases c2:b-a<50
   ·have t2:=QlK (xb:=xb) 0 db n cap (Mm enc H db l T) 0 a b i' k (by rw [hw];omega) (y11:=Ud) (y12:=Ud)
    have st:=sq (t0) (sqo (RunsTo.block_ret (i:=1) (c:=sn 466 QC) (sq (bke (c:=sn 1864 QC) (r)) (sq (t1) (sqo (t2) (c:=sn 3731 QC) (b:=sn 7463 QC)) (c:=sn 1865 QC)) (c:=sn 932 QC)) (by kernel_rfl)) (c:=sn 233 QC) (b:=sn 467 QC)) (c:=sn 116 QC)
    exact ⟨_,_,l,lpo (st),.refl,.inr ⟨rfl,false,by kernel_rfl,fun h=>by cases h⟩⟩
   ·have t2:=QlL (xb:=xb) 0 db n cap (Mm enc H db l T) 0 a b i' k (by rw [hw];omega) (y11:=Ud) (y12:=Ud)
    have hp:qA.wrap ((i':Int)-1)=((i'-1:Nat):Int):=QQ (by omega) (by omega)
    obtain ⟨s1,s2⟩:=S.st2 (T:=T) hl (i:=i') (j:=i'-1) (by omega) (by omega)
    have t3:=QlM (xb:=xb) 0 db n cap (Mm enc H db l T) 0 a b i' k (y11:=Ud) (y12:=Ud) (ixs hp (by omega)) (S.ld l T _ hl (by omega)) (ixs (i:=i') rfl (by omega)) (S.ld l T _ hl (by omega)) (ixs (i:=i') rfl (by omega)) s1 (ixs hp (by omega)) s2
    have sw:Sw a b l (swp l i' (i'-1)):=Sw.one (by omega) (by omega) (by omega) (by omega)
    have hS1:QN lt a (i'-1) (swp l i' (i'-1)):=fun p q h1 h2 h3=>by
     rw [U9 (by omega) (by omega) (by omega) (by omega),U9 (by omega) (by omega) (by omega) (by omega)]
     exact q2 p q h1 h2 (by omega)
    have hl1:=WK sw hl
    have hD1:=hD.sw sw (by omega)
    have hF1:=hF.sw (by omega) sw
    generalize swp l i' (i'-1)=l1 at t3 sw hS1 hl1 hD1 hF1 s2
    obtain ⟨y,l2,r2,w1,w2⟩:=Qsr S hL (cap:=cap) (k:=k) hT q1.1 (by omega) hb hl1 hD1 hF1 hS1
    have hl2:=WK w1 hl1
    have hD2:=hD1.sw w1 (by omega)
    have hF2:=hF1.sw (by omega) (w1.mono (qB _) (by omega))
    obtain ⟨y',y2,l3,r3,w3⟩:=Qss S (cap:=cap) (a:=a) (k:=k) (y0:=y) hT (i:=i') (by omega) hb hl2 hD2
    have hl3:=WK w3 hl2
    have sw3:Sw a b l2 l3:=w3.mono (by omega) (qB _)
    have hS3:QN lt a i' l3:=fun p q h1 h2 h3=>by
     rw [w3.out (by omega) (k:=q) (by omega),w3.out (by omega) (k:=p) (by omega)]
     exact w2 p q h1 h2 h3
    have t6:=QlY (xb:=xb) 0 db n cap (Mm enc H db l3 T) 0 a b i' k (y11:=y') (y12:=y2)
    rw [Qj (by omega)] at t6
    have st:=sq (t0) (sq (RunsTo.block_normal (i:=1) (c:=sn 466 QC) (sq (bke (c:=sn 1864 QC) (r)) (sq (t1) (sq (t2) (sq (t3) (sq (r2) (r3) (c:=sn 14927 QC)) (c:=sn 7463 QC)) (c:=sn 3731 QC)) (c:=sn 1865 QC)) (c:=sn 932 QC)) (by kernel_rfl)) (t6) (c:=sn 233 QC)) (c:=sn 116 QC)
    obtain ⟨x,E,l',rr,z1,z2⟩:=ih (k+1) i' l3 (by omega) q1.1 q1.2 hl3 (hD2.sw w3 (by omega)) (hF2.sw (by omega) sw3) hS3
    exact ⟨x,E,l',lop (st) (gcM _ _ _ _ _ rfl) (rr),sw.trans ((w1.mono (qB _) (by omega)).trans (sw3.trans z1)),z2⟩
theorem Ql1 (S:So xb enc lt dom H db n) (hL:Lin lt) {T:Heap} (hT:mxs T=0) {a b:Nat} (hab:a<b) (hb:b≤n) {l:List α} (hl:l.length=n) (hD:Dm dom l) (hF:Flo lt a b l) :
  ∃bb l',ClS 104 [.sl db 0 n cap n 1,.int .i64 (a:Int),.int .i64 (b:Int),.func 69 [] [.ptr xb 0 0 1]] (Mm enc H db l T) (.bool bb) (Mm enc H db l' T)∧Sw a b l l'∧(bb=true→QN lt a b l'):=by
 have hn:=S.nb
 have t0:=QlB (xb:=xb) 0 db n cap (Mm enc H db l T) 0 a b
 have t1:=QlC (xb:=xb) 0 db n cap (Mm enc H db l T) 0 a b (y9:=Ud) (y10:=Ud) (y11:=Ud) (y12:=Ud)
 rw [Qj (by omega)] at t1
 have t2:=QlD (xb:=xb) 0 db n cap (Mm enc H db l T) 0 a b (a+1) (y10:=Ud) (y11:=Ud) (y12:=Ud)
 obtain ⟨x,E,l',r,q1,q2⟩:=Qgo S hL (cap:=cap) hT hb 5 0 (a+1) l rfl (by omega) (by omega) hl hD hF Da
 rcases q2 with ⟨rfl,y5,y6,rfl⟩ | ⟨rfl,bb,hv,hs⟩
 ·have z:=QlZ (xb:=xb) 0 db n cap (Mm enc H db l' T) 0 a b y5 y6 (y11:=Ud) (y12:=Ud)
  have t:=sq (t0) (sq (t1) (sq (sq (t2) (bke (c:=sn 29 QC) (r)) (c:=sn 14 QC)) (z) (c:=sn 7 QC)) (c:=sn 3 QC)) (c:=QC)
  have hc:=CallsTo.shared (P:=Tp) (pol:=polSo) (g:=104) (fn:=Try.f104) (cd:=QC) (args:=[.sl db 0 n cap n 1,.int .i64 (a:Int),.int .i64 (b:Int),.func 69 [] [.ptr xb 0 0 1]]) (v:=.bool false) (by kernel_rfl) (by kernel_rfl) (by kernel_rfl) (by kernel_rfl) t (by kernel_rfl) (by simp) (by kernel_rfl)
  rw [gcM _ _ _ _ _ rfl] at hc
  exact ⟨false,l',hc,q1,fun h=>by cases h⟩
 ·have t:=sq (t0) (sq (t1) (sqo (sq (t2) (RunsTo.block_ret (i:=0) (c:=sn 29 QC) (r) (by kernel_rfl)) (c:=sn 14 QC)) (c:=sn 7 QC) (b:=sn 15 QC)) (c:=sn 3 QC)) (c:=QC)
  have hc:=CallsTo.shared (P:=Tp) (pol:=polSo) (g:=104) (fn:=Try.f104) (cd:=QC) (args:=[.sl db 0 n cap n 1,.int .i64 (a:Int),.int .i64 (b:Int),.func 69 [] [.ptr xb 0 0 1]]) (by kernel_rfl) (by kernel_rfl) (by kernel_rfl) (by kernel_rfl) t (by kernel_rfl) (by simp) hv
  rw [gcM _ _ _ _ _ rfl] at hc
  exact ⟨bb,l',hc,q1,hs⟩
end
end Go.Proofs.Ytiejmoglooaalaa
end
section
open Go Go.HL
namespace Go.Proofs.Ytiejmoglooaalaa
set_option maxRecDepth 100000
set_option linter.unusedSectionVars false
open Go.Proofs.Try renaming prog → Tp
open Go.HL.HV renaming undef → Ud
section
variable {xb:Nat}
noncomputable def Qgp:Code:=Try.f112.body.getD .skip
abbrev Qem (v0 v1 v2 v3 v4 v10 v11:HV):Env:=[(0,v0),(1,v1),(2,v2),(3,v3),(4,v4),(10,v10),(11,v11)]
theorem Ql2 (N:Nat) (db n:Nat) (cap:Option Nat) (H:Heap) (x:Nat) (a:Nat) (b:Nat) {a0:HV} {v0:HV} {a1:HV} {v1:HV} {c0:Int} {H0:Heap} {x0:Int} {H1:Heap} (g0:IX 24 (.c db n cap) (.n b) (a0)) (g1:LD H 3 (a0) (v0)) (g2:IX 24 (.c db n cap) (.n a) (a1)) (g3:LD H 3 (a1) (v1)) (g4:∀kf,N≤kf→Qb Tp polSo (kf+1) 69 [v0,v1,.q xb] H=some (.i c0,H0)) (g5:c0<0) (g6:LD H0 3 (.q x) (.i x0)) (g7:ST H0 3 (.q x) (.i (qA.wrap (x0+1))) H1): RT polSo 112 (sub [] Qgp) [(0,.c db n cap),(1,.n a),(2,.n b),(3,.q x),(4,.func 69 [] [.q xb])] H .ret (Qem (.c db n cap) (.n a) (.n b) (.q x) (.func 69 [] [.q xb]) (.n b) (.n a)) H1 :=
 hx N 60 [jO 1 3 H g0,jO 1 4 H g1,jO 1 7 H g2,jO 1 8 H g3,jC 1 9 g4,jT 1 10 H0 g5,jO 2 2 H0 g6,jS 2 5 g7]
theorem Ql3 (N:Nat) (db n:Nat) (cap:Option Nat) (H:Heap) (x:Nat) (a:Nat) (b:Nat) {a0:HV} {v0:HV} {a1:HV} {v1:HV} {c0:Int} {H0:Heap} (g0:IX 24 (.c db n cap) (.n b) (a0)) (g1:LD H 3 (a0) (v0)) (g2:IX 24 (.c db n cap) (.n a) (a1)) (g3:LD H 3 (a1) (v1)) (g4:∀kf,N≤kf→Qb Tp polSo (kf+1) 69 [v0,v1,.q xb] H=some (.i c0,H0)) (g5:¬(c0<0)): RT polSo 112 (sub [] Qgp) [(0,.c db n cap),(1,.n a),(2,.n b),(3,.q x),(4,.func 69 [] [.q xb])] H .ret (Qem (.c db n cap) (.n a) (.n b) (.q x) (.func 69 [] [.q xb]) (.n a) (.n b)) H0 :=
 hx N 60 [jO 1 3 H g0,jO 1 4 H g1,jO 1 7 H g2,jO 1 8 H g3,jC 1 9 g4,jF 1 10 H0 g5]
noncomputable def QrJ:Code:=Try.f111.body.getD .skip
abbrev Ql4 (v0 v1 v2 v3 v4 v5 v12:HV):Env:=[(0,v0),(1,v1),(2,v2),(3,v3),(4,v4),(5,v5),(12,v12)]
theorem Ql5 (N:Nat) (db n:Nat) (cap:Option Nat) (H:Heap) (x:Nat) (a:Nat) (b:Nat) (q:Nat) {p0:Int} {p1:Int} {H0:Heap} {p2:Int} {p3:Int} {H1:Heap} {p4:Int} {p5:Int} {H2:Heap} (g0:∀kf,N≤kf→Qb Tp polSo (kf+1) 112 [.c db n cap,.n a,.n b,.q x,.func 69 [] [.q xb]] H=some (.tuple [.i p0,.i p1],H0)) (g1:∀kf,N≤kf→Qb Tp polSo (kf+1) 112 [.c db n cap,.i p1,.n q,.q x,.func 69 [] [.q xb]] H0=some (.tuple [.i p2,.i p3],H1)) (g2:∀kf,N≤kf→Qb Tp polSo (kf+1) 112 [.c db n cap,.i p0,.i p2,.q x,.func 69 [] [.q xb]] H1=some (.tuple [.i p4,.i p5],H2)): RT polSo 111 (sub [] QrJ) [(0,.c db n cap),(1,.n a),(2,.n b),(3,.n q),(4,.q x),(5,.func 69 [] [.q xb])] H .ret (Ql4 (.c db n cap) (.i p4) (.i p5) (.i p3) (.q x) (.func 69 [] [.q xb]) (.i p5)) H2 :=
 hx N 60 [jC 1 5 g0,jC 2 5 g1,jC 3 5 g2]
noncomputable def QrK:Code:=Try.f110.body.getD .skip
abbrev Ql6 (v0 v1 v2 v3 v8:HV):Env:=[(0,v0),(1,v1),(2,v2),(3,v3),(8,v8)]
theorem Ql7 (N:Nat) (db n:Nat) (cap:Option Nat) (H:Heap) (x:Nat) (a:Nat) {p0:Int} {H0:Heap} (g0:∀kf,N≤kf→Qb Tp polSo (kf+1) 111 [.c db n cap,.i (qA.wrap ((a:Int)-1)),.n a,.i (qA.wrap ((a:Int)+1)),.q x,.func 69 [] [.q xb]] H=some (.i p0,H0)): RT polSo 110 (sub [] QrK) [(0,.c db n cap),(1,.n a),(2,.q x),(3,.func 69 [] [.q xb])] H .ret (Ql6 (.c db n cap) (.n a) (.q x) (.func 69 [] [.q xb]) (.i p0)) H0 :=
 hx N 60 [jC 1 8 g0]
noncomputable def SA:Code:=Try.f102.body.getD .skip
abbrev Yn (v0 v1 v2 v3 v8 v9 v10 v11 v12 v13 v14 v55:HV):Env:=[(0,v0),(1,v1),(2,v2),(3,v3),(8,v8),(9,v9),(10,v10),(11,v11),(12,v12),(13,v13),(14,v14),(55,v55)]
end
section
variable {xb:Nat}
variable (N:Nat) (db n:Nat) (cap:Option Nat) (H:Heap) (x:Nat) (a:Nat) (b:Nat)
include N db n cap H x a b
theorem Ql8 {H0:Heap} {p0:Int} {H1:Heap} {p1:Int} {H2:Heap} {p2:Int} {H3:Heap} {p3:Int} {H4:Heap} {x0:Int} (g0:some (Q8 (.i 0) H)=some (.q x,H0)) (g1:8≤qA.wrap ((b:Int)-(a:Int))) (g2:50≤qA.wrap ((b:Int)-(a:Int))) (g3:∀kf,N≤kf→Qb Tp polSo (kf+1) 110 [.c db n cap,.i (qA.wrap ((a:Int)+qA.wrap (qA.wrap ((qA.wrap ((b:Int)-(a:Int)):Int).tdiv 4)*1))),.q x,.func 69 [] [.q xb]] H0=some (.i p0,H1)) (g4:∀kf,N≤kf→Qb Tp polSo (kf+1) 110 [.c db n cap,.i (qA.wrap ((a:Int)+qA.wrap (qA.wrap ((qA.wrap ((b:Int)-(a:Int)):Int).tdiv 4)*2))),.q x,.func 69 [] [.q xb]] H1=some (.i p1,H2)) (g5:∀kf,N≤kf→Qb Tp polSo (kf+1) 110 [.c db n cap,.i (qA.wrap ((a:Int)+qA.wrap (qA.wrap ((qA.wrap ((b:Int)-(a:Int)):Int).tdiv 4)*3))),.q x,.func 69 [] [.q xb]] H2=some (.i p2,H3)) (g6:∀kf,N≤kf→Qb Tp polSo (kf+1) 111 [.c db n cap,.i p0,.i p1,.i p2,.q x,.func 69 [] [.q xb]] H3=some (.i p3,H4)) (g7:LD H4 3 (.q x) (.i x0)) (g8:x0=0): RT polSo 102 (sub [] SA) [(0,.c db n cap),(1,.n a),(2,.n b),(3,.func 69 [] [.q xb])] H .ret (Yn (.c db n cap) (.n a) (.n b) (.func 69 [] [.q xb]) (.i p3) (.i 1) (.i (qA.wrap ((b:Int)-(a:Int)))) (.q x) (.i p0) (.i p3) (.i p2) (.i x0)) H4 :=
 hx N 60 [jR 2 0 g0,jT 6 1 H0 g1,jT 7 1 H0 g2,jC 8 3 g3,jC 9 3 g4,jC 10 3 g5,jC 11 5 g6,jO 12 0 H4 g7,jT 14 0 H4 g8]
theorem Ql9 {H0:Heap} {p0:Int} {H1:Heap} {p1:Int} {H2:Heap} {p2:Int} {H3:Heap} {p3:Int} {H4:Heap} {x0:Int} (g0:some (Q8 (.i 0) H)=some (.q x,H0)) (g1:8≤qA.wrap ((b:Int)-(a:Int))) (g2:50≤qA.wrap ((b:Int)-(a:Int))) (g3:∀kf,N≤kf→Qb Tp polSo (kf+1) 110 [.c db n cap,.i (qA.wrap ((a:Int)+qA.wrap (qA.wrap ((qA.wrap ((b:Int)-(a:Int)):Int).tdiv 4)*1))),.q x,.func 69 [] [.q xb]] H0=some (.i p0,H1)) (g4:∀kf,N≤kf→Qb Tp polSo (kf+1) 110 [.c db n cap,.i (qA.wrap ((a:Int)+qA.wrap (qA.wrap ((qA.wrap ((b:Int)-(a:Int)):Int).tdiv 4)*2))),.q x,.func 69 [] [.q xb]] H1=some (.i p1,H2)) (g5:∀kf,N≤kf→Qb Tp polSo (kf+1) 110 [.c db n cap,.i (qA.wrap ((a:Int)+qA.wrap (qA.wrap ((qA.wrap ((b:Int)-(a:Int)):Int).tdiv 4)*3))),.q x,.func 69 [] [.q xb]] H2=some (.i p2,H3)) (g6:∀kf,N≤kf→Qb Tp polSo (kf+1) 111 [.c db n cap,.i p0,.i p1,.i p2,.q x,.func 69 [] [.q xb]] H3=some (.i p3,H4)) (g7:LD H4 3 (.q x) (.i x0)) (g8:¬(x0=0)) (g9:x0=12): RT polSo 102 (sub [] SA) [(0,.c db n cap),(1,.n a),(2,.n b),(3,.func 69 [] [.q xb])] H .ret (Yn (.c db n cap) (.n a) (.n b) (.func 69 [] [.q xb]) (.i p3) (.i 2) (.i (qA.wrap ((b:Int)-(a:Int)))) (.q x) (.i p0) (.i p3) (.i p2) (.i x0)) H4 :=
 hx N 60 [jR 2 0 g0,jT 6 1 H0 g1,jT 7 1 H0 g2,jC 8 3 g3,jC 9 3 g4,jC 10 3 g5,jC 11 5 g6,jO 12 0 H4 g7,jF 14 0 H4 g8,jT 16 0 H4 g9]
theorem Qma {H0:Heap} {p0:Int} {H1:Heap} {p1:Int} {H2:Heap} {p2:Int} {H3:Heap} {p3:Int} {H4:Heap} {x0:Int} (g0:some (Q8 (.i 0) H)=some (.q x,H0)) (g1:8≤qA.wrap ((b:Int)-(a:Int))) (g2:50≤qA.wrap ((b:Int)-(a:Int))) (g3:∀kf,N≤kf→Qb Tp polSo (kf+1) 110 [.c db n cap,.i (qA.wrap ((a:Int)+qA.wrap (qA.wrap ((qA.wrap ((b:Int)-(a:Int)):Int).tdiv 4)*1))),.q x,.func 69 [] [.q xb]] H0=some (.i p0,H1)) (g4:∀kf,N≤kf→Qb Tp polSo (kf+1) 110 [.c db n cap,.i (qA.wrap ((a:Int)+qA.wrap (qA.wrap ((qA.wrap ((b:Int)-(a:Int)):Int).tdiv 4)*2))),.q x,.func 69 [] [.q xb]] H1=some (.i p1,H2)) (g5:∀kf,N≤kf→Qb Tp polSo (kf+1) 110 [.c db n cap,.i (qA.wrap ((a:Int)+qA.wrap (qA.wrap ((qA.wrap ((b:Int)-(a:Int)):Int).tdiv 4)*3))),.q x,.func 69 [] [.q xb]] H2=some (.i p2,H3)) (g6:∀kf,N≤kf→Qb Tp polSo (kf+1) 111 [.c db n cap,.i p0,.i p1,.i p2,.q x,.func 69 [] [.q xb]] H3=some (.i p3,H4)) (g7:LD H4 3 (.q x) (.i x0)) (g8:¬(x0=0)) (g9:¬(x0=12)): RT polSo 102 (sub [] SA) [(0,.c db n cap),(1,.n a),(2,.n b),(3,.func 69 [] [.q xb])] H .ret (Yn (.c db n cap) (.n a) (.n b) (.func 69 [] [.q xb]) (.i p3) (.i 0) (.i (qA.wrap ((b:Int)-(a:Int)))) (.q x) (.i p0) (.i p3) (.i p2) (.i x0)) H4 :=
 hx N 60 [jR 2 0 g0,jT 6 1 H0 g1,jT 7 1 H0 g2,jC 8 3 g3,jC 9 3 g4,jC 10 3 g5,jC 11 5 g6,jO 12 0 H4 g7,jF 14 0 H4 g8,jF 16 0 H4 g9]
theorem Qmb {H0:Heap} {p0:Int} {H1:Heap} {x0:Int} (g0:some (Q8 (.i 0) H)=some (.q x,H0)) (g1:8≤qA.wrap ((b:Int)-(a:Int))) (g2:¬(50≤qA.wrap ((b:Int)-(a:Int)))) (g3:∀kf,N≤kf→Qb Tp polSo (kf+1) 111 [.c db n cap,.i (qA.wrap ((a:Int)+qA.wrap (qA.wrap ((qA.wrap ((b:Int)-(a:Int)):Int).tdiv 4)*1))),.i (qA.wrap ((a:Int)+qA.wrap (qA.wrap ((qA.wrap ((b:Int)-(a:Int)):Int).tdiv 4)*2))),.i (qA.wrap ((a:Int)+qA.wrap (qA.wrap ((qA.wrap ((b:Int)-(a:Int)):Int).tdiv 4)*3))),.q x,.func 69 [] [.q xb]] H0=some (.i p0,H1)) (g4:LD H1 3 (.q x) (.i x0)) (g5:x0=0): RT polSo 102 (sub [] SA) [(0,.c db n cap),(1,.n a),(2,.n b),(3,.func 69 [] [.q xb])] H .ret (Yn (.c db n cap) (.n a) (.n b) (.func 69 [] [.q xb]) (.i p0) (.i 1) (.i (qA.wrap ((b:Int)-(a:Int)))) (.q x) (.i (qA.wrap ((a:Int)+qA.wrap (qA.wrap ((qA.wrap ((b:Int)-(a:Int)):Int).tdiv 4)*1)))) (.i p0) (.i (qA.wrap ((a:Int)+qA.wrap (qA.wrap ((qA.wrap ((b:Int)-(a:Int)):Int).tdiv 4)*3)))) (.i x0)) H1 :=
 hx N 60 [jR 2 0 g0,jT 6 1 H0 g1,jF 7 1 H0 g2,jC 11 5 g3,jO 12 0 H1 g4,jT 14 0 H1 g5]
theorem Qmc {H0:Heap} {p0:Int} {H1:Heap} {x0:Int} (g0:some (Q8 (.i 0) H)=some (.q x,H0)) (g1:8≤qA.wrap ((b:Int)-(a:Int))) (g2:¬(50≤qA.wrap ((b:Int)-(a:Int)))) (g3:∀kf,N≤kf→Qb Tp polSo (kf+1) 111 [.c db n cap,.i (qA.wrap ((a:Int)+qA.wrap (qA.wrap ((qA.wrap ((b:Int)-(a:Int)):Int).tdiv 4)*1))),.i (qA.wrap ((a:Int)+qA.wrap (qA.wrap ((qA.wrap ((b:Int)-(a:Int)):Int).tdiv 4)*2))),.i (qA.wrap ((a:Int)+qA.wrap (qA.wrap ((qA.wrap ((b:Int)-(a:Int)):Int).tdiv 4)*3))),.q x,.func 69 [] [.q xb]] H0=some (.i p0,H1)) (g4:LD H1 3 (.q x) (.i x0)) (g5:¬(x0=0)) (g6:x0=12): RT polSo 102 (sub [] SA) [(0,.c db n cap),(1,.n a),(2,.n b),(3,.func 69 [] [.q xb])] H .ret (Yn (.c db n cap) (.n a) (.n b) (.func 69 [] [.q xb]) (.i p0) (.i 2) (.i (qA.wrap ((b:Int)-(a:Int)))) (.q x) (.i (qA.wrap ((a:Int)+qA.wrap (qA.wrap ((qA.wrap ((b:Int)-(a:Int)):Int).tdiv 4)*1)))) (.i p0) (.i (qA.wrap ((a:Int)+qA.wrap (qA.wrap ((qA.wrap ((b:Int)-(a:Int)):Int).tdiv 4)*3)))) (.i x0)) H1 :=
 hx N 60 [jR 2 0 g0,jT 6 1 H0 g1,jF 7 1 H0 g2,jC 11 5 g3,jO 12 0 H1 g4,jF 14 0 H1 g5,jT 16 0 H1 g6]
theorem Qmd {H0:Heap} {p0:Int} {H1:Heap} {x0:Int} (g0:some (Q8 (.i 0) H)=some (.q x,H0)) (g1:8≤qA.wrap ((b:Int)-(a:Int))) (g2:¬(50≤qA.wrap ((b:Int)-(a:Int)))) (g3:∀kf,N≤kf→Qb Tp polSo (kf+1) 111 [.c db n cap,.i (qA.wrap ((a:Int)+qA.wrap (qA.wrap ((qA.wrap ((b:Int)-(a:Int)):Int).tdiv 4)*1))),.i (qA.wrap ((a:Int)+qA.wrap (qA.wrap ((qA.wrap ((b:Int)-(a:Int)):Int).tdiv 4)*2))),.i (qA.wrap ((a:Int)+qA.wrap (qA.wrap ((qA.wrap ((b:Int)-(a:Int)):Int).tdiv 4)*3))),.q x,.func 69 [] [.q xb]] H0=some (.i p0,H1)) (g4:LD H1 3 (.q x) (.i x0)) (g5:¬(x0=0)) (g6:¬(x0=12)): RT polSo 102 (sub [] SA) [(0,.c db n cap),(1,.n a),(2,.n b),(3,.func 69 [] [.q xb])] H .ret (Yn (.c db n cap) (.n a) (.n b) (.func 69 [] [.q xb]) (.i p0) (.i 0) (.i (qA.wrap ((b:Int)-(a:Int)))) (.q x) (.i (qA.wrap ((a:Int)+qA.wrap (qA.wrap ((qA.wrap ((b:Int)-(a:Int)):Int).tdiv 4)*1)))) (.i p0) (.i (qA.wrap ((a:Int)+qA.wrap (qA.wrap ((qA.wrap ((b:Int)-(a:Int)):Int).tdiv 4)*3)))) (.i x0)) H1 :=
 hx N 60 [jR 2 0 g0,jT 6 1 H0 g1,jF 7 1 H0 g2,jC 11 5 g3,jO 12 0 H1 g4,jF 14 0 H1 g5,jF 16 0 H1 g6]
end
section
variable {xb:Nat}
noncomputable def B96:Code:=Try.f96.body.getD .skip
abbrev QrL (v0 v2:HV):Env:=[(0,v0),(2,v2)]
theorem Qme (N:Nat) (db n:Nat) (cap:Option Nat) (H:Heap) (x:Nat) {x0:Int} {x1:Int} {h0:Int} {h1:Int} {H0:Heap} {x2:Int} {x3:Int} {h2:Int} {h3:Int} {H1:Heap} {x4:Int} {x5:Int} {h4:Int} {h5:Int} {H2:Heap} {x6:Int} (g0:LD H 123 (.q x) (.int .u64 x0)) (g1:LD H 123 (.q x) (.int .u64 x1)) (g2:BV .shl 123 (.int .u64 x1) (.int .u64 13) (.int .u64 h0)) (g3:BV .xor 123 (.int .u64 x0) (.int .u64 h0) (.int .u64 h1)) (g4:ST H 123 (.q x) (.int .u64 h1) H0) (g5:LD H0 123 (.q x) (.int .u64 x2)) (g6:LD H0 123 (.q x) (.int .u64 x3)) (g7:BV .shr 123 (.int .u64 x3) (.int .u64 7) (.int .u64 h2)) (g8:BV .xor 123 (.int .u64 x2) (.int .u64 h2) (.int .u64 h3)) (g9:ST H0 123 (.q x) (.int .u64 h3) H1) (g10:LD H1 123 (.q x) (.int .u64 x4)) (g11:LD H1 123 (.q x) (.int .u64 x5)) (g12:BV .shl 123 (.int .u64 x5) (.int .u64 17) (.int .u64 h4)) (g13:BV .xor 123 (.int .u64 x4) (.int .u64 h4) (.int .u64 h5)) (g14:ST H1 123 (.q x) (.int .u64 h5) H2) (g15:LD H2 123 (.q x) (.int .u64 x6)): RT polSo 96 (sub [] B96) [(0,.q x)] H .ret (QrL (.q x) (.int .u64 x6)) H2 :=
 hx N 60 [jO 1 2 H g0,jO 1 5 H g1,jO 1 6 H g2,jO 1 7 H g3,jS 1 9 g4,jO 2 2 H0 g5,jO 2 5 H0 g6,jO 2 6 H0 g7,jO 2 7 H0 g8,jS 2 9 g9,jO 3 2 H1 g10,jO 3 5 H1 g11,jO 3 6 H1 g12,jO 3 7 H1 g13,jS 3 9 g14,jO 4 2 H2 g15]
noncomputable def J8:Code:=Try.f101.body.getD .skip
abbrev J9 (v0 v1 v2 v8 v9 v10 v11 v12:HV):Env:=[(0,v0),(1,v1),(2,v2),(8,v8),(9,v9),(10,v10),(11,v11),(12,v12)]
end
abbrev Db (db:Nat) (n:Nat) (cap:Option Nat) (a:Nat) (b:Nat) (k:Nat) (x:Nat) (u5 u6 u7:HV):Env:=J9 (.c db n cap) (.n a) (.n b) (.n k) (.q x) u5 u6 u7
section
variable {xb:Nat}
variable (N:Nat) (db n:Nat) (cap:Option Nat) (H:Heap) (x:Nat) (a:Nat) (b:Nat)
include N db n cap H x a b
theorem Qmf:RT polSo 101 (sn 2 J8) [(0,.c db n cap),(1,.n a),(2,.n b),(3,.func 69 [] [.q xb])] H .normal (J9 (.c db n cap) (.n a) (.n b) (.i (qA.wrap ((b:Int)-(a:Int)))) Ud Ud Ud Ud) H :=
 hx N 60 []
end
section
variable {xb:Nat}
variable (N:Nat) (db n:Nat) (cap:Option Nat) (H:Heap) (x:Nat) (a:Nat) (b:Nat)
include N db n cap H x a b
theorem Qmg (k:Nat) {y9 y10 y11 y12:HV} (g0:8≤(k:Int)): RunsTo Tp polSo 101 (sn 6 J8) (J9 (.c db n cap) (.n a) (.n b) (.n k) y9 y10 y11 y12) H .normal [0,1,2,8,9,10,11,12,17] [(0,.c db n cap),(1,.n a),(2,.n b),(8,.n k),(9,y9),(10,y10),(11,y11),(12,y12),(17,.bool true)] H :=
 hx N 60 [jT 1 1 H g0]
theorem Qmh (k:Nat) {y9 y10 y11 y12:HV} {H0:Heap} {H1:Heap} (g0:some (Q8 (.int .u64 0) H)=some (.q x,H0)) (g1:ST H0 123 (.q x) (.int .u64 (IntKind.u64.wrap (k:Int))) H1): RT polSo 101 (sn 28 J8) (J9 (.c db n cap) (.n a) (.n b) (.n k) y9 y10 y11 y12) H .normal (Db db n cap a b k x y10 y11 y12) H1 :=
 hx N 60 [jR 2 2 g0,jS 2 3 g1]
theorem Qmi (k:Nat) {y10 y11 y12:HV} {u0:Int} {H0:Heap} (g0:∀kf,N≤kf→Qb Tp polSo (kf+1) 95 [.n k] H=some (.int .u64 u0,H0)): RT polSo 101 (sn 58 J8) (Db db n cap a b k x y10 y11 y12) H .normal (Db db n cap a b k x (.int .u64 u0) y11 y12) H0 :=
 hx N 60 [jC 3 1 g0]
theorem Qmj (k:Nat) (mo:Int) {y11 y12:HV}: RT polSo 101 (sn 118 J8) (Db db n cap a b k x (.int .u64 mo) y11 y12) H .normal (Db db n cap a b k x (.int .u64 mo) (.i (qA.wrap (qA.wrap ((a:Int)+qA.wrap (qA.wrap (((k:Int):Int).tdiv 4)*2))-1))) y12) H :=
 hx N 60 []
theorem Qmk (k:Nat) (mo:Int) (i:Nat) {y12:HV} {u0:Int} {H0:Heap} {h0:Int} {a0:HV} {v0:HV} {a1:HV} {v1:HV} {a2:HV} {H1:Heap} {a3:HV} {H2:Heap} (g0:(i:Int)≤qA.wrap (qA.wrap ((a:Int)+qA.wrap (qA.wrap (((k:Int):Int).tdiv 4)*2))+1)) (g1:∀kf,N≤kf→Qb Tp polSo (kf+1) 96 [.q x] H=some (.int .u64 u0,H0)) (g2:BV .and 82 (.int .u64 u0) (.int .u64 (IntKind.u64.wrap (mo-1))) (.int .u64 h0)) (g3:(k:Int)≤qA.wrap h0) (g4:IX 24 (.c db n cap) (.i (qA.wrap ((a:Int)+qA.wrap (qA.wrap h0-(k:Int))))) (a0)) (g5:LD H0 3 (a0) (v0)) (g6:IX 24 (.c db n cap) (.n i) (a1)) (g7:LD H0 3 (a1) (v1)) (g8:IX 24 (.c db n cap) (.n i) (a2)) (g9:ST H0 3 (a2) (v0) H1) (g10:IX 24 (.c db n cap) (.i (qA.wrap ((a:Int)+qA.wrap (qA.wrap h0-(k:Int))))) (a3)) (g11:ST H1 3 (a3) (v1) H2): RT polSo 101 (sn 476 J8) (Db db n cap a b k x (.int .u64 mo) (.n i) y12) H .normal (Db db n cap a b k x (.int .u64 mo) (.i (qA.wrap ((i:Int)+1))) (.i (qA.wrap (qA.wrap h0-(k:Int))))) H2 :=
 hx N 60 [jT 5 7 H g0,jC 7 0 g1,jO 7 3 H0 g2,jT 8 2 H0 g3,jO 10 10 H0 g4,jO 10 11 H0 g5,jO 10 14 H0 g6,jO 10 15 H0 g7,jO 10 16 H0 g8,jS 10 17 g9,jO 10 18 H1 g10,jS 10 19 g11]
theorem Qml (k:Nat) (mo:Int) (i:Nat) {y12:HV} {u0:Int} {H0:Heap} {h0:Int} {a0:HV} {v0:HV} {a1:HV} {v1:HV} {a2:HV} {H1:Heap} {a3:HV} {H2:Heap} (g0:(i:Int)≤qA.wrap (qA.wrap ((a:Int)+qA.wrap (qA.wrap (((k:Int):Int).tdiv 4)*2))+1)) (g1:∀kf,N≤kf→Qb Tp polSo (kf+1) 96 [.q x] H=some (.int .u64 u0,H0)) (g2:BV .and 82 (.int .u64 u0) (.int .u64 (IntKind.u64.wrap (mo-1))) (.int .u64 h0)) (g3:¬((k:Int)≤qA.wrap h0)) (g4:IX 24 (.c db n cap) (.i (qA.wrap ((a:Int)+qA.wrap h0))) (a0)) (g5:LD H0 3 (a0) (v0)) (g6:IX 24 (.c db n cap) (.n i) (a1)) (g7:LD H0 3 (a1) (v1)) (g8:IX 24 (.c db n cap) (.n i) (a2)) (g9:ST H0 3 (a2) (v0) H1) (g10:IX 24 (.c db n cap) (.i (qA.wrap ((a:Int)+qA.wrap h0))) (a3)) (g11:ST H1 3 (a3) (v1) H2): RT polSo 101 (sn 476 J8) (Db db n cap a b k x (.int .u64 mo) (.n i) y12) H .normal (Db db n cap a b k x (.int .u64 mo) (.i (qA.wrap ((i:Int)+1))) (.i (qA.wrap h0))) H2 :=
 hx N 60 [jT 5 7 H g0,jC 7 0 g1,jO 7 3 H0 g2,jF 8 2 H0 g3,jO 10 10 H0 g4,jO 10 11 H0 g5,jO 10 14 H0 g6,jO 10 15 H0 g7,jO 10 16 H0 g8,jS 10 17 g9,jO 10 18 H1 g10,jS 10 19 g11]
theorem Qmm (k:Nat) (mo:Int) (i:Nat) {y12:HV} (g0:¬((i:Int)≤qA.wrap (qA.wrap ((a:Int)+qA.wrap (qA.wrap (((k:Int):Int).tdiv 4)*2))+1))): RT polSo 101 (sn 476 J8) (Db db n cap a b k x (.int .u64 mo) (.n i) y12) H (.exit 0) (Db db n cap a b k x (.int .u64 mo) (.n i) y12) H :=
 hx N 60 [jF 5 7 H g0]
end
section
variable {xb:Nat}
noncomputable def B88:Code:=Try.f88.body.getD .skip
abbrev WW (v0 v1 v2 v3 v4 v10 v11 v12 v13 v14 v15 v16 v17 v18 v19 v20:HV):Env:=[(0,v0),(1,v1),(2,v2),(3,v3),(4,v4),(10,v10),(11,v11),(12,v12),(13,v13),(14,v14),(15,v15),(16,v16),(17,v17),(18,v18),(19,v19),(20,v20)]
end
abbrev e88 (db:Nat) (n:Nat) (cap:Option Nat) (a:Nat) (b:Nat) (lim:Int) (u4 u5 u6 u7 u8 u9 u10 u11 u12 u13 u14 u15:HV):Env:=WW (.c db n cap) (.n a) (.n b) (.i lim) u4 u5 u6 u7 u8 u9 u10 u11 u12 u13 u14 u15
section
variable {xb:Nat}
variable (N:Nat) (db n:Nat) (cap:Option Nat) (H:Heap) (x:Nat) (a:Nat) (b:Nat) (lim:Int)
include N db n cap H x a b lim
theorem Qmn:RT polSo 88 (sn 2 B88) [(0,.c db n cap),(1,.n a),(2,.n b),(3,.i lim),(4,.func 69 [] [.q xb])] H .normal (e88 db n cap a b lim (.func 69 [] [.q xb]) (.bool true) Ud Ud Ud Ud Ud Ud Ud Ud Ud Ud) H :=
 hx N 60 []
end
section
variable {xb:Nat}
variable (N:Nat) (db n:Nat) (cap:Option Nat) (H:Heap) (x:Nat) (a:Nat) (b:Nat) (lim:Int)
include N db n cap H x a b lim
theorem Qmo {y10 y11 y12 y13 y14 y15 y16 y17 y18 y19 y20:HV}: RT polSo 88 (sn 6 B88) (e88 db n cap a b lim (.func 69 [] [.q xb]) y10 y11 y12 y13 y14 y15 y16 y17 y18 y19 y20) H .normal (e88 db n cap a b lim (.func 69 [] [.q xb]) y10 (.bool true) y12 y13 y14 y15 y16 y17 y18 y19 y20) H :=
 hx N 60 []
theorem Qmp {y10 y11 y12 y13 y14 y15 y16 y17 y18 y19 y20:HV}: RT polSo 88 (sn 112 B88) (e88 db n cap a b lim (.func 69 [] [.q xb]) y10 y11 y12 y13 y14 y15 y16 y17 y18 y19 y20) H .normal (e88 db n cap a b lim (.func 69 [] [.q xb]) y10 y11 (.i (qA.wrap ((b:Int)-(a:Int)))) y13 y14 y15 y16 y17 y18 y19 y20) H :=
 hx N 60 []
theorem Qmq (k:Nat) {y10 y11 y13 y14 y15 y16 y17 y18 y19 y20:HV} {H0:Heap} (g0:(k:Int)≤12) (g1:∀kf,N≤kf→Qb Tp polSo (kf+1) 99 [.c db n cap,.n a,.n b,.func 69 [] [.q xb]] H=some (.tuple [],H0)): RT polSo 88 (sn 226 B88) (e88 db n cap a b lim (.func 69 [] [.q xb]) y10 y11 (.n k) y13 y14 y15 y16 y17 y18 y19 y20) H .ret (e88 db n cap a b lim (.func 69 [] [.q xb]) y10 y11 (.n k) y13 y14 y15 y16 y17 y18 y19 y20) H0 :=
 hx N 60 [jT 3 1 H g0,jC 4 4 g1]
theorem Qmr (k:Nat) {y10 y11 y13 y14 y15 y16 y17 y18 y19 y20:HV} (g0:¬((k:Int)≤12)): RT polSo 88 (sn 226 B88) (e88 db n cap a b lim (.func 69 [] [.q xb]) y10 y11 (.n k) y13 y14 y15 y16 y17 y18 y19 y20) H .normal (e88 db n cap a b lim (.func 69 [] [.q xb]) y10 y11 (.n k) y13 y14 y15 y16 y17 y18 y19 y20) H :=
 hx N 60 [jF 3 1 H g0]
theorem Qms {y10 y11 y12 y13 y14 y15 y16 y17 y18 y19 y20:HV} {H0:Heap} (g0:lim=0) (g1:∀kf,N≤kf→Qb Tp polSo (kf+1) 100 [.c db n cap,.n a,.n b,.func 69 [] [.q xb]] H=some (.tuple [],H0)): RT polSo 88 (sn 454 B88) (e88 db n cap a b lim (.func 69 [] [.q xb]) y10 y11 y12 y13 y14 y15 y16 y17 y18 y19 y20) H .ret (e88 db n cap a b lim (.func 69 [] [.q xb]) y10 y11 y12 y13 y14 y15 y16 y17 y18 y19 y20) H0 :=
 hx N 60 [jT 5 1 H g0,jC 6 4 g1]
theorem Qmt {y10 y11 y12 y13 y14 y15 y16 y17 y18 y19 y20:HV} (g0:¬(lim=0)): RT polSo 88 (sn 454 B88) (e88 db n cap a b lim (.func 69 [] [.q xb]) y10 y11 y12 y13 y14 y15 y16 y17 y18 y19 y20) H .normal (e88 db n cap a b lim (.func 69 [] [.q xb]) y10 y11 y12 y13 y14 y15 y16 y17 y18 y19 y20) H :=
 hx N 60 [jF 5 1 H g0]
theorem Qmu {y11 y12 y13 y14 y15 y16 y17 y18 y19 y20:HV}: RT polSo 88 (sn 910 B88) (e88 db n cap a b lim (.func 69 [] [.q xb]) (.bool true) y11 y12 y13 y14 y15 y16 y17 y18 y19 y20) H .normal (e88 db n cap a b lim (.func 69 [] [.q xb]) (.bool true) y11 y12 y13 y14 y15 y16 y17 y18 y19 y20) H :=
 hx N 60 []
theorem Qmv {y11 y12 y13 y14 y15 y16 y17 y18 y19 y20:HV} {H0:Heap} (g0:∀kf,N≤kf→Qb Tp polSo (kf+1) 101 [.c db n cap,.n a,.n b,.func 69 [] [.q xb]] H=some (.tuple [],H0)): RT polSo 88 (sn 910 B88) (e88 db n cap a b lim (.func 69 [] [.q xb]) (.bool false) y11 y12 y13 y14 y15 y16 y17 y18 y19 y20) H .normal (WW (.c db n cap) (.n a) (.n b) (.i (qA.wrap (lim-1))) (.func 69 [] [.q xb]) (.bool false) y11 y12 y13 y14 y15 y16 y17 y18 y19 y20) H0 :=
 hx N 60 [jC 8 4 g0]
theorem Qmw {y10 y11 y12 y13 y14 y15 y16 y17 y18 y19 y20:HV} {p0:Int} {p1:Int} {H0:Heap} (g0:∀kf,N≤kf→Qb Tp polSo (kf+1) 102 [.c db n cap,.n a,.n b,.func 69 [] [.q xb]] H=some (.tuple [.i p0,.i p1],H0)): RT polSo 88 (sn 1822 B88) (e88 db n cap a b lim (.func 69 [] [.q xb]) y10 y11 y12 y13 y14 y15 y16 y17 y18 y19 y20) H .normal (e88 db n cap a b lim (.func 69 [] [.q xb]) y10 y11 y12 (.i p0) (.i p1) y15 y16 y17 y18 y19 y20) H0 :=
 hx N 60 [jC 10 4 g0]
theorem Qmx (p:Nat) (h:Int) {y10 y11 y12 y15 y16 y17 y18 y19 y20:HV} {H0:Heap} (g0:h=2) (g1:∀kf,N≤kf→Qb Tp polSo (kf+1) 103 [.c db n cap,.n a,.n b,.func 69 [] [.q xb]] H=some (.tuple [],H0)): RT polSo 88 (sn 3646 B88) (e88 db n cap a b lim (.func 69 [] [.q xb]) y10 y11 y12 (.n p) (.i h) y15 y16 y17 y18 y19 y20) H .normal (e88 db n cap a b lim (.func 69 [] [.q xb]) y10 y11 y12 (.i (qA.wrap (qA.wrap ((b:Int)-1)-qA.wrap ((p:Int)-(a:Int))))) (.i 1) y15 y16 y17 y18 y19 y20) H0 :=
 hx N 60 [jT 11 1 H g0,jC 12 4 g1]
theorem Qmy (p:Nat) (h:Int) {y10 y11 y12 y15 y16 y17 y18 y19 y20:HV} (g0:¬(h=2)): RT polSo 88 (sn 3646 B88) (e88 db n cap a b lim (.func 69 [] [.q xb]) y10 y11 y12 (.n p) (.i h) y15 y16 y17 y18 y19 y20) H .normal (e88 db n cap a b lim (.func 69 [] [.q xb]) y10 y11 y12 (.n p) (.i h) y15 y16 y17 y18 y19 y20) H :=
 hx N 60 [jF 11 1 H g0]
theorem Qmz (h:Int) {y12 y13 y15 y16 y17 y18 y19 y20:HV} {H0:Heap} (g0:h=1) (g1:∀kf,N≤kf→Qb Tp polSo (kf+1) 104 [.c db n cap,.n a,.n b,.func 69 [] [.q xb]] H=some (.bool true,H0)): RT polSo 88 (sn 7294 B88) (e88 db n cap a b lim (.func 69 [] [.q xb]) (.bool true) (.bool true) y12 y13 (.i h) y15 y16 y17 y18 y19 y20) H .ret (e88 db n cap a b lim (.func 69 [] [.q xb]) (.bool true) (.bool true) y12 y13 (.i h) y15 y16 y17 y18 y19 y20) H0 :=
 hx N 60 [jT 15 6 H g0,jC 16 4 g1]
theorem QmA (h:Int) {y12 y13 y15 y16 y17 y18 y19 y20:HV} {H0:Heap} (g0:h=1) (g1:∀kf,N≤kf→Qb Tp polSo (kf+1) 104 [.c db n cap,.n a,.n b,.func 69 [] [.q xb]] H=some (.bool false,H0)): RT polSo 88 (sn 7294 B88) (e88 db n cap a b lim (.func 69 [] [.q xb]) (.bool true) (.bool true) y12 y13 (.i h) y15 y16 y17 y18 y19 y20) H .normal (e88 db n cap a b lim (.func 69 [] [.q xb]) (.bool true) (.bool true) y12 y13 (.i h) y15 y16 y17 y18 y19 y20) H0 :=
 hx N 60 [jT 15 6 H g0,jC 16 4 g1]
theorem QmB (h:Int) {y12 y13 y15 y16 y17 y18 y19 y20:HV} (g0:¬(h=1)): RT polSo 88 (sn 7294 B88) (e88 db n cap a b lim (.func 69 [] [.q xb]) (.bool true) (.bool true) y12 y13 (.i h) y15 y16 y17 y18 y19 y20) H .normal (e88 db n cap a b lim (.func 69 [] [.q xb]) (.bool true) (.bool true) y12 y13 (.i h) y15 y16 y17 y18 y19 y20) H :=
 hx N 60 [jF 15 6 H g0]
theorem QmC (h:Int) {y12 y13 y15 y16 y17 y18 y19 y20:HV}: RT polSo 88 (sn 7294 B88) (e88 db n cap a b lim (.func 69 [] [.q xb]) (.bool true) (.bool false) y12 y13 (.i h) y15 y16 y17 y18 y19 y20) H .normal (e88 db n cap a b lim (.func 69 [] [.q xb]) (.bool true) (.bool false) y12 y13 (.i h) y15 y16 y17 y18 y19 y20) H :=
 hx N 60 []
theorem QmD (h:Int) {y11 y12 y13 y15 y16 y17 y18 y19 y20:HV}: RT polSo 88 (sn 7294 B88) (e88 db n cap a b lim (.func 69 [] [.q xb]) (.bool false) y11 y12 y13 (.i h) y15 y16 y17 y18 y19 y20) H .normal (e88 db n cap a b lim (.func 69 [] [.q xb]) (.bool false) y11 y12 y13 (.i h) y15 y16 y17 y18 y19 y20) H :=
 hx N 60 []
theorem QmE (p:Nat) {y10 y11 y12 y14 y15 y16 y17 y18 y19 y20:HV} {a0:HV} {v0:HV} {a1:HV} {v1:HV} {c0:Int} {H0:Heap} (g0:0<(a:Int)) (g1:IX 24 (.c db n cap) (.i (qA.wrap ((a:Int)-1))) (a0)) (g2:LD H 3 (a0) (v0)) (g3:IX 24 (.c db n cap) (.n p) (a1)) (g4:LD H 3 (a1) (v1)) (g5:∀kf,N≤kf→Qb Tp polSo (kf+1) 69 [v0,v1,.q xb] H=some (.i c0,H0)) (g6:c0<0): RT polSo 88 (sn 14590 B88) (e88 db n cap a b lim (.func 69 [] [.q xb]) y10 y11 y12 (.n p) y14 y15 y16 y17 y18 y19 y20) H .normal (e88 db n cap a b lim (.func 69 [] [.q xb]) y10 y11 y12 (.n p) y14 y15 y16 y17 y18 y19 y20) H0 :=
 hx N 60 [jT 17 1 H g0,jO 17 7 H g1,jO 17 8 H g2,jO 17 11 H g3,jO 17 12 H g4,jC 17 13 g5,jT 17 14 H0 g6]
theorem QmF (p:Nat) {y10 y11 y12 y14 y15 y16 y17 y18 y19 y20:HV} {a0:HV} {v0:HV} {a1:HV} {v1:HV} {c0:Int} {H0:Heap} {m0:Int} {H1:Heap} (g0:0<(a:Int)) (g1:IX 24 (.c db n cap) (.i (qA.wrap ((a:Int)-1))) (a0)) (g2:LD H 3 (a0) (v0)) (g3:IX 24 (.c db n cap) (.n p) (a1)) (g4:LD H 3 (a1) (v1)) (g5:∀kf,N≤kf→Qb Tp polSo (kf+1) 69 [v0,v1,.q xb] H=some (.i c0,H0)) (g6:¬(c0<0)) (g7:∀kf,N≤kf→Qb Tp polSo (kf+1) 105 [.c db n cap,.n a,.n b,.n p,.func 69 [] [.q xb]] H0=some (.i m0,H1)): RT polSo 88 (sn 14590 B88) (e88 db n cap a b lim (.func 69 [] [.q xb]) y10 y11 y12 (.n p) y14 y15 y16 y17 y18 y19 y20) H (.exit 1) (WW (.c db n cap) (.i m0) (.n b) (.i lim) (.func 69 [] [.q xb]) y10 y11 y12 (.n p) y14 (.i m0) y16 y17 y18 y19 y20) H1 :=
 hx N 60 [jT 17 1 H g0,jO 17 7 H g1,jO 17 8 H g2,jO 17 11 H g3,jO 17 12 H g4,jC 17 13 g5,jF 17 14 H0 g6,jC 18 5 g7]
theorem QmG (p:Nat) {y10 y11 y12 y14 y15 y16 y17 y18 y19 y20:HV} (g0:¬(0<(a:Int))): RT polSo 88 (sn 14590 B88) (e88 db n cap a b lim (.func 69 [] [.q xb]) y10 y11 y12 (.n p) y14 y15 y16 y17 y18 y19 y20) H .normal (e88 db n cap a b lim (.func 69 [] [.q xb]) y10 y11 y12 (.n p) y14 y15 y16 y17 y18 y19 y20) H :=
 hx N 60 [jF 17 1 H g0]
theorem QmH (p:Nat) {y10 y11 y12 y14 y15 y16 y17 y18 y19 y20:HV} {m0:Int} {bb0:Bool} {H0:Heap} (g0:∀kf,N≤kf→Qb Tp polSo (kf+1) 106 [.c db n cap,.n a,.n b,.n p,.func 69 [] [.q xb]] H=some (.tuple [.i m0,.bool bb0],H0)): RT polSo 88 (sn 29182 B88) (e88 db n cap a b lim (.func 69 [] [.q xb]) y10 y11 y12 (.n p) y14 y15 y16 y17 y18 y19 y20) H .normal (e88 db n cap a b lim (.func 69 [] [.q xb]) y10 y11 y12 (.n p) y14 y15 (.i m0) (.bool bb0) y18 y19 y20) H0 :=
 hx N 60 [jC 20 5 g0]
theorem QmI {y10 y11 y12 y13 y14 y15 y16 y17 y18 y19 y20:HV}: RT polSo 88 (sn 58366 B88) (e88 db n cap a b lim (.func 69 [] [.q xb]) y10 y11 y12 y13 y14 y15 y16 y17 y18 y19 y20) H .normal (e88 db n cap a b lim (.func 69 [] [.q xb]) y10 y17 y12 y13 y14 y15 y16 y17 y18 y19 y20) H :=
 hx N 60 []
theorem QmJ (q:Nat) {y10 y11 y12 y13 y14 y15 y17 y18 y19 y20:HV}: RT polSo 88 (sn 116734 B88) (e88 db n cap a b lim (.func 69 [] [.q xb]) y10 y11 y12 y13 y14 y15 (.n q) y17 y18 y19 y20) H .normal (e88 db n cap a b lim (.func 69 [] [.q xb]) y10 y11 y12 y13 y14 y15 (.n q) y17 (.i (qA.wrap ((q:Int)-(a:Int)))) (.i (qA.wrap ((b:Int)-(q:Int)))) y20) H :=
 hx N 60 []
theorem QmK (k:Nat) {y10 y11 y13 y14 y15 y16 y17 y18 y19 y20:HV}: RT polSo 88 (sn 233470 B88) (e88 db n cap a b lim (.func 69 [] [.q xb]) y10 y11 (.n k) y13 y14 y15 y16 y17 y18 y19 y20) H .normal (e88 db n cap a b lim (.func 69 [] [.q xb]) y10 y11 (.n k) y13 y14 y15 y16 y17 y18 y19 (.i (qA.wrap (((k:Int):Int).tdiv 8)))) H :=
 hx N 60 []
theorem QmL (q:Nat) (u:Int) (v:Int) (w:Int) {y10 y11 y12 y13 y14 y15 y17:HV} {H0:Heap} (g0:u<v) (g1:w≤u) (g2:∀kf,N≤kf→Qb Tp polSo (kf+1) 88 [.c db n cap,.n a,.n q,.i lim,.func 69 [] [.q xb]] H=some (.tuple [],H0)): RT polSo 88 (sn 233471 B88) (e88 db n cap a b lim (.func 69 [] [.q xb]) y10 y11 y12 y13 y14 y15 (.n q) y17 (.i u) (.i v) (.i w)) H .normal (WW (.c db n cap) (.i (qA.wrap ((q:Int)+1))) (.n b) (.i lim) (.func 69 [] [.q xb]) (.bool true) y11 y12 y13 y14 y15 (.n q) y17 (.i u) (.i v) (.i w)) H0 :=
 hx N 60 [jT 24 2 H g0,jT 25 2 H g1,jC 26 5 g2]
theorem QmM (q:Nat) (u:Int) (v:Int) (w:Int) {y10 y11 y12 y13 y14 y15 y17:HV} {H0:Heap} (g0:u<v) (g1:¬(w≤u)) (g2:∀kf,N≤kf→Qb Tp polSo (kf+1) 88 [.c db n cap,.n a,.n q,.i lim,.func 69 [] [.q xb]] H=some (.tuple [],H0)): RT polSo 88 (sn 233471 B88) (e88 db n cap a b lim (.func 69 [] [.q xb]) y10 y11 y12 y13 y14 y15 (.n q) y17 (.i u) (.i v) (.i w)) H .normal (WW (.c db n cap) (.i (qA.wrap ((q:Int)+1))) (.n b) (.i lim) (.func 69 [] [.q xb]) (.bool false) y11 y12 y13 y14 y15 (.n q) y17 (.i u) (.i v) (.i w)) H0 :=
 hx N 60 [jT 24 2 H g0,jF 25 2 H g1,jC 26 5 g2]
theorem QmN (q:Nat) (u:Int) (v:Int) (w:Int) {y10 y11 y12 y13 y14 y15 y17:HV} {H0:Heap} (g0:¬(u<v)) (g1:w≤v) (g2:∀kf,N≤kf→Qb Tp polSo (kf+1) 88 [.c db n cap,.i (qA.wrap ((q:Int)+1)),.n b,.i lim,.func 69 [] [.q xb]] H=some (.tuple [],H0)): RT polSo 88 (sn 233471 B88) (e88 db n cap a b lim (.func 69 [] [.q xb]) y10 y11 y12 y13 y14 y15 (.n q) y17 (.i u) (.i v) (.i w)) H .normal (WW (.c db n cap) (.n a) (.n q) (.i lim) (.func 69 [] [.q xb]) (.bool true) y11 y12 y13 y14 y15 (.n q) y17 (.i u) (.i v) (.i w)) H0 :=
 hx N 60 [jF 24 2 H g0,jT 28 2 H g1,jC 29 6 g2]
theorem QmO (q:Nat) (u:Int) (v:Int) (w:Int) {y10 y11 y12 y13 y14 y15 y17:HV} {H0:Heap} (g0:¬(u<v)) (g1:¬(w≤v)) (g2:∀kf,N≤kf→Qb Tp polSo (kf+1) 88 [.c db n cap,.i (qA.wrap ((q:Int)+1)),.n b,.i lim,.func 69 [] [.q xb]] H=some (.tuple [],H0)): RT polSo 88 (sn 233471 B88) (e88 db n cap a b lim (.func 69 [] [.q xb]) y10 y11 y12 y13 y14 y15 (.n q) y17 (.i u) (.i v) (.i w)) H .normal (WW (.c db n cap) (.n a) (.n q) (.i lim) (.func 69 [] [.q xb]) (.bool false) y11 y12 y13 y14 y15 (.n q) y17 (.i u) (.i v) (.i w)) H0 :=
 hx N 60 [jF 24 2 H g0,jF 28 2 H g1,jC 29 6 g2]
end
section
variable {xb:Nat}
noncomputable def B68:Code:=Try.f68.body.getD .skip
abbrev QrM (v0 v1 v4:HV):Env:=[(0,v0),(1,v1),(4,v4)]
theorem QmP (N:Nat) (db n:Nat) (cap:Option Nat) (H:Heap) (x:Nat) {m0:Int} {H0:Heap} {H1:Heap} (g0:∀kf,N≤kf→Qb Tp polSo (kf+1) 63 [.int .u64 (IntKind.u64.wrap (n:Int))] H=some (.i m0,H0)) (g1:∀kf,N≤kf→Qb Tp polSo (kf+1) 88 [.c db n cap,.i 0,.n n,.i m0,.func 69 [] [.q xb]] H0=some (.tuple [],H1)): RT polSo 68 (sub [] B68) [(0,.c db n cap),(1,.func 69 [] [.q xb])] H .normal (QrM (.c db n cap) (.func 69 [] [.q xb]) (.n n)) H1 :=
 hx N 60 [jC 1 4 g0,jC 1 6 g1]
end
end Go.Proofs.Ytiejmoglooaalaa
end
section
open Go Go.HL Go.HL.So
namespace Go.Proofs.Ytiejmoglooaalaa
set_option linter.unusedSectionVars false
open Go.Proofs.Try renaming prog → Tp
open Go.HL.HV renaming undef → Ud
section
variable {xb:Nat} {α:Type} [Inhabited α] {enc:α→HV} {lt:α→α→Prop} {dom:α→Prop} {H:Heap} {db n:Nat} {cap:Option Nat}
abbrev swB (s:Int):Blk:=.arr 1 [.int .i64 s] true 0
theorem Y8 (l:List α) (B:Blk):(Mm enc H db l [B])[H.length]?=some B:=by
 unfold Mm
 rw [qF (by simp)]
 simp
theorem Qen (l:List α) (B B':Blk):(Mm enc H db l [B]).set H.length B'=Mm enc H db l [B']:=by
 unfold Mm
 rw [qJ _ _ (by simp)]
 simp
theorem mxM (S:So xb enc lt dom H db n) (l:List α) (B:Blk) (hB:B.mx=0):mxs (Mm enc H db l [B])≤H.length:=by
 have h:=S.mx
 rw [Qd5] at h ⊢
 intro C hC
 unfold Mm at hC
 rcases List.mem_append.1 hC with hC | hC
 ·rcases List.mem_or_eq_of_mem_set hC with hC | rfl
  ·exact h C hC
  ·exact Nat.zero_le _
 ·rw [List.mem_singleton.1 hC];omega
theorem gcT (S:So xb enc lt dom H db n) (l l':List α) (B:Blk) (hB:B.mx=0):gc (Mm enc H db l []).length 0 (Mm enc H db l' [B])=Mm enc H db l' []:=by
 have h:=mxM S l' B hB
 have e:(Mm enc H db l []).length=H.length:=by simp [Mm]
 unfold gc
 rw [e,show max H.length (max 0 (mxs (Mm enc H db l' [B])))=H.length by omega]
 unfold Mm
 rw [List.take_append_of_le_length (by simp),qK (by simp),List.append_nil]
theorem gcB (l l':List α) (B B':Blk) (r:Nat):gc (Mm enc H db l [B]).length r (Mm enc H db l' [B'])=Mm enc H db l' [B']:=gcM l l' [B] [B'] r rfl
theorem Dc (l:List α) (s:Int):QH Tp (Mm enc H db l [swB s]) 3 (.ptr H.length 0 0 1)=some (.int .i64 s):=WE (b:=H.length) (Y8 l (swB s)) rfl rfl rfl a3 i3
theorem QrN (l:List α) (s r:Int):Q0 Tp (Mm enc H db l [swB s]) 3 (.ptr H.length 0 0 1) (.int .i64 r)=some (Mm enc H db l [swB r]):=by
 have:=KJ (P:=Tp) (t:=3) (b:=H.length) (i:=0) (tot:=1) (old:=.int .i64 s) (v:=.int .i64 r) (Y8 (enc:=enc) (db:=db) l (swB s)) rfl rfl rfl (by intro cs h;cases h) z3 rfl rfl (by simp [bnd])
 rw [this,Qen];rfl
theorem Qeo (l:List α) (k:IntKind) (s:Int):Q8 (.int k s) (Mm enc H db l [])=(.ptr H.length 0 0 1,Mm enc H db l [.arr 1 [.int k s] true 0]):=by
 simp only [Q8,cellsOf,bnd,Mm]
 simp
theorem G2 (S:So xb enc lt dom H db n) {a b:Nat} (ha:a<n) (hb:b<n) {l:List α} (hl:l.length=n) (hD:Dm dom l) (s:Int) :
  ∃(p q:Nat) (s':Int),ClS 112 [.sl db 0 n cap n 1,.int .i64 (a:Int),.int .i64 (b:Int),.ptr H.length 0 0 1,.func 69 [] [.ptr xb 0 0 1]] (Mm enc H db l [swB s]) (.tuple [.int .i64 (p:Int),.int .i64 (q:Int)]) (Mm enc H db l [swB s'])∧((p=a∧q=b)∨(p=b∧q=a)):=by
 have hn:=S.nb
 by_cases c:lt (at_ l b) (at_ l a)
 ·obtain ⟨cc,N,hN,hc⟩:=S.ct (T:=[swB s]) hl rfl (hD.at (i:=b) (by omega)) (hD.at (i:=a) (by omega)) c
  have t:=Ql2 (xb:=xb) N db n cap (Mm enc H db l [swB s]) H.length a b (ixs (i:=b) rfl hb) (S.ld l _ _ hl hb) (ixs (i:=a) rfl ha) (S.ld l _ _ hl ha) hN hc (Dc l s) (QrN l s _)
  have hc:=CallsTo.shared (P:=Tp) (pol:=polSo) (g:=112) (fn:=Try.f112) (cd:=Qgp) (args:=[.sl db 0 n cap n 1,.int .i64 (a:Int),.int .i64 (b:Int),.ptr H.length 0 0 1,.func 69 [] [.ptr xb 0 0 1]]) (v:=.tuple [.int .i64 (b:Int),.int .i64 (a:Int)]) (by kernel_rfl) (by kernel_rfl) (by kernel_rfl) (by kernel_rfl) t (by kernel_rfl) (by simp) (by kernel_rfl)
  rw [gcB] at hc
  exact ⟨b,a,_,hc,.inr ⟨rfl,rfl⟩⟩
 ·obtain ⟨cc,N,hN,hc⟩:=S.cf (T:=[swB s]) hl rfl (hD.at (i:=b) (by omega)) (hD.at (i:=a) (by omega)) c
  have t:=Ql3 (xb:=xb) N db n cap (Mm enc H db l [swB s]) H.length a b (ixs (i:=b) rfl hb) (S.ld l _ _ hl hb) (ixs (i:=a) rfl ha) (S.ld l _ _ hl ha) hN hc
  have hc:=CallsTo.shared (P:=Tp) (pol:=polSo) (g:=112) (fn:=Try.f112) (cd:=Qgp) (args:=[.sl db 0 n cap n 1,.int .i64 (a:Int),.int .i64 (b:Int),.ptr H.length 0 0 1,.func 69 [] [.ptr xb 0 0 1]]) (v:=.tuple [.int .i64 (a:Int),.int .i64 (b:Int)]) (by kernel_rfl) (by kernel_rfl) (by kernel_rfl) (by kernel_rfl) t (by kernel_rfl) (by simp) (by kernel_rfl)
  rw [gcB] at hc
  exact ⟨a,b,_,hc,.inl ⟨rfl,rfl⟩⟩
theorem QaB (S:So xb enc lt dom H db n) {a b q:Nat} (ha:a<n) (hb:b<n) (hq:q<n) {l:List α} (hl:l.length=n) (hD:Dm dom l) (s:Int) :
  ∃(r:Nat) (s':Int),ClS 111 [.sl db 0 n cap n 1,.int .i64 (a:Int),.int .i64 (b:Int),.int .i64 (q:Int),.ptr H.length 0 0 1,.func 69 [] [.ptr xb 0 0 1]] (Mm enc H db l [swB s]) (.int .i64 (r:Int)) (Mm enc H db l [swB s'])∧(r=a∨r=b∨r=q):=by
 obtain ⟨p1,q1,s1,h1,e1⟩:=G2 S (cap:=cap) ha hb hl hD s
 obtain ⟨p2,q2,s2,h2,e2⟩:=G2 S (cap:=cap) (a:=q1) (b:=q) (by omega) hq hl hD s1
 obtain ⟨p3,q3,s3,h3,e3⟩:=G2 S (cap:=cap) (a:=p1) (b:=p2) (by omega) (by omega) hl hD s2
 obtain ⟨N1,h1⟩:=h1.from
 obtain ⟨N2,h2⟩:=h2.from
 obtain ⟨N3,h3⟩:=h3.from
 have t:=Ql5 (xb:=xb) (N1+N2+N3) db n cap (Mm enc H db l [swB s]) H.length a b q (fun kf hk=>h1 kf (by omega)) (fun kf hk=>h2 kf (by omega)) (fun kf hk=>h3 kf (by omega))
 have hc:=CallsTo.shared (P:=Tp) (pol:=polSo) (g:=111) (fn:=Try.f111) (cd:=QrJ) (args:=[.sl db 0 n cap n 1,.int .i64 (a:Int),.int .i64 (b:Int),.int .i64 (q:Int),.ptr H.length 0 0 1,.func 69 [] [.ptr xb 0 0 1]]) (v:=.int .i64 (q3:Int)) (by kernel_rfl) (by kernel_rfl) (by kernel_rfl) (by kernel_rfl) t (by kernel_rfl) (by simp) (by kernel_rfl)
 rw [gcB] at hc
 exact ⟨q3,s3,hc,by omega⟩
theorem G3 (S:So xb enc lt dom H db n) {a:Nat} {e:Int} (he:e=(a:Int)) (h1:1≤a) (h2:a+1<n) {l:List α} (hl:l.length=n) (hD:Dm dom l) (s:Int) :
  ∃(r:Nat) (s':Int),ClS 110 [.sl db 0 n cap n 1,.int .i64 e,.ptr H.length 0 0 1,.func 69 [] [.ptr xb 0 0 1]] (Mm enc H db l [swB s]) (.int .i64 (r:Int)) (Mm enc H db l [swB s'])∧a-1≤r∧r≤a+1:=by
 subst he
 have hn:=S.nb
 obtain ⟨r,s',h,er⟩:=QaB S (cap:=cap) (a:=a-1) (b:=a) (q:=a+1) (by omega) (by omega) (by omega) hl hD s
 obtain ⟨N,h⟩:=h.from
 have t:=Ql7 (xb:=xb) N db n cap (Mm enc H db l [swB s]) H.length a (by rw [QQ (by omega) (by omega),Qj (by omega)];exact h)
 have hc:=CallsTo.shared (P:=Tp) (pol:=polSo) (g:=110) (fn:=Try.f110) (cd:=QrK) (args:=[.sl db 0 n cap n 1,.int .i64 (a:Int),.ptr H.length 0 0 1,.func 69 [] [.ptr xb 0 0 1]]) (v:=.int .i64 (r:Int)) (by kernel_rfl) (by kernel_rfl) (by kernel_rfl) (by kernel_rfl) t (by kernel_rfl) (by simp) (by kernel_rfl)
 rw [gcB] at hc
 exact ⟨r,s',hc,by omega⟩
theorem QaC {a b m:Nat} (hab:a≤b) (hb:b≤60000) (hm:m≤3):qA.wrap ((a:Int)+qA.wrap (qA.wrap ((qA.wrap ((b:Int)-(a:Int)):Int).tdiv 4)*(m:Int)))=((a+(b-a)/4*m:Nat):Int):=by
 have h1:qA.wrap ((b:Int)-(a:Int))=((b-a:Nat):Int):=by rw [Qs (by omega) (by omega)];omega
 have h2:((b-a:Nat):Int).tdiv 4=(((b-a)/4:Nat):Int):=by rw [qL (by omega)];omega
 rw [h1,h2,Qs (n:=(((b-a)/4:Nat):Int)) (by omega) (by omega)]
 have h3:(((b-a)/4:Nat):Int)*(m:Int)=(((b-a)/4*m:Nat):Int):=by push_cast;rfl
 have h4:(b-a)/4*m≤60000:=by
  have h6:(b-a)/4*m≤(b-a)/4*3:=Nat.mul_le_mul_left _ hm
  omega
 rw [h3]
 generalize (b-a)/4*m=z at h4
 rw [Qs (n:=(z:Int)) (by omega) (by omega),Qs (by omega) (by omega)];omega
theorem QmQ (S:So xb enc lt dom H db n) {a b:Nat} (hab:a+12<b) (hb:b≤n) {l:List α} (hl:l.length=n) (hD:Dm dom l) :
  ∃(p:Nat) (h:Int),ClS 102 [.sl db 0 n cap n 1,.int .i64 (a:Int),.int .i64 (b:Int),.func 69 [] [.ptr xb 0 0 1]] (Mm enc H db l []) (.tuple [.int .i64 (p:Int),.int .i64 h]) (Mm enc H db l [])∧a≤p∧p<b:=by
 have hn:=S.nb
 have i1:=QaC (a:=a) (b:=b) (m:=1) (by omega) (by omega) (by omega)
 have i2:=QaC (a:=a) (b:=b) (m:=2) (by omega) (by omega) (by omega)
 have i3:=QaC (a:=a) (b:=b) (m:=3) (by omega) (by omega) (by omega)
 have hw:qA.wrap ((b:Int)-(a:Int))=((b-a:Nat):Int):=(by rw [Qs (by omega) (by omega)];omega)
 have g0:some (Q8 (.int .i64 0) (Mm enc H db l []))=some (.ptr H.length 0 0 1,Mm enc H db l [swB 0]):=congrArg some (Qeo l .i64 0)
 have fin:∀(p:Nat) (h:Int) (E:Env) (s:Int),a≤p→p<b→RT polSo 102 SA (Kh [.sl db 0 n cap n 1,.int .i64 (a:Int),.int .i64 (b:Int),.func 69 [] [.ptr xb 0 0 1]]) (Mm enc H db l []) .ret E (Mm enc H db l [swB s])→Qf Tp Try.f102 E (Mm enc H db l [swB s])=some (.tuple [.int .i64 (p:Int),.int .i64 h]) →
   ∃(p:Nat) (h:Int),ClS 102 [.sl db 0 n cap n 1,.int .i64 (a:Int),.int .i64 (b:Int),.func 69 [] [.ptr xb 0 0 1]] (Mm enc H db l []) (.tuple [.int .i64 (p:Int),.int .i64 h]) (Mm enc H db l [])∧a≤p∧p<b:=by
  intro p h E s h1 h2 t hv
  have hc:=CallsTo.shared (P:=Tp) (pol:=polSo) (g:=102) (fn:=Try.f102) (cd:=SA) (args:=[.sl db 0 n cap n 1,.int .i64 (a:Int),.int .i64 (b:Int),.func 69 [] [.ptr xb 0 0 1]]) (by kernel_rfl) (by kernel_rfl) (by kernel_rfl) (by kernel_rfl) t (by kernel_rfl) (by simp) hv
  rw [show bnd (.tuple [.int .i64 (p:Int),.int .i64 h])=0 by simp [bnd,bndL],gcT S l l (swB s) rfl] at hc
  exact ⟨p,h,hc,h1,h2⟩
 by_cases c:50≤b-a
 ·obtain ⟨r1,s1,h1,e1⟩:=G3 S (cap:=cap) (a:=a+(b-a)/4*1) i1 (by omega) (by omega) hl hD 0
  obtain ⟨r2,s2,h2,e2⟩:=G3 S (cap:=cap) (a:=a+(b-a)/4*2) i2 (by omega) (by omega) hl hD s1
  obtain ⟨r3,s3,h3,e3⟩:=G3 S (cap:=cap) (a:=a+(b-a)/4*3) i3 (by omega) (by omega) hl hD s2
  obtain ⟨r,s,h4,e4⟩:=QaB S (cap:=cap) (a:=r1) (b:=r2) (q:=r3) (by omega) (by omega) (by omega) hl hD s3
  obtain ⟨N1,h1⟩:=h1.from
  obtain ⟨N2,h2⟩:=h2.from
  obtain ⟨N3,h3⟩:=h3.from
  obtain ⟨N4,h4⟩:=h4.from
  by_cases d1:s=0
  ·have t:=Ql8 (xb:=xb) (N1+N2+N3+N4) db n cap (Mm enc H db l []) H.length a b g0 (by rw [hw];omega) (by rw [hw];omega) (fun kf hk=>h1 kf (by omega)) (fun kf hk=>h2 kf (by omega)) (fun kf hk=>h3 kf (by omega)) (fun kf hk=>h4 kf (by omega)) (Dc l s) d1
   exact fin r 1 _ s (by omega) (by omega) t (by kernel_rfl)
  ·by_cases d2:s=12
   ·have t:=Ql9 (xb:=xb) (N1+N2+N3+N4) db n cap (Mm enc H db l []) H.length a b g0 (by rw [hw];omega) (by rw [hw];omega) (fun kf hk=>h1 kf (by omega)) (fun kf hk=>h2 kf (by omega)) (fun kf hk=>h3 kf (by omega)) (fun kf hk=>h4 kf (by omega)) (Dc l s) d1 d2
    exact fin r 2 _ s (by omega) (by omega) t (by kernel_rfl)
   ·have t:=Qma (xb:=xb) (N1+N2+N3+N4) db n cap (Mm enc H db l []) H.length a b g0 (by rw [hw];omega) (by rw [hw];omega) (fun kf hk=>h1 kf (by omega)) (fun kf hk=>h2 kf (by omega)) (fun kf hk=>h3 kf (by omega)) (fun kf hk=>h4 kf (by omega)) (Dc l s) d1 d2
    exact fin r 0 _ s (by omega) (by omega) t (by kernel_rfl)
 ·obtain ⟨r,s,h4,e4⟩:=QaB S (cap:=cap) (a:=a+(b-a)/4*1) (b:=a+(b-a)/4*2) (q:=a+(b-a)/4*3) (by omega) (by omega) (by omega) hl hD 0
  obtain ⟨N4,h4⟩:=h4.from
  rw [← i1,← i2,← i3] at h4
  by_cases d1:s=0
  ·have t:=Qmb (xb:=xb) N4 db n cap (Mm enc H db l []) H.length a b g0 (by rw [hw];omega) (by rw [hw];omega) h4 (Dc l s) d1
   exact fin r 1 _ s (by omega) (by omega) t (by kernel_rfl)
  ·by_cases d2:s=12
   ·have t:=Qmc (xb:=xb) N4 db n cap (Mm enc H db l []) H.length a b g0 (by rw [hw];omega) (by rw [hw];omega) h4 (Dc l s) d1 d2
    exact fin r 2 _ s (by omega) (by omega) t (by kernel_rfl)
   ·have t:=Qmd (xb:=xb) N4 db n cap (Mm enc H db l []) H.length a b g0 (by rw [hw];omega) (by rw [hw];omega) h4 (Dc l s) d1 d2
    exact fin r 0 _ s (by omega) (by omega) t (by kernel_rfl)
abbrev uB (s:Int):Blk:=.arr 1 [.int .u64 s] true 0
theorem QrO:Qq Tp 123=some 1:=by kernel_rfl
theorem QrP:QE Tp 123=false:=by kernel_rfl
theorem QrQ:(Tp.underlying 123).isSome=true:=by kernel_rfl
theorem QaD (l:List α) (s:Int):QH Tp (Mm enc H db l [uB s]) 123 (.ptr H.length 0 0 1)=some (.int .u64 s):=WE (b:=H.length) (Y8 l (uB s)) rfl rfl rfl QrP QrQ
theorem Qgq (l:List α) (s r:Int):Q0 Tp (Mm enc H db l [uB s]) 123 (.ptr H.length 0 0 1) (.int .u64 r)=some (Mm enc H db l [uB r]):=by
 have:=KJ (P:=Tp) (t:=123) (b:=H.length) (i:=0) (tot:=1) (old:=.int .u64 s) (v:=.int .u64 r) (Y8 (enc:=enc) (db:=db) l (uB s)) rfl rfl rfl (by intro cs h;cases h) QrO rfl rfl (by simp [bnd])
 rw [this,Qen];rfl
theorem bx (a b:Int):∃r,Jb Tp .xor 123 (.int .u64 a) (.int .u64 b)=some (.int .u64 r):=⟨_,rfl⟩
theorem Qst (a:Int):∃r,Jb Tp .shl 123 (.int .u64 a) (.int .u64 13)=some (.int .u64 r):=⟨_,rfl⟩
theorem Qsu (a:Int):∃r,Jb Tp .shl 123 (.int .u64 a) (.int .u64 17)=some (.int .u64 r):=⟨_,rfl⟩
theorem br7 (a:Int):∃r,Jb Tp .shr 123 (.int .u64 a) (.int .u64 7)=some (.int .u64 r):=⟨_,rfl⟩
theorem QmR (l:List α) (s:Int):∃r,ClS 96 [.ptr H.length 0 0 1] (Mm enc H db l [uB s]) (.int .u64 r) (Mm enc H db l [uB r]):=by
 obtain ⟨h0,e0⟩:=Qst s
 obtain ⟨h1,e1⟩:=bx s h0
 obtain ⟨h2,e2⟩:=br7 h1
 obtain ⟨h3,e3⟩:=bx h1 h2
 obtain ⟨h4,e4⟩:=Qsu h3
 obtain ⟨h5,e5⟩:=bx h3 h4
 have t:=Qme 0 0 0 none (Mm enc H db l [uB s]) H.length (QaD l s) (QaD l s) e0 e1 (Qgq l s h1) (QaD l h1) (QaD l h1) e2 e3 (Qgq l h1 h3) (QaD l h3) (QaD l h3) e4 e5 (Qgq l h3 h5) (QaD l h5)
 have hc:=CallsTo.shared (P:=Tp) (pol:=polSo) (g:=96) (fn:=Try.f96) (cd:=B96) (args:=[.ptr H.length 0 0 1]) (v:=.int .u64 h5) (by kernel_rfl) (by kernel_rfl) (by kernel_rfl) (by kernel_rfl) t (by kernel_rfl) (by simp) (by kernel_rfl)
 rw [gcB] at hc
 exact ⟨_,hc⟩
theorem QrR {u:Int} {m:Nat} (hm:m<9223372036854775808):∃h:Nat,Jb Tp .and 82 (.int .u64 u) (.int .u64 (m:Int))=some (.int .u64 (h:Int))∧h≤m:=by
 have e:Jb Tp .and 82 (.int .u64 u) (.int .u64 (m:Int))=some (.int .u64 (IntKind.u64.wrap (BitVec.ofInt IntKind.u64.bits u &&& BitVec.ofInt IntKind.u64.bits (m:Int)).toNat)):=rfl
 have hle:(BitVec.ofInt IntKind.u64.bits u &&& BitVec.ofInt IntKind.u64.bits (m:Int)).toNat≤m:=by
  rw [BitVec.toNat_and]
  refine Nat.le_trans Nat.and_le_right ?_
  rw [BitVec.toNat_ofInt]
  show ((m:Int)%((2 ^ 64:Nat):Int)).toNat≤m
  omega
 refine ⟨_,?_,hle⟩
 rw [e]
 congr 2
 rw [Jr]
 generalize (BitVec.ofInt IntKind.u64.bits u &&& BitVec.ofInt IntKind.u64.bits (m:Int)).toNat=h at hle
 omega
theorem Qgr (S:So xb enc lt dom H db n) {a b k m:Nat} (hk:b=a+k) (hk8:8≤k) (hb:b≤n) (hm1:1≤m) (hm2:m≤2*k):∀(d i:Nat) (l:List α) (s:Int),i+d=a+k/4*2+2→a+k/4*2-1≤i→l.length=n →
  ∃y5 y6 l' s',RT polSo 101 (sn 238 J8) (J9 (.sl db 0 n cap n 1) (.i (a:Int)) (.i (b:Int)) (.i (k:Int)) (.ptr H.length 0 0 1) (.int .u64 (m:Int)) (.i (i:Int)) Ud) (Mm enc H db l [uB s]) (.exit 0) (J9 (.sl db 0 n cap n 1) (.i (a:Int)) (.i (b:Int)) (.i (k:Int)) (.ptr H.length 0 0 1) (.int .u64 (m:Int)) y5 y6) (Mm enc H db l' [uB s'])∧Sw a b l l':=by
 have hn:=S.nb
 have e0:qA.wrap (((k:Int):Int).tdiv 4)=((k/4:Nat):Int):=by
  rw [qL (by omega),Qs (by omega) (by omega)];omega
 have e1:qA.wrap ((a:Int)+qA.wrap (qA.wrap (((k:Int):Int).tdiv 4)*2))=((a+k/4*2:Nat):Int):=by
  rw [e0,Qs (n:=((k/4:Nat):Int)*2) (by omega) (by omega),Qs (by omega) (by omega)];omega
 have e2:qA.wrap (qA.wrap ((a:Int)+qA.wrap (qA.wrap (((k:Int):Int).tdiv 4)*2))+1)=((a+k/4*2+1:Nat):Int):=by
  rw [e1,Qs (by omega) (by omega)];omega
 intro d
 induction d with
 | zero =>
  intro i l s hi hi2 hl
  exact ⟨_,_,l,s,lpo (Qmm 0 db n cap (Mm enc H db l [uB s]) H.length a b k m i (y12:=Ud) (by rw [e2];omega)),.refl⟩
 | succ d ih =>
  intro i l s hi hi2 hl
  obtain ⟨u,hx⟩:=QmR (enc:=enc) (H:=H) (db:=db) l s
  obtain ⟨N,hN⟩:=hx.from
  have hu:IntKind.u64.wrap ((m:Int)-1)=((m-1:Nat):Int):=by rw [Jr];omega
  obtain ⟨h,hand,hh⟩:=QrR (u:=u) (m:=m-1) (by omega)
  rw [← hu] at hand
  have hwh:qA.wrap (h:Int)=(h:Int):=Qs (by omega) (by omega)
  have next:∀o:Nat,o<k→∀y,RT polSo 101 (sn 476 J8) (J9 (.sl db 0 n cap n 1) (.i (a:Int)) (.i (b:Int)) (.i (k:Int)) (.ptr H.length 0 0 1) (.int .u64 (m:Int)) (.i (i:Int)) Ud) (Mm enc H db l [uB s]) .normal (J9 (.sl db 0 n cap n 1) (.i (a:Int)) (.i (b:Int)) (.i (k:Int)) (.ptr H.length 0 0 1) (.int .u64 (m:Int)) (.i (qA.wrap ((i:Int)+1))) y) (Mm enc H db (swp l i (a+o)) [uB u]) →
    ∃y5 y6 l' s',RT polSo 101 (sn 238 J8) (J9 (.sl db 0 n cap n 1) (.i (a:Int)) (.i (b:Int)) (.i (k:Int)) (.ptr H.length 0 0 1) (.int .u64 (m:Int)) (.i (i:Int)) Ud) (Mm enc H db l [uB s]) (.exit 0) (J9 (.sl db 0 n cap n 1) (.i (a:Int)) (.i (b:Int)) (.i (k:Int)) (.ptr H.length 0 0 1) (.int .u64 (m:Int)) y5 y6) (Mm enc H db l' [uB s'])∧Sw a b l l':=by
   intro o ho y st
   rw [Qj (by omega)] at st
   have sw:Sw a b l (swp l i (a+o)):=Sw.one (by omega) (by omega) (by omega) (by omega)
   obtain ⟨y5,y6,l',s',r,q⟩:=ih (i+1) (swp l i (a+o)) u (by omega) (by omega) (by rw [swp_len];exact hl)
   exact ⟨y5,y6,l',s',lop (st) (gcM _ _ _ _ _ rfl) (r),sw.trans q⟩
  by_cases c:k≤h
  ·have e3:qA.wrap (qA.wrap (h:Int)-(k:Int))=((h-k:Nat):Int):=by rw [hwh,Qs (by omega) (by omega)];omega
   have e4:qA.wrap ((a:Int)+qA.wrap (qA.wrap (h:Int)-(k:Int)))=((a+(h-k):Nat):Int):=by rw [e3,Qs (by omega) (by omega)];omega
   obtain ⟨s1,s2⟩:=S.st2 (T:=[uB u]) hl (i:=i) (j:=a+(h-k)) (by omega) (by omega)
   have st:=Qmk N db n cap (Mm enc H db l [uB s]) H.length a b k m i (y12:=Ud) (by rw [e2];omega) hN hand (by rw [hwh];omega) (ixs e4 (by omega)) (S.ld l _ _ hl (by omega)) (ixs (i:=i) rfl (by omega)) (S.ld l _ _ hl (by omega)) (ixs (i:=i) rfl (by omega)) s1 (ixs e4 (by omega)) s2
   exact next (h-k) (by omega) _ st
  ·have e4:qA.wrap ((a:Int)+qA.wrap (h:Int))=((a+h:Nat):Int):=by rw [hwh,Qs (by omega) (by omega)];omega
   obtain ⟨s1,s2⟩:=S.st2 (T:=[uB u]) hl (i:=i) (j:=a+h) (by omega) (by omega)
   have st:=Qml N db n cap (Mm enc H db l [uB s]) H.length a b k m i (y12:=Ud) (by rw [e2];omega) hN hand (by rw [hwh];omega) (ixs e4 (by omega)) (S.ld l _ _ hl (by omega)) (ixs (i:=i) rfl (by omega)) (S.ld l _ _ hl (by omega)) (ixs (i:=i) rfl (by omega)) s1 (ixs e4 (by omega)) s2
   exact next h (by omega) _ st
theorem QmS (S:So xb enc lt dom H db n) {a b:Nat} (hab:a+8≤b) (hb:b≤n) {l:List α} (hl:l.length=n) :
  ∃l',ClS 101 [.sl db 0 n cap n 1,.int .i64 (a:Int),.int .i64 (b:Int),.func 69 [] [.ptr xb 0 0 1]] (Mm enc H db l []) (.tuple []) (Mm enc H db l' [])∧Sw a b l l':=by
 have hn:=S.nb
 obtain ⟨k,rfl⟩:∃k,b=a+k:=⟨b-a,by omega⟩
 have hw:qA.wrap (((a+k:Nat):Int)-(a:Int))=(k:Int):=by rw [Qs (by omega) (by omega)];omega
 have t0:=Qmf (xb:=xb) 0 db n cap (Mm enc H db l []) H.length a (a+k)
 rw [hw] at t0
 have t1:=Qmg 0 db n cap (Mm enc H db l []) H.length a (a+k) k (y9:=Ud) (y10:=Ud) (y11:=Ud) (y12:=Ud) (by omega)
 have g0:some (Q8 (.int .u64 0) (Mm enc H db l []))=some (.ptr H.length 0 0 1,Mm enc H db l [uB 0]):=congrArg some (Qeo l .u64 0)
 have t2:=Qmh 0 db n cap (Mm enc H db l []) H.length a (a+k) k (y9:=Ud) (y10:=Ud) (y11:=Ud) (y12:=Ud) g0 (Qgq l 0 _)
 have hl2:=(G0 (x:=k) (by omega)).1 (by omega)
 have t3:=Qmi 0 db n cap (Mm enc H db l [uB (IntKind.u64.wrap (k:Int))]) H.length a (a+k) k (y10:=Ud) (y11:=Ud) (y12:=Ud) (u0:=((2 ^ Zy k:Nat):Int)) (fun kf _=>by
  rw [WS (pol:=polSo) (g:=95) (F:=U7) (by kernel_rfl) (rs:=[.int .i64 (k:Int)]) rfl (res:=.int .u64 ((2 ^ Zy k:Nat):Int)) (by simp only [U7];rw [if_pos (by omega),qG])];rfl)
 generalize 2 ^ Zy k=m at hl2 t3
 have t4:=Qmj 0 db n cap (Mm enc H db l [uB (IntKind.u64.wrap (k:Int))]) H.length a (a+k) k (m:Int) (y11:=Ud) (y12:=Ud)
 have e0:qA.wrap (((k:Int):Int).tdiv 4)=((k/4:Nat):Int):=by
  rw [qL (by omega),Qs (by omega) (by omega)];omega
 have e1:qA.wrap (qA.wrap ((a:Int)+qA.wrap (qA.wrap (((k:Int):Int).tdiv 4)*2))-1)=((a+k/4*2-1:Nat):Int):=by
  rw [e0,Qs (n:=((k/4:Nat):Int)*2) (by omega) (by omega),Qs (n:=(a:Int)+((k/4:Nat):Int)*2) (by omega) (by omega),Qs (by omega) (by omega)];omega
 rw [e1] at t4
 obtain ⟨y5,y6,l',s',r,q⟩:=Qgr S (cap:=cap) (m:=m) rfl (by omega) hb (by omega) (by omega) 3 (a+k/4*2-1) l (IntKind.u64.wrap (k:Int)) (by omega) (qB _) hl
 have t:=sq (t0) (sq (t1) (RunsTo.cond (y:=.tmp 17) (t:=true) (c:=sn 7 J8) (a:=sn 14 J8) (b:=sn 15 J8) (by kernel_rfl) rfl (sq (t2) (sq (t3) (sq (t4) (bke (c:=sn 119 J8) (r)) (c:=sn 59 J8)) (c:=sn 29 J8)) (c:=sn 14 J8))) (c:=sn 3 J8)) (c:=J8)
 have hc:=CallsTo.shared (P:=Tp) (pol:=polSo) (g:=101) (fn:=Try.f101) (cd:=J8) (args:=[.sl db 0 n cap n 1,.int .i64 (a:Int),.int .i64 ((a+k:Nat):Int),.func 69 [] [.ptr xb 0 0 1]]) (v:=.tuple []) (by kernel_rfl) (by kernel_rfl) (by kernel_rfl) (by kernel_rfl) t (by kernel_rfl) (by simp) (by kernel_rfl)
 rw [show bnd (.tuple [])=0 by rfl,gcT S l l' (uB s') rfl] at hc
 exact ⟨l',hc,q⟩
end
section
variable {xb:Nat} {α:Type} [Inhabited α] {enc:α→HV} {lt:α→α→Prop} {dom:α→Prop} {H:Heap} {db n:Nat} {cap:Option Nat}
def YX (xb:Nat) (enc:α→HV) (lt:α→α→Prop) (dom:α→Prop) (H:Heap) (db n:Nat) (cap:Option Nat) (d:Nat):Prop:=∀(a b:Nat) (lim:Int) (l:List α),b-a<d→a≤b→b≤n→0≤lim→lim≤1000→l.length=n→Dm dom l→Flo lt a b l →
 ∃l',ClS 88 [.sl db 0 n cap n 1,.int .i64 (a:Int),.int .i64 (b:Int),.int .i64 lim,.func 69 [] [.ptr xb 0 0 1]] (Mm enc H db l []) (.tuple []) (Mm enc H db l' [])∧Sw a b l l'∧QN lt a b l'
def Out (xb:Nat) (enc:α→HV) (lt:α→α→Prop) (dom:α→Prop) (H:Heap) (db n:Nat) (cap:Option Nat) (a b:Nat) (l:List α) (x:X) (E:Env) (l':List α):Prop :=
 Sw a b l l'∧((x=.ret∧QN lt a b l')∨((x=.normal∨x=.exit 1)∧∃(a' b':Nat) (lim':Int) (bal' par':Bool) (y2 y3 y4 y5 y6 y7 y8 y9 y10:HV),E=(WW (.sl db 0 n cap n 1) (.i (a':Int)) (.i (b':Int)) (.i lim') (.func 69 [] [.q xb]) (.bool bal') (.bool par') y2 y3 y4 y5 y6 y7 y8 y9 y10) ∧
  b'-a'<b-a∧a≤a'∧a'≤b'∧b'≤b∧0≤lim'∧lim'≤1000∧Flo lt a' b' l'∧∀l'',Sw a' b' l' l''→QN lt a' b' l''→QN lt a b l''))
theorem Out.pre {a b:Nat} {l l1 l':List α} {x:X} {E:Env} (h:Sw a b l l1) (ho:Out xb enc lt dom H db n cap a b l1 x E l'):Out xb enc lt dom H db n cap a b l x E l':=⟨h.trans ho.1,ho.2⟩
theorem Flo.part {a b a' b':Nat} {l:List α} (h:Flo lt a b l) (h1:a'=a) (h2:b'≤b):Flo lt a' b' l:=by
 subst h1
 exact fun h0 k h3 h4=>h h0 k h3 (by omega)
theorem join (hL:Lin lt) {a b m:Nat} {l:List α} (h1:QN lt a m l) (h2:QN lt (m+1) b l) (h3:∀k,a≤k→k<m→lt (at_ l k) (at_ l m)) (h4:∀k,m<k→k<b→¬lt (at_ l k) (at_ l m)):QN lt a b l:=by
 intro i j q1 q2 q3
 by_cases c1:j<m
 ·exact h1 i j q1 q2 c1
 ·by_cases c2:j=m
  ·subst c2;exact hL.asy _ _ (h3 i q1 q2)
  ·by_cases c3:i<m
   ·exact hL.tr _ _ _ (hL.asy _ _ (h3 i q1 c3)) (h4 j (by omega) q3)
   ·by_cases c4:i=m
    ·subst c4;exact h4 j (by omega) q3
    ·exact h2 i j (by omega) q2 q3
theorem QrS (S:So xb enc lt dom H db n) (hL:Lin lt) {a b k p:Nat} {lim:Int} {bal par:Bool} {h:HV} (hd:YX xb enc lt dom H db n cap (b-a)) (hp1:a≤p) (hp2:p<b) (hb:b≤n) (hk:k≤n) (hl0:0≤lim) (hl1:lim≤1000) {l:List α} (hl:l.length=n) (hD:Dm dom l) (hF:Flo lt a b l) :
  ∃x E l',RT polSo 88 (sn 14591 B88) (WW (.sl db 0 n cap n 1) (.i (a:Int)) (.i (b:Int)) (.i lim) (.func 69 [] [.q xb]) (.bool bal) (.bool par) (.i (k:Int)) (.i (p:Int)) h Ud Ud Ud Ud Ud Ud) (Mm enc H db l []) x E (Mm enc H db l' [])∧Out xb enc lt dom H db n cap a b l x E l':=by
 have hn:=S.nb
 obtain ⟨m,bb,l4,hc,w1,w2,w3,w4⟩:=Qgk S (cap:=cap) (T:=[]) rfl hb hp1 hp2 hl hD
 obtain ⟨N,hN⟩:=hc.from
 have t1:=QmH (xb:=xb) N db n cap (Mm enc H db l []) 0 a b lim p (y10:=.bool bal) (y11:=.bool par) (y12:=.i (k:Int)) (y14:=h) (y15:=Ud) (y16:=Ud) (y17:=Ud) (y18:=Ud) (y19:=Ud) (y20:=Ud) hN
 have hl4:=WK w1 hl
 have hD4:=hD.sw w1 (by omega)
 have hF4:=hF.sw (by omega) w1
 have t2:=QmI (xb:=xb) 0 db n cap (Mm enc H db l4 []) 0 a b lim (y10:=.bool bal) (y11:=.bool par) (y12:=.i (k:Int)) (y13:=.i (p:Int)) (y14:=h) (y15:=Ud) (y16:=.i (m:Int)) (y17:=.bool bb) (y18:=Ud) (y19:=Ud) (y20:=Ud)
 have t3:=QmJ (xb:=xb) 0 db n cap (Mm enc H db l4 []) 0 a b lim m (y10:=.bool bal) (y11:=.bool bb) (y12:=.i (k:Int)) (y13:=.i (p:Int)) (y14:=h) (y15:=Ud) (y17:=.bool bb) (y18:=Ud) (y19:=Ud) (y20:=Ud)
 have e1:qA.wrap ((m:Int)-(a:Int))=((m-a:Nat):Int):=(by rw [Qs (by omega) (by omega)];omega)
 have e2:qA.wrap ((b:Int)-(m:Int))=((b-m:Nat):Int):=(by rw [Qs (by omega) (by omega)];omega)
 rw [e1,e2] at t3
 have t4:=QmK (xb:=xb) 0 db n cap (Mm enc H db l4 []) 0 a b lim k (y10:=.bool bal) (y11:=.bool bb) (y13:=.i (p:Int)) (y14:=h) (y15:=Ud) (y16:=.i (m:Int)) (y17:=.bool bb) (y18:=.i ((m-a:Nat):Int)) (y19:=.i ((b-m:Nat):Int)) (y20:=Ud)
 generalize qA.wrap (((k:Int):Int).tdiv 8)=th at t4
 have up:∀(x:X) (E:Env) (l':List α),RT polSo 88 (sn 233471 B88) (WW (.sl db 0 n cap n 1) (.i (a:Int)) (.i (b:Int)) (.i lim) (.func 69 [] [.q xb]) (.bool bal) (.bool bb) (.i (k:Int)) (.i (p:Int)) h Ud (.i (m:Int)) (.bool bb) (.i ((m-a:Nat):Int)) (.i ((b-m:Nat):Int)) (.i th)) (Mm enc H db l4 []) .normal E (Mm enc H db l' [])→Out xb enc lt dom H db n cap a b l4 .normal E l' →
   ∃x E l',RT polSo 88 (sn 14591 B88) (WW (.sl db 0 n cap n 1) (.i (a:Int)) (.i (b:Int)) (.i lim) (.func 69 [] [.q xb]) (.bool bal) (.bool par) (.i (k:Int)) (.i (p:Int)) h Ud Ud Ud Ud Ud Ud) (Mm enc H db l []) x E (Mm enc H db l' [])∧Out xb enc lt dom H db n cap a b l x E l':=fun x E l' t ho =>
  ⟨_,E,l',sq (t1) (sq (t2) (sq (t3) (sq (t4) (t) (c:=sn 116735 B88)) (c:=sn 58367 B88)) (c:=sn 29183 B88)) (c:=sn 14591 B88),Out.pre w1 ho⟩
 by_cases c:((m-a:Nat):Int)<((b-m:Nat):Int)
 ·obtain ⟨l5,hc5,v1,v2⟩:=hd a m lim l4 (by omega) (by omega) (by omega) hl0 hl1 hl4 hD4 (hF4.part rfl (by omega))
  obtain ⟨N5,hN5⟩:=hc5.from
  have hl5:=WK v1 hl4
  have e3:qA.wrap ((m:Int)+1)=((m+1:Nat):Int):=Qj (by omega)
  have ho:∀(bl:Bool),Out xb enc lt dom H db n cap a b l4 .normal (WW (.sl db 0 n cap n 1) (.i ((m+1:Nat):Int)) (.i (b:Int)) (.i lim) (.func 69 [] [.q xb]) (.bool bl) (.bool bb) (.i (k:Int)) (.i (p:Int)) h Ud (.i (m:Int)) (.bool bb) (.i ((m-a:Nat):Int)) (.i ((b-m:Nat):Int)) (.i th)) l5:=fun bl=>by
   refine ⟨v1.mono (qB _) (by omega),.inr ⟨.inl rfl,m+1,b,lim,bl,bb,_,_,_,_,_,_,_,_,_,rfl,by omega,by omega,by omega,qB _,hl0,hl1,fun _ k h1 h2=>?_,fun l6 u1 u2=>?_⟩⟩
   ·rw [show m+1-1=m by omega,v1.out (by omega) (k:=k) (by omega),v1.out (by omega) (k:=m) (by omega)]
    exact w4 k (by omega) h2
   ·have em:at_ l6 m=at_ l4 m:=(u1.out (by omega) (k:=m) (by omega)).trans (v1.out (by omega) (k:=m) (by omega))
    refine join hL (m:=m) (fun i j q1 q2 q3=>?_) u2 (fun k q1 q2=>?_) (fun k q1 q2=>?_)
    ·rw [u1.out (by omega) (k:=i) (by omega),u1.out (by omega) (k:=j) (by omega)]
     exact v2 i j q1 q2 q3
    ·rw [em,u1.out (by omega) (k:=k) (by omega)]
     exact v1.all (by omega) (Q:=fun x=>lt x (at_ l4 m)) (qB _) (qB _) w3 k q1 q2
    ·rw [em]
     exact u1.all (by omega) (Q:=fun x=>¬lt x (at_ l4 m)) (lo:=m+1) (hi:=b) (qB _) (qB _) (fun i h1 h2=>by
      rw [v1.out (by omega) (k:=i) (by omega)];exact w4 i (by omega) h2) k (by omega) q2
  by_cases c2:th≤((m-a:Nat):Int)
  ·have t:=QmL (xb:=xb) N5 db n cap (Mm enc H db l4 []) 0 a b lim m _ _ th (y10:=.bool bal) (y11:=.bool bb) (y12:=.i (k:Int)) (y13:=.i (p:Int)) (y14:=h) (y15:=Ud) (y17:=.bool bb) c c2 hN5
   rw [e3] at t
   exact up .normal _ l5 t (ho true)
  ·have t:=QmM (xb:=xb) N5 db n cap (Mm enc H db l4 []) 0 a b lim m _ _ th (y10:=.bool bal) (y11:=.bool bb) (y12:=.i (k:Int)) (y13:=.i (p:Int)) (y14:=h) (y15:=Ud) (y17:=.bool bb) c c2 hN5
   rw [e3] at t
   exact up .normal _ l5 t (ho false)
 ·have hF5:Flo lt (m+1) b l4:=fun _ k h1 h2=>by rw [show m+1-1=m by omega];exact w4 k (by omega) h2
  obtain ⟨l5,hc5,v1,v2⟩:=hd (m+1) b lim l4 (by omega) (by omega) hb hl0 hl1 hl4 hD4 hF5
  obtain ⟨N5,hN5⟩:=hc5.from
  have hl5:=WK v1 hl4
  have e3:qA.wrap ((m:Int)+1)=((m+1:Nat):Int):=Qj (by omega)
  rw [← e3] at hN5
  have ho:∀(bl:Bool),Out xb enc lt dom H db n cap a b l4 .normal (WW (.sl db 0 n cap n 1) (.i (a:Int)) (.i (m:Int)) (.i lim) (.func 69 [] [.q xb]) (.bool bl) (.bool bb) (.i (k:Int)) (.i (p:Int)) h Ud (.i (m:Int)) (.bool bb) (.i ((m-a:Nat):Int)) (.i ((b-m:Nat):Int)) (.i th)) l5:=fun bl=>by
   have hF6:=(hF4.sw (by omega) (v1.mono (a':=a) (by omega) (qB _))).part (b':=m) rfl (by omega)
   refine ⟨v1.mono (by omega) (qB _),.inr ⟨.inl rfl,a,m,lim,bl,bb,_,_,_,_,_,_,_,_,_,rfl,by omega,qB _,by omega,by omega,hl0,hl1,hF6,fun l6 u1 u2=>?_⟩⟩
   have em:at_ l6 m=at_ l4 m:=(u1.out (by omega) (k:=m) (by omega)).trans (v1.out (by omega) (k:=m) (by omega))
   refine join hL (m:=m) u2 (fun i j q1 q2 q3=>?_) (fun k q1 q2=>?_) (fun k q1 q2=>?_)
   ·rw [u1.out (by omega) (k:=i) (by omega),u1.out (by omega) (k:=j) (by omega)]
    exact v2 i j q1 q2 q3
   ·rw [em]
    exact u1.all (by omega) (Q:=fun x=>lt x (at_ l4 m)) (lo:=a) (hi:=m) (qB _) (qB _) (fun i h1 h2=>by
      rw [v1.out (by omega) (k:=i) (by omega)];exact w3 i h1 h2) k q1 q2
   ·rw [em,u1.out (by omega) (k:=k) (by omega)]
    exact v1.all (by omega) (Q:=fun x=>¬lt x (at_ l4 m)) (qB _) (qB _) (fun i h1 h2=>w4 i (by omega) h2) k (by omega) q2
  by_cases c2:th≤((b-m:Nat):Int)
  ·have t:=QmN (xb:=xb) N5 db n cap (Mm enc H db l4 []) 0 a b lim m _ _ th (y10:=.bool bal) (y11:=.bool bb) (y12:=.i (k:Int)) (y13:=.i (p:Int)) (y14:=h) (y15:=Ud) (y17:=.bool bb) c c2 hN5
   exact up .normal _ l5 t (ho true)
  ·have t:=QmO (xb:=xb) N5 db n cap (Mm enc H db l4 []) 0 a b lim m _ _ th (y10:=.bool bal) (y11:=.bool bb) (y12:=.i (k:Int)) (y13:=.i (p:Int)) (y14:=h) (y15:=Ud) (y17:=.bool bb) c c2 hN5
   exact up .normal _ l5 t (ho false)
theorem Qsv (S:So xb enc lt dom H db n) (hL:Lin lt) {a b k p:Nat} {lim:Int} {bal par:Bool} {h:HV} (hd:YX xb enc lt dom H db n cap (b-a)) (hp1:a≤p) (hp2:p<b) (hb:b≤n) (hk:k≤n) (hl0:0≤lim) (hl1:lim≤1000) {l:List α} (hl:l.length=n) (hD:Dm dom l) (hF:Flo lt a b l) :
  ∃x E l',RT polSo 88 (sn 7295 B88) (WW (.sl db 0 n cap n 1) (.i (a:Int)) (.i (b:Int)) (.i lim) (.func 69 [] [.q xb]) (.bool bal) (.bool par) (.i (k:Int)) (.i (p:Int)) h Ud Ud Ud Ud Ud Ud) (Mm enc H db l []) x E (Mm enc H db l' [])∧Out xb enc lt dom H db n cap a b l x E l':=by
 have hn:=S.nb
 by_cases c0:0<a
 ·have hp:qA.wrap ((a:Int)-1)=((a-1:Nat):Int):=QQ (by omega) (by omega)
  by_cases c:lt (at_ l (a-1)) (at_ l p)
  ·obtain ⟨cc,N,hN,hc⟩:=S.ct (T:=[]) hl rfl (hD.at (i:=a-1) (by omega)) (hD.at (i:=p) (by omega)) c
   have t1:=QmE (xb:=xb) N db n cap (Mm enc H db l []) 0 a b lim p (y10:=.bool bal) (y11:=.bool par) (y12:=.i (k:Int)) (y14:=h) (y15:=Ud) (y16:=Ud) (y17:=Ud) (y18:=Ud) (y19:=Ud) (y20:=Ud) (by omega) (ixs hp (by omega)) (S.ld l _ _ hl (by omega)) (ixs (i:=p) rfl (by omega)) (S.ld l _ _ hl (by omega)) hN hc
   obtain ⟨x,E,l',t,ho⟩:=QrS S hL (cap:=cap) (k:=k) (bal:=bal) (par:=par) (h:=h) hd hp1 hp2 hb hk hl0 hl1 hl hD hF
   exact ⟨x,E,l',sq t1 t (c:=sn 7295 B88),ho⟩
  ·obtain ⟨cc,N,hN,hc⟩:=S.cf (T:=[]) hl rfl (hD.at (i:=a-1) (by omega)) (hD.at (i:=p) (by omega)) c
   obtain ⟨m,l4,hc4,w1,w2,w3,w4⟩:=Ql0 S (cap:=cap) (T:=[]) hL rfl hb hp1 hp2 hl hD
   obtain ⟨N4,hN4⟩:=hc4.from
   have t1:=QmF (xb:=xb) (N+N4) db n cap (Mm enc H db l []) 0 a b lim p (y10:=.bool bal) (y11:=.bool par) (y12:=.i (k:Int)) (y14:=h) (y15:=Ud) (y16:=Ud) (y17:=Ud) (y18:=Ud) (y19:=Ud) (y20:=Ud) (by omega) (ixs hp (by omega)) (S.ld l _ _ hl (by omega)) (ixs (i:=p) rfl (by omega)) (S.ld l _ _ hl (by omega)) (fun kf hk=>hN kf (by omega)) hc (fun kf hk=>hN4 kf (by omega))
   have hlow:∀k,a≤k→k<b→¬lt (at_ l4 k) (at_ l (a-1)):=w1.all (by omega) (Q:=fun x=>¬lt x (at_ l (a-1))) (qB _) (qB _) (hF c0)
   refine ⟨_,_,l4,sqo t1 (c:=sn 7295 B88) (b:=sn 14591 B88),w1,.inr ⟨.inr rfl,m,b,lim,bal,par,_,_,_,_,_,_,_,_,_,rfl,by omega,by omega,by omega,qB _,hl0,hl1,fun _ k h1 h2=>?_,fun l5 u1 u2=>?_⟩⟩
   ·exact hL.tr _ _ _ (w3 (m-1) (by omega) (by omega)) (hL.asy _ _ (w4 k h1 h2))
   ·have hl4:=WK w1 hl
    have hr:∀k,m≤k→k<b→lt (at_ l p) (at_ l5 k):=u1.all (by omega) (Q:=fun x=>lt (at_ l p) x) (qB _) (qB _) w4
    intro i j q1 q2 q3
    by_cases c1:j<m
    ·rw [u1.out (by omega) (k:=i) (by omega),u1.out (by omega) (k:=j) (by omega)]
     exact hL.tr _ _ _ (hL.tr _ _ _ (w3 i q1 (by omega)) c) (hlow j (by omega) q3)
    ·by_cases c2:i<m
     ·rw [u1.out (by omega) (k:=i) (by omega)]
      exact hL.tr _ _ _ (w3 i q1 c2) (hL.asy _ _ (hr j (by omega) q3))
     ·exact u2 i j (by omega) q2 q3
 ·have t1:=QmG (xb:=xb) 0 db n cap (Mm enc H db l []) 0 a b lim p (y10:=.bool bal) (y11:=.bool par) (y12:=.i (k:Int)) (y14:=h) (y15:=Ud) (y16:=Ud) (y17:=Ud) (y18:=Ud) (y19:=Ud) (y20:=Ud) (by omega)
  obtain ⟨x,E,l',t,ho⟩:=QrS S hL (cap:=cap) (k:=k) (bal:=bal) (par:=par) (h:=h) hd hp1 hp2 hb hk hl0 hl1 hl hD hF
  exact ⟨x,E,l',sq t1 t (c:=sn 7295 B88),ho⟩
theorem QrT (S:So xb enc lt dom H db n) (hL:Lin lt) {a b k p:Nat} {lim h:Int} {bal par:Bool} (hd:YX xb enc lt dom H db n cap (b-a)) (hp1:a≤p) (hp2:p<b) (hb:b≤n) (hk:k≤n) (hl0:0≤lim) (hl1:lim≤1000) {l:List α} (hl:l.length=n) (hD:Dm dom l) (hF:Flo lt a b l) :
  ∃x E l',RT polSo 88 (sn 3647 B88) (WW (.sl db 0 n cap n 1) (.i (a:Int)) (.i (b:Int)) (.i lim) (.func 69 [] [.q xb]) (.bool bal) (.bool par) (.i (k:Int)) (.i (p:Int)) (.i h) Ud Ud Ud Ud Ud Ud) (Mm enc H db l []) x E (Mm enc H db l' [])∧Out xb enc lt dom H db n cap a b l x E l':=by
 have hn:=S.nb
 have on:∀(l3:List α),Sw a b l l3→RT polSo 88 (sn 7294 B88) (WW (.sl db 0 n cap n 1) (.i (a:Int)) (.i (b:Int)) (.i lim) (.func 69 [] [.q xb]) (.bool bal) (.bool par) (.i (k:Int)) (.i (p:Int)) (.i h) Ud Ud Ud Ud Ud Ud) (Mm enc H db l []) .normal (WW (.sl db 0 n cap n 1) (.i (a:Int)) (.i (b:Int)) (.i lim) (.func 69 [] [.q xb]) (.bool bal) (.bool par) (.i (k:Int)) (.i (p:Int)) (.i h) Ud Ud Ud Ud Ud Ud) (Mm enc H db l3 []) →
   ∃x E l',RT polSo 88 (sn 3647 B88) (WW (.sl db 0 n cap n 1) (.i (a:Int)) (.i (b:Int)) (.i lim) (.func 69 [] [.q xb]) (.bool bal) (.bool par) (.i (k:Int)) (.i (p:Int)) (.i h) Ud Ud Ud Ud Ud Ud) (Mm enc H db l []) x E (Mm enc H db l' [])∧Out xb enc lt dom H db n cap a b l x E l':=fun l3 w t1=>by
  obtain ⟨x,E,l',t,ho⟩:=Qsv S hL (cap:=cap) (k:=k) (bal:=bal) (par:=par) (h:=.int .i64 h) hd hp1 hp2 hb hk hl0 hl1 (WK w hl) (hD.sw w (by omega)) (hF.sw (by omega) w)
  exact ⟨x,E,l',sq t1 t (c:=sn 3647 B88),Out.pre w ho⟩
 cases bal with
 | false=>exact on l .refl (QmD (xb:=xb) 0 db n cap (Mm enc H db l []) 0 a b lim h)
 | true =>
  cases par with
  | false=>exact on l .refl (QmC (xb:=xb) 0 db n cap (Mm enc H db l []) 0 a b lim h)
  | true =>
   by_cases c:h=1
   ·obtain ⟨bb,l3,hc3,w1,w2⟩:=Ql1 S hL (cap:=cap) (T:=[]) rfl (a:=a) (by omega) hb hl hD hF
    obtain ⟨N3,hN3⟩:=hc3.from
    cases bb with
    | true =>
     have t1:=Qmz (xb:=xb) N3 db n cap (Mm enc H db l []) 0 a b lim h (y12:=.i (k:Int)) (y13:=.i (p:Int)) (y15:=Ud) (y16:=Ud) (y17:=Ud) (y18:=Ud) (y19:=Ud) (y20:=Ud) c hN3
     exact ⟨_,_,l3,sqo t1 (c:=sn 3647 B88) (b:=sn 7295 B88),w1,.inl ⟨rfl,w2 rfl⟩⟩
    | false=>exact on l3 w1 (QmA (xb:=xb) N3 db n cap (Mm enc H db l []) 0 a b lim h c hN3)
   ·exact on l .refl (QmB (xb:=xb) 0 db n cap (Mm enc H db l []) 0 a b lim h c)
theorem Qsw (S:So xb enc lt dom H db n) (hL:Lin lt) {a b k p:Nat} {lim h:Int} {bal par:Bool} (hd:YX xb enc lt dom H db n cap (b-a)) (hp1:a≤p) (hp2:p<b) (hb:b≤n) (hk:k≤n) (hl0:0≤lim) (hl1:lim≤1000) {l:List α} (hl:l.length=n) (hD:Dm dom l) (hF:Flo lt a b l) :
  ∃x E l',RT polSo 88 (sn 1823 B88) (WW (.sl db 0 n cap n 1) (.i (a:Int)) (.i (b:Int)) (.i lim) (.func 69 [] [.q xb]) (.bool bal) (.bool par) (.i (k:Int)) (.i (p:Int)) (.i h) Ud Ud Ud Ud Ud Ud) (Mm enc H db l []) x E (Mm enc H db l' [])∧Out xb enc lt dom H db n cap a b l x E l':=by
 have hn:=S.nb
 by_cases c:h=2
 ·obtain ⟨l2,hc2,w⟩:=Qk9 S (cap:=cap) (T:=[]) (a:=a) (b:=b) (by omega) hb hl
  obtain ⟨N2,hN2⟩:=hc2.from
  have t1:=Qmx (xb:=xb) N2 db n cap (Mm enc H db l []) 0 a b lim p h (y10:=.bool bal) (y11:=.bool par) (y12:=.i (k:Int)) (y15:=Ud) (y16:=Ud) (y17:=Ud) (y18:=Ud) (y19:=Ud) (y20:=Ud) c hN2
  have e1:qA.wrap ((b:Int)-1)=((b-1:Nat):Int):=QQ (by omega) (by omega)
  have e2:qA.wrap ((p:Int)-(a:Int))=((p-a:Nat):Int):=(by rw [Qs (by omega) (by omega)];omega)
  have e3:qA.wrap (((b-1:Nat):Int)-((p-a:Nat):Int))=((b-1-(p-a):Nat):Int):=(by rw [Qs (by omega) (by omega)];omega)
  rw [e1,e2,e3] at t1
  obtain ⟨x,E,l',t,ho⟩:=QrT S hL (cap:=cap) (k:=k) (p:=b-1-(p-a)) (bal:=bal) (par:=par) (h:=1) hd (by omega) (by omega) hb hk hl0 hl1 (WK w hl) (hD.sw w (by omega)) (hF.sw (by omega) w)
  exact ⟨x,E,l',sq t1 t (c:=sn 1823 B88),Out.pre w ho⟩
 ·have t1:=Qmy (xb:=xb) 0 db n cap (Mm enc H db l []) 0 a b lim p h (y10:=.bool bal) (y11:=.bool par) (y12:=.i (k:Int)) (y15:=Ud) (y16:=Ud) (y17:=Ud) (y18:=Ud) (y19:=Ud) (y20:=Ud) c
  obtain ⟨x,E,l',t,ho⟩:=QrT S hL (cap:=cap) (k:=k) (p:=p) (bal:=bal) (par:=par) (h:=h) hd hp1 hp2 hb hk hl0 hl1 hl hD hF
  exact ⟨x,E,l',sq t1 t (c:=sn 1823 B88),ho⟩
theorem Qsx (S:So xb enc lt dom H db n) (hL:Lin lt) {a b:Nat} {lim:Int} {bal par:Bool} (hd:YX xb enc lt dom H db n cap (b-a)) (hab:a≤b) (hb:b≤n) (hl0:0≤lim) (hl1:lim≤1000) {l:List α} (hl:l.length=n) (hD:Dm dom l) (hF:Flo lt a b l) :
  ∃x E l',RT polSo 88 (sn 56 B88) (WW (.sl db 0 n cap n 1) (.i (a:Int)) (.i (b:Int)) (.i lim) (.func 69 [] [.q xb]) (.bool bal) (.bool par) Ud Ud Ud Ud Ud Ud Ud Ud Ud) (Mm enc H db l []) x E (Mm enc H db l' [])∧Out xb enc lt dom H db n cap a b l x E l':=by
 have hn:=S.nb
 have t0:=Qmp (xb:=xb) 0 db n cap (Mm enc H db l []) 0 a b lim (y10:=.bool bal) (y11:=.bool par) (y12:=Ud) (y13:=Ud) (y14:=Ud) (y15:=Ud) (y16:=Ud) (y17:=Ud) (y18:=Ud) (y19:=Ud) (y20:=Ud)
 have e0:qA.wrap ((b:Int)-(a:Int))=((b-a:Nat):Int):=(by rw [Qs (by omega) (by omega)];omega)
 rw [e0] at t0
 by_cases c1:b-a≤12
 ·obtain ⟨l',hc,w1,w2⟩:=Qk8 S hL (cap:=cap) (T:=[]) rfl hab hb hl hD
  obtain ⟨N1,hN1⟩:=hc.from
  have t1:=Qmq (xb:=xb) N1 db n cap (Mm enc H db l []) 0 a b lim (b-a) (y10:=.bool bal) (y11:=.bool par) (y13:=Ud) (y14:=Ud) (y15:=Ud) (y16:=Ud) (y17:=Ud) (y18:=Ud) (y19:=Ud) (y20:=Ud) (by omega) hN1
  exact ⟨_,_,l',sq (t0) (sqo (t1) (c:=sn 113 B88) (b:=sn 227 B88)) (c:=sn 56 B88),w1,.inl ⟨rfl,w2⟩⟩
 have t1:=Qmr (xb:=xb) 0 db n cap (Mm enc H db l []) 0 a b lim (b-a) (y10:=.bool bal) (y11:=.bool par) (y13:=Ud) (y14:=Ud) (y15:=Ud) (y16:=Ud) (y17:=Ud) (y18:=Ud) (y19:=Ud) (y20:=Ud) (by omega)
 by_cases c2:lim=0
 ·obtain ⟨l',hc,w1,w2⟩:=Qgi S hL (cap:=cap) (T:=[]) rfl (a:=a) (by omega) hb hl hD
  obtain ⟨N1,hN1⟩:=hc.from
  have t2:=Qms (xb:=xb) N1 db n cap (Mm enc H db l []) 0 a b lim (y10:=.bool bal) (y11:=.bool par) (y12:=.i ((b-a:Nat):Int)) (y13:=Ud) (y14:=Ud) (y15:=Ud) (y16:=Ud) (y17:=Ud) (y18:=Ud) (y19:=Ud) (y20:=Ud) c2 hN1
  exact ⟨_,_,l',sq (t0) (sq (t1) (sqo (t2) (c:=sn 227 B88) (b:=sn 455 B88)) (c:=sn 113 B88)) (c:=sn 56 B88),w1,.inl ⟨rfl,w2⟩⟩
 have t2:=Qmt (xb:=xb) 0 db n cap (Mm enc H db l []) 0 a b lim (y10:=.bool bal) (y11:=.bool par) (y12:=.i ((b-a:Nat):Int)) (y13:=Ud) (y14:=Ud) (y15:=Ud) (y16:=Ud) (y17:=Ud) (y18:=Ud) (y19:=Ud) (y20:=Ud) c2
 have on:∀(lim1:Int) (l1:List α),0≤lim1→lim1≤1000→Sw a b l l1→RT polSo 88 (sn 910 B88) (WW (.sl db 0 n cap n 1) (.i (a:Int)) (.i (b:Int)) (.i lim) (.func 69 [] [.q xb]) (.bool bal) (.bool par) (.i ((b-a:Nat):Int)) Ud Ud Ud Ud Ud Ud Ud Ud) (Mm enc H db l []) .normal (WW (.sl db 0 n cap n 1) (.i (a:Int)) (.i (b:Int)) (.i lim1) (.func 69 [] [.q xb]) (.bool bal) (.bool par) (.i ((b-a:Nat):Int)) Ud Ud Ud Ud Ud Ud Ud Ud) (Mm enc H db l1 []) →
   ∃x E l',RT polSo 88 (sn 56 B88) (WW (.sl db 0 n cap n 1) (.i (a:Int)) (.i (b:Int)) (.i lim) (.func 69 [] [.q xb]) (.bool bal) (.bool par) Ud Ud Ud Ud Ud Ud Ud Ud Ud) (Mm enc H db l []) x E (Mm enc H db l' [])∧Out xb enc lt dom H db n cap a b l x E l':=fun lim1 l1 hq0 hq1 w t3=>by
  have hl1':=WK w hl
  have hD1:=hD.sw w (by omega)
  obtain ⟨p,h,hc,p1,p2⟩:=QmQ S (cap:=cap) (a:=a) (b:=b) (by omega) hb hl1' hD1
  obtain ⟨N1,hN1⟩:=hc.from
  have t4:=Qmw (xb:=xb) N1 db n cap (Mm enc H db l1 []) 0 a b lim1 (y10:=.bool bal) (y11:=.bool par) (y12:=.i ((b-a:Nat):Int)) (y13:=Ud) (y14:=Ud) (y15:=Ud) (y16:=Ud) (y17:=Ud) (y18:=Ud) (y19:=Ud) (y20:=Ud) hN1
  obtain ⟨x,E,l',t,ho⟩:=Qsw S hL (cap:=cap) (k:=b-a) (p:=p) (bal:=bal) (par:=par) (h:=h) hd p1 p2 hb (by omega) hq0 hq1 hl1' hD1 (hF.sw (by omega) w)
  have t5:=sq t4 t (c:=sn 911 B88)
  have t6:=sq t3 t5 (c:=sn 455 B88)
  have t7:=sq t2 t6 (c:=sn 227 B88)
  have t8:=sq t1 t7 (c:=sn 113 B88)
  exact ⟨x,E,l',sq t0 t8 (c:=sn 56 B88),Out.pre w ho⟩
 cases bal with
 | true=>exact on lim l hl0 hl1 .refl (Qmu (xb:=xb) 0 db n cap (Mm enc H db l []) 0 a b lim)
 | false =>
  obtain ⟨l1,hc,w⟩:=QmS S (cap:=cap) (a:=a) (b:=b) (by omega) hb hl
  obtain ⟨N1,hN1⟩:=hc.from
  have t3:=Qmv (xb:=xb) N1 db n cap (Mm enc H db l []) 0 a b lim (y11:=.bool par) (y12:=.i ((b-a:Nat):Int)) (y13:=Ud) (y14:=Ud) (y15:=Ud) (y16:=Ud) (y17:=Ud) (y18:=Ud) (y19:=Ud) (y20:=Ud) hN1
  rw [Qs (n:=lim-1) (by omega) (by omega)] at t3
  exact on (lim-1) l1 (by omega) (by omega) w t3
theorem Qgs (S:So xb enc lt dom H db n) (hL:Lin lt):∀(d:Nat) (a b:Nat) (lim:Int) (bal par:Bool) (l:List α),b-a<d→YX xb enc lt dom H db n cap (b-a)→a≤b→b≤n→0≤lim→lim≤1000→l.length=n→Dm dom l→Flo lt a b l →
  ∃E l',RT polSo 88 (sn 14 B88) (WW (.sl db 0 n cap n 1) (.i (a:Int)) (.i (b:Int)) (.i lim) (.func 69 [] [.q xb]) (.bool bal) (.bool par) Ud Ud Ud Ud Ud Ud Ud Ud Ud) (Mm enc H db l []) .ret E (Mm enc H db l' [])∧Sw a b l l'∧QN lt a b l':=by
 have hn:=S.nb
 intro d
 induction d with
 | zero=>intro a b lim bal par l hd;omega
 | succ d ih =>
  intro a b lim bal par l hd hP hab hb h0 h1 hl hD hF
  obtain ⟨x,E,l1,t,w,ho⟩:=Qsx S hL (cap:=cap) (bal:=bal) (par:=par) hP hab hb h0 h1 hl hD hF
  rcases ho with ⟨rfl,hs⟩ | ⟨hx,a',b',lim',bal',par',y2,y3,y4,y5,y6,y7,y8,y9,y10,rfl,q1,q2,q3,q4,q5,q6,q7,q8⟩
  ·exact ⟨_,l1,lpo (RunsTo.block_ret (i:=1) (c:=sn 28 B88) t (by kernel_rfl)),w,hs⟩
  ·have st:RT polSo 88 (sn 28 B88) (WW (.sl db 0 n cap n 1) (.i (a:Int)) (.i (b:Int)) (.i lim) (.func 69 [] [.q xb]) (.bool bal) (.bool par) Ud Ud Ud Ud Ud Ud Ud Ud Ud) (Mm enc H db l []) .normal (WW (.sl db 0 n cap n 1) (.i (a':Int)) (.i (b':Int)) (.i lim') (.func 69 [] [.q xb]) (.bool bal') (.bool par') y2 y3 y4 y5 y6 y7 y8 y9 y10) (Mm enc H db l1 []):=by
    rcases hx with rfl | rfl
    ·exact RunsTo.block_normal (i:=1) t (by kernel_rfl)
    ·exact bke t
   have hl1:=WK w hl
   obtain ⟨E,l2,r,v1,v2⟩:=ih a' b' lim' bal' par' l1 (by omega) (fun a2 b2 lim2 l2 g1=>hP a2 b2 lim2 l2 (by omega)) q3 (by omega) q5 q6 hl1 (hD.sw w (by omega)) q7
   exact ⟨E,l2,lop (st) (gcM _ _ _ _ _ rfl) (r),w.trans (v1.mono q2 q4),q8 l2 v1 v2⟩
theorem QmT (S:So xb enc lt dom H db n) (hL:Lin lt) {a b:Nat} {lim:Int} {l:List α} (hP:YX xb enc lt dom H db n cap (b-a)) (hab:a≤b) (hb:b≤n) (h0:0≤lim) (h1:lim≤1000) (hl:l.length=n) (hD:Dm dom l) (hF:Flo lt a b l) :
  ∃l',ClS 88 [.sl db 0 n cap n 1,.int .i64 (a:Int),.int .i64 (b:Int),.int .i64 lim,.func 69 [] [.ptr xb 0 0 1]] (Mm enc H db l []) (.tuple []) (Mm enc H db l' [])∧Sw a b l l'∧QN lt a b l':=by
 obtain ⟨E,l',r,q⟩:=Qgs S hL (cap:=cap) _ a b lim true true l (Nat.lt_succ_self _) hP hab hb h0 h1 hl hD hF
 have t0:=Qmn (xb:=xb) 0 db n cap (Mm enc H db l []) 0 a b lim
 have t1:=Qmo (xb:=xb) 0 db n cap (Mm enc H db l []) 0 a b lim (y10:=.bool true) (y11:=Ud) (y12:=Ud) (y13:=Ud) (y14:=Ud) (y15:=Ud) (y16:=Ud) (y17:=Ud) (y18:=Ud) (y19:=Ud) (y20:=Ud)
 have t:=sq (t0) (sq (t1) (RunsTo.block_ret (i:=0) (c:=sn 7 B88) (r) (by kernel_rfl)) (c:=sn 3 B88)) (c:=B88)
 have hc:=CallsTo.shared (P:=Tp) (pol:=polSo) (g:=88) (fn:=Try.f88) (cd:=B88) (args:=[.sl db 0 n cap n 1,.int .i64 (a:Int),.int .i64 (b:Int),.int .i64 lim,.func 69 [] [.ptr xb 0 0 1]]) (v:=.tuple []) (by kernel_rfl) (by kernel_rfl) (by kernel_rfl) (by kernel_rfl) t (by kernel_rfl) (by simp) (by kernel_rfl)
 rw [gcM _ _ _ _ _ rfl] at hc
 exact ⟨l',hc,q⟩
theorem Qby (S:So xb enc lt dom H db n) (hL:Lin lt):∀d,YX xb enc lt dom H db n cap d
 | 0,_,_,_,_,h=>by omega
 | d+1,a,b,lim,l,h=>fun hab hb h0 h1 hl hD hF=>QmT S hL (fun a2 b2 lim2 l2 g=>Qby S hL d a2 b2 lim2 l2 (by omega)) hab hb h0 h1 hl hD hF
theorem QmU (S:So xb enc lt dom H db n) (hL:Lin lt) {lim:Int} (h0:0≤lim) (h1:lim≤1000) {l:List α} (hl:l.length=n) (hD:Dm dom l) :
  ∃l',ClS 88 [.sl db 0 n cap n 1,.int .i64 0,.int .i64 (n:Int),.int .i64 lim,.func 69 [] [.ptr xb 0 0 1]] (Mm enc H db l []) (.tuple []) (Mm enc H db l' [])∧l'.Perm l∧QN lt 0 n l':=by
 obtain ⟨l',hc,w,hs⟩:=Qby S hL (cap:=cap) (n+1) 0 n lim l (by omega) (Nat.zero_le _) (qB _) h0 h1 hl hD (fun h=>by omega)
 exact ⟨l',hc,w.perm (by omega),hs⟩
end
abbrev bN (n:Int) (l:List St):Blk:=.arr 2 [Qx n l] true 0
theorem Jj {H:Heap} {xb mx:Nat} {n:Int} {l:List St} (hb:H[xb]?=some (.arr 2 [Qx n l] true mx)):QH Tp H 22 (.ptr xb 0 1 1)=some (.imm .arg 3 (l.map Qa)) :=
 Kp (P:=Tp) (t:=22) (b:=xb) (i:=0) (off:=1) (tot:=1) (els:=[Qx n l]) (cs:=[.int .i64 n,.imm .arg 3 (l.map Qa)]) hb rfl rfl a22 i22 rfl
theorem Y9 {H:Heap} {xb mx:Nat} {n:Int} {l:List St} (hb:H[xb]?=some (.arr 2 [Qx n l] true mx)):QH Tp H 3 (.ptr xb 0 0 1)=some (.int .i64 n) :=
 Kp (P:=Tp) (t:=3) (b:=xb) (i:=0) (off:=0) (tot:=1) (els:=[Qx n l]) (cs:=[.int .i64 n,.imm .arg 3 (l.map Qa)]) hb rfl rfl a3 i3 rfl
theorem Qgt (w w2 i j:Int):(Qaz (Ym w w2) (Ym i j)<0)↔(w<w2∨(w=w2∧i<j)):=by
 unfold Qaz Ym
 by_cases c1:w<w2
 ·simp [c1]
 ·by_cases c2:w2<w
  ·simp [c1,c2] <;> omega
  ·by_cases c3:i<j
   ·simp [c1,c2,c3] <;> omega
   ·by_cases c4:j<i
    ·simp [c1,c2,c3,c4] <;> omega
    ·simp [c1,c2,c3,c4] <;> omega
theorem Qgu (H:Heap) (l:List Int):Sh kL H (.imm .lit 1 (l.map Qc)) l:=by
 show argP (.imm .lit 1 (l.map Qc))=_
 simp only [argP,Xr]
 rfl
theorem Qgv {H:Heap} {xb mx:Nat} {n:Int} {l:List St} (hb:H[xb]?=some (.arr 2 [Qx n l] true mx)) {i j:Int} (hi:0≤i∧i<(l.length:Int)) (hj:0≤j∧j<(l.length:Int)) :
  ClS 69 [Qc i,Qc j,.ptr xb 0 0 1] H (.int .i64 (Qaz (Ym (wOf l i) (wOf l j)) (Ym i j))) H:=by
 obtain ⟨a,rfl⟩:∃a:Nat,i=(a:Int):=⟨i.toNat,by omega⟩
 obtain ⟨b,rfl⟩:∃b:Nat,j=(b:Int):=⟨j.toNat,by omega⟩
 have g1:=gs (l:=l) (y:=a) (by omega)
 have g2:=gs (l:=l) (y:=b) (by omega)
 have c1:=at2 (pol':=polSo) (g:=71) (c1:=kI) (c2:=kI) (f:=fun x y=>some (.int .i64 (Ym x y))) (H:=H) (by kernel_rfl) (ShI H (wOf l (a:Int))) (ShI H (wOf l (b:Int))) rfl
 have c2:=at2 (pol':=polSo) (g:=71) (c1:=kI) (c2:=kI) (f:=fun x y=>some (.int .i64 (Ym x y))) (H:=H) (by kernel_rfl) (ShI H (a:Int)) (ShI H (b:Int)) rfl
 have c3:=at1 (pol':=polSo) (g:=70) (c1:=kL) (f:=fun l=>match l with | [a,b]=>some (.int .i64 (Qaz a b)) | _=>none) (H:=H) (by kernel_rfl) (Qgu H [Ym (wOf l (a:Int)) (wOf l (b:Int)),Ym (a:Int) (b:Int)]) rfl
 have s:=Qsp a b xb H (l.map Qa) (l.getD a (0,0,0)).1 (l.getD a (0,0,0)).2.1 (l.getD a (0,0,0)).2.2 (l.getD b (0,0,0)).1 (l.getD b (0,0,0)).2.1 (l.getD b (0,0,0)).2.2 _ _ _ _ _ _ (Jj hb) g1 (Jj hb) g2 c1 c2 c3
 have h:=CallsTo.shared (P:=Tp) (pol:=polSo) (g:=69) (fn:=Try.f69) (cd:=B69) (args:=[.int .i64 (a:Int),.int .i64 (b:Int),.ptr xb 0 0 1]) (v:=.int .i64 (Qaz (Ym (wOf l (a:Int)) (wOf l (b:Int))) (Ym (a:Int) (b:Int)))) (by kernel_rfl) (by kernel_rfl) (by kernel_rfl) (by kernel_rfl) s (by kernel_rfl) (by simp) (by kernel_rfl)
 rw [QI _ rfl] at h
 exact h
theorem So.sts {n:Int} {l:List St} {H:Heap} {xb db m:Nat} (hm:m≤60000) (hd:db<H.length) (hx:mxs H≤H.length) (hb:H[xb]?=some (bN n l)) (hne:xb≠db):So xb Qc (ltK l) (fun i=>0≤i∧i<(l.length:Int)) H db m:=by
 have hbl:∀(o:List Int) (T:Heap),(Mm Qc H db o T)[db]?=some (bI o):=fun o T=>by
  unfold Mm
  rw [qM (by simpa using hd),qO hd]
  rfl
 refine ⟨hm,hd,hx,fun o T i hl hi=>?_,fun o T i x hl hi=>?_,fun o T x y hl hT h1 h2=>?_⟩
 ·have:=Q3 (hbl o T) (y:=i) (by omega)
  rw [hl] at this
  exact this
 ·have:=Zl (hbl o T) (y:=i) (by omega) x
  rw [hl] at this
  show Q0 Tp _ 3 (.ptr db i 0 m) (.int .i64 x)=_
  rw [this]
  congr 1
  unfold Mm
  rw [List.set_append_left _ _ (by simpa using hd),List.set_set]
  rfl
 ·have hbx:(Mm Qc H db o T)[xb]?=some (bN n l):=by
   unfold Mm
   rw [qM (by
    rcases qE xb H.length with h | h
    ·simpa using h
    ·rw [qH h] at hb;cases hb),List.getElem?_set_ne (by omega)]
   exact hb
  obtain ⟨N,hN⟩:=(Qgv hbx h1 h2).from
  exact ⟨_,N,hN,by rw [Qgt];rfl⟩
theorem Qgw {n:Int} {l:List St} {H:Heap} {xb db m:Nat} {cap:Option Nat} {o:List Int} (hm:m≤60000) (ho:o.length=m) (hx:mxs H≤H.length) (hb:H[xb]?=some (bN n l)) (hne:xb≠db) (hdb:H[db]?=some (bI o)) (hD:∀x∈o,0≤x∧x<(l.length:Int)) :
  ∃o',ClS 68 [.sl db 0 m cap m 1,.func 69 [] [.ptr xb 0 0 1]] H (.tuple []) (H.set db (bI o'))∧o'.Perm o∧QN (ltK l) 0 m o':=by
 have hd:db<H.length:=by
  rcases qE db H.length with h | h
  ·exact h
  ·rw [qH h] at hdb;cases hdb
 have S:=So.sts (n:=n) (l:=l) (xb:=xb) (m:=m) hm hd hx hb hne
 have hlen:=G0 (x:=m) (by omega)
 have eM:∀o,Mm Qc H db o []=H.set db (bI o):=fun o=>by unfold Mm;rw [List.append_nil];rfl
 have eH:H.set db (bI o)=H:=by
  apply List.ext_getElem?
  intro i
  by_cases e:db=i
  ·subst e;rw [qO hd,hdb]
  ·rw [List.getElem?_set_ne e]
 obtain ⟨o',hc,h1,h2⟩:=QmU S (Qbt l) (cap:=cap) (lim:=(Zy m:Int)) (by omega) (by omega) ho hD
 rw [eM,eM,eH] at hc
 obtain ⟨N,hN⟩:=hc.from
 have hu:IntKind.u64.wrap (m:Int)=(m:Int):=by rw [Jr];omega
 have t:=QmP (xb:=xb) N db m cap H 0 (m0:=(Zy m:Int)) (H0:=H) (fun kf _=>by
  rw [hu,WS (pol:=polSo) (g:=63) (F:=Jm) (by kernel_rfl) (rs:=[.int .u64 (m:Int)]) rfl (res:=.int .i64 (Zy m:Int)) (by simp only [Jm];rw [if_pos (by omega),qG])];rfl) hN
 have hc2:=CallsTo.shared (P:=Tp) (pol:=polSo) (g:=68) (fn:=Try.f68) (cd:=B68) (args:=[.sl db 0 m cap m 1,.func 69 [] [.ptr xb 0 0 1]]) (v:=.tuple []) (by kernel_rfl) (by kernel_rfl) (by kernel_rfl) (by kernel_rfl) t (by kernel_rfl) (by simp) (by kernel_rfl)
 rw [QI _ (by simp)] at hc2
 exact ⟨o',hc2,h1,h2⟩
def VR:List HV→Option HV:=f1 kN fun p=>if p.2.length≤900 then some (.own 1 ((Qh p.2).map Qc)) else none
theorem QrU:Try.f54.results.toList=[.tmp 2]:=by kernel_rfl
theorem XA:QV Tp 54 VR:=by
 refine Qt (pol:=polSo) (fn:=Try.f54) (cd:=B54) Qk Qgc (by kernel_rfl) (by kernel_rfl) (ZJ polSo.prim _ _ (by kernel_rfl)) (by kernel_rfl) ?_
 intro args res h
 obtain ⟨⟨n,l⟩,rfl,hq⟩:=Xs h
 split at hq
 case isFalse=>cases hq
 rename_i hl
 simp only at hl
 cases hq
 have a:=QkE 0 n (l.map Qa)
 have b:=QkF 0 n (l.map Qa) (y3:=Ud) (y4:=Ud) (y7:=Ud) (y8:=Ud)
 have c:=QkG 0 n (l.map Qa) 0 [] (y4:=Ud) (y7:=Ud) (y8:=Ud)
 rw [qC] at c
 have r:=Wu (E:=fun i=>(Qbv (Qx n l) (.q 0) (.imm .lit 1 []) (.s 1 i) Ud (.i (l.length:Int)) (.i (i:Int)))) (Hs:=fun i=>[bN n l,bI (Qg i)]) l.length
  (E0:=fun i=>(Qbv (Qx n l) (.q 0) (.imm .lit 1 []) (.s 1 (i+1)) (.i (i:Int)) (.i (l.length:Int)) (.i ((i+1:Nat):Int)))) (H1:=fun i=>[bN n l,bI (Qg (i+1))])
  (fun i hi=>by
   have ap:=ZR (H:=[bN n l,bI (Qg i)]) (b:=1) (o:=Qg i) rfl (by rw [QM];omega) (i:Int)
   rw [QM,← Q6] at ap
   have e:(Qg i).map Qc++[.int .i64 (i:Int)]=(Qg (i+1)).map Qc:=by rw [Q6];simp [Qc]
   have s:=QkH 0 n (l.map Qa) i l.length i ((Qg i).map Qc) (y4:=Ud) (by omega) (ap.trans (by rw [e];rfl))
   rw [Qj (by omega),e] at s
   exact s) (fun i _=>by kernel_rfl) (fun i _=>QI _ rfl) (QkI 0 n (l.map Qa) l.length l.length l.length ((Qg l.length).map Qc) (y4:=Ud) (by omega)) (by simp) (c:=sn 58 B54) (by kernel_rfl) (fun i _=>by kernel_rfl)
 obtain ⟨o',q1,q2,q3⟩:=Qgw (n:=n) (l:=l) (H:=[bN n l,bI (Qg l.length)]) (xb:=0) (db:=1) (m:=l.length) (cap:=none) (o:=Qg l.length) (by omega) (QM _) (by show max 0 (max 0 0)≤2;decide) rfl (by omega) rfl (fun x hx=>startT_mem.1 hx)
 have ol:o'.length=l.length:=by rw [q2.length_eq,QM]
 obtain ⟨N,hN⟩:=q1.from
 have z:=QkJ N n (l.map Qa) l.length [bN n l,bI (Qg l.length)] (y4:=Ud) (y7:=.i (l.length:Int)) (y8:=.i (l.length:Int)) hN
 have eo:=Qay q2 (by rw [ol];exact q3)
 refine ⟨_,_,_,.sl 1 0 l.length none l.length 1,sq (a) (sq (b) (sq (sq (c) (bke (c:=sn 29 B54) (r)) (c:=sn 14 B54)) (z) (c:=sn 7 B54)) (c:=sn 3 B54)) (c:=B54),by simp,by simp only [Qf,QrU];rfl,?_⟩
 rw [← eo]
 exact U2 (b:=1) rfl ol
end Go.Proofs.Ytiejmoglooaalaa
end
section
open Go Go.HL
namespace Go.Proofs.Ytiejmoglooaalaa
set_option linter.unusedSectionVars false
open Go.Proofs.Try renaming prog → Tp
open Go.HL.HV renaming undef → Ud
def sA (l:List St) (k:Int):Int:=(l.getD k.toNat (0,0,0)).1
def sB (l:List St) (k:Int):Int:=(l.getD k.toNat (0,0,0)).2.1
def KX (l:List St) (s:List Int×List Int×List Int) (k:Int):List Int×List Int×List Int :=
 (upJ s.1 s.2.1 (sA l k) (sB l k),Zo s.2.1 (sA l k) (sB l k),if s.2.1.getD (sA l k).toNat 0≠s.2.1.getD (sB l k).toNat 0 then s.2.2++[k] else s.2.2)
def ksT (l:List St) (t:List Int):List Int×List Int×List Int:=t.foldl (KX l) (Qg 16,Qg 16,[])
def Qy (l:List St) (t:List Int):List Int:=(ksT l t).2.1
def tkT (l:List St) (t:List Int):List Int:=(ksT l t).2.2
def Jk (l:List St):Bool:=l.all fun s=>decide ((0≤s.1∧s.1<16)∧0≤s.2.1∧s.2.1<16)
theorem endB_iff {l:List St}:Jk l=true↔∀s∈l,(0≤s.1∧s.1<16)∧0≤s.2.1∧s.2.1<16:=by simp [Jk]
theorem Ku {l:List St} (he:Jk l=true) {k:Int} (hk:0≤k∧k<(l.length:Int)):(0≤sA l k∧sA l k<16)∧0≤sB l k∧sB l k<16:=endB_iff.1 he _ (Qw _ (by omega))
theorem JL {l:List St} (he:Jk l=true) {t:List Int} (ht:∀k∈t,0≤k∧k<(l.length:Int)):Up (ksT l t).1 (ksT l t).2.1:=by
 have key:∀(t:List Int) (s:List Int×List Int×List Int),(∀k∈t,0≤k∧k<(l.length:Int))→Up s.1 s.2.1→Up (t.foldl (KX l) s).1 (t.foldl (KX l) s).2.1:=by
  intro t
  induction t with
  | nil=>intro s _ h;exact h
  | cons k t ih =>
   intro s hk h
   obtain ⟨⟨a1,a2⟩,b1,b2⟩:=Ku he (hk k (by simp))
   refine ih _ (fun x hx=>hk x (by simp [hx])) ?_
   have:=h.join (u:=(sA l k).toNat) (v:=(sB l k).toNat) (by omega) (by omega)
   rw [show (((sA l k).toNat:Nat):Int)=sA l k by omega,show (((sB l k).toNat:Nat):Int)=sB l k by omega] at this
   exact this
 exact key t _ ht Up.start
theorem X3 (l:List St) (t:List Int) {i:Nat} (hi:i<t.length):ksT l (t.take (i+1))=KX l (ksT l (t.take i)) (t.getD i 0):=by
 rw [List.take_add_one,List.getElem?_eq_getElem hi,ksT,List.foldl_append,QA hi];rfl
theorem Ua (l:List St) (t:List Int):(ksT l t).2.2.length≤t.length:=by
 have key:∀(t:List Int) (s:List Int×List Int×List Int),(t.foldl (KX l) s).2.2.length≤s.2.2.length+t.length:=by
  intro t
  induction t with
  | nil=>intro s;exact qB _
  | cons k t ih =>
   intro s
   have:=ih (KX l s k)
   have h2:(KX l s k).2.2.length≤s.2.2.length+1:=by
    unfold KX;simp only;split <;> simp
   rw [List.foldl_cons,List.length_cons];omega
 have:=key t (Qg 16,Qg 16,[])
 simpa [ksT] using this
section
variable {F:FuncId→Option (List HV→Option HV)}
theorem Qsy (H:Heap) (A B C:Blk):(H++[A,B]).set (H.length+1) C=H++[A,C]:=by
 rw [qJ _ _ (by omega),show H.length+1-H.length=1 by omega];rfl
theorem Qih (H:Heap) (A B:Blk):(H++[A,B])[H.length]?=some A:=by rw [qF (qB _),Nat.sub_self];rfl
theorem Qep (H:Heap) (A B:Blk):(H++[A,B])[H.length+1]?=some B:=by rw [qF (by omega),show H.length+1-H.length=1 by omega];rfl
theorem WX {H X:Heap} {k:Nat} {B:Blk} (h:H[k]?=some B):(H++X)[k]?=some B:=by
 rcases qE k H.length with c | c
 ·rw [qM c];exact h
 ·rw [qH c] at h;cases h
theorem Gg (h53:F 53=none) (h55:F 55=none) (h56:F 56=none) (h57:F 57=none) {n:Int} {l:List St} (he:Jk l=true) {t o:List Int} (ht:∀k∈t,0≤k∧k<(l.length:Int)) (hl:t.length≤1000) {H:Heap} (hm:mxs H≤H.length) {lb:Nat} {cap:Option Nat} (hb:H[lb]?=some (bI o)) (ho:∀i,i<t.length→i<o.length∧o.getD i 0=t.getD i 0) :
  ClF F 57 [Qx n l,.sl lb 0 t.length cap o.length 1] H (.tuple [.ptr (H.length+1) 0 0 1,.int .i64 ((ksT l t).2.2.length:Int)]) (H++[bN n l,bU (ksT l t).1]):=by
 have ixs:∀i,i<t.length→ZI Tp 24 (.sl lb 0 t.length cap o.length 1) (.int .i64 (i:Int))=some (.ptr lb i 0 o.length):=fun i hi=>by
  have:=UV (P:=Tp) (t:=24) (b:=lb) (len:=t.length) (tot:=o.length) (cap:=cap) (ik:=.i64) (n:=(i:Int)) u24 z3 (by omega) (by omega)
  rwa [qG] at this
 have lds:∀(X:Heap) i,i<t.length→QH Tp (H++X) 3 (.ptr lb i 0 o.length)=some (.int .i64 ((t.getD i 0).toNat:Int)):=fun X i hi=>by
  rw [Q3 (WX hb) (ho i hi).1,(ho i hi).2]
  have:=ht _ (Qw 0 hi)
  rw [show (((t.getD i 0).toNat:Nat):Int)=t.getD i 0 by omega]
 have hN:H[H.length]?=none:=qH (qB _)
 have a:=Qkv (F:=F) 0 n (l.map Qa) lb t.length o.length cap H (a0:=.ptr H.length 0 0 1) (H0:=H++[bN n l]) rfl
 obtain ⟨N0,c53⟩:=CallsTo.from (Xv (F:=F) h53 (H++[bN n l]) (by rw [W7];simp only [mxs,Blk.mx,qD,qN];omega))
 rw [qI,qD,qN] at c53
 have b:=Qkw (F:=F) N0 n (l.map Qa) lb t.length o.length cap (H++[bN n l]) H.length (H.length+1) c53
 have c:=Qkx (F:=F) 0 n (l.map Qa) lb t.length o.length cap (H++[bN n l,bU (Qg 16)]) H.length (H.length+1)
 have d:=Qky (F:=F) 0 n (l.map Qa) lb t.length o.length cap (H++[bN n l,bU (Qg 16)]) H.length (H.length+1) 0
 skip
 have r:=Wu (pol':=plF F) (f:=57) (E:=fun i=>(Gf (Qx n l) (.sl lb 0 t.length cap o.length 1) (.ptr H.length 0 0 1) Ud (.i 0) (.q (H.length+1)) (.i (((ksT l (t.take i)).2.2.length:Nat):Int)) Ud (.sl lb 0 t.length cap o.length 1) (.i (t.length:Int)) (.i (i:Int)))) (Hs:=fun i=>H++[bN n l,bU (ksT l (t.take i)).1]) t.length
  (E0:=fun i=>(Gf (Qx n l) (.sl lb 0 t.length cap o.length 1) (.ptr H.length 0 0 1) Ud (.i 0) (.q (H.length+1)) (.i (((ksT l (t.take (i+1))).2.2.length:Nat):Int)) (.i ((t.getD i 0).toNat:Int)) (.sl lb 0 t.length cap o.length 1) (.i (t.length:Int)) (.i ((i+1:Nat):Int)))) (H1:=fun i=>H++[bN n l,bU (ksT l (t.take (i+1))).1])
  (fun i hi=>by
   have hk:=ht _ (Qw 0 hi)
   have hU:=JL he (t:=t.take i) fun k hk=>ht k (List.mem_of_mem_take hk)
   obtain ⟨e1,e2⟩:=Ku he hk
   obtain ⟨N1,cj⟩:=CallsTo.from (U5 (F:=F) h55 h56 (H:=H++[bN n l,bU (ksT l (t.take i)).1]) (Qep H _ _) hU e1 e2)
   rw [Qsy] at cj
   have hs:=X3 l t hi
   have g2:=gs (l:=l) (y:=(t.getD i 0).toNat) (by omega)
   have ln:=Jj (H:=H++[bN n l,bU (ksT l (t.take i)).1]) (Qih H _ _)
   have hlen:=Ua l (t.take i)
   rw [List.length_take] at hlen
   have es:(ksT l (t.take (i+1))).1=upJ (ksT l (t.take i)).1 (ksT l (t.take i)).2.1 (sA l (t.getD i 0)) (sB l (t.getD i 0)):=by rw [hs];rfl
   by_cases cc:(ksT l (t.take i)).2.1.getD (sA l (t.getD i 0)).toNat 0≠(ksT l (t.take i)).2.1.getD (sB l (t.getD i 0)).toNat 0
   ·rw [decide_eq_true cc] at cj
    have s:=Qkz (F:=F) N1 n (l.map Qa) lb t.length o.length cap (H++[bN n l,bU (ksT l (t.take i)).1]) H.length (H.length+1) (ksT l (t.take i)).2.2.length t.length i (t.getD i 0).toNat (l.getD (t.getD i 0).toNat (0,0,0)).1 (l.getD (t.getD i 0).toNat (0,0,0)).2.1 (l.getD (t.getD i 0).toNat (0,0,0)).2.2 (by omega) (ixs i hi) (lds _ i hi) ln g2 ln g2 cj
    have el:(ksT l (t.take (i+1))).2.2.length=(ksT l (t.take i)).2.2.length+1:=by rw [hs,KX];simp only;rw [if_pos cc];simp
    rw [Qj (by omega),Qj (by omega),← el,← es] at s
    exact s
   ·rw [decide_eq_false cc] at cj
    have s:=QkA (F:=F) N1 n (l.map Qa) lb t.length o.length cap (H++[bN n l,bU (ksT l (t.take i)).1]) H.length (H.length+1) (ksT l (t.take i)).2.2.length t.length i (t.getD i 0).toNat (l.getD (t.getD i 0).toNat (0,0,0)).1 (l.getD (t.getD i 0).toNat (0,0,0)).2.1 (l.getD (t.getD i 0).toNat (0,0,0)).2.2 (by omega) (ixs i hi) (lds _ i hi) ln g2 ln g2 cj
    have el:(ksT l (t.take (i+1))).2.2.length=(ksT l (t.take i)).2.2.length:=by rw [hs,KX];simp only;rw [if_neg cc]
    rw [Qj (by omega),← es] at s
    rw [el]
    exact s) (fun i _=>by kernel_rfl) (fun i _=>QI _ (by simp)) (QkB (F:=F) 0 n (l.map Qa) lb t.length o.length cap (H++[bN n l,bU (ksT l (t.take t.length)).1]) H.length (H.length+1) (ksT l (t.take t.length)).2.2.length t.length t.length 0 0 0 0 (by omega)) (by simp) (c:=sn 122 B57) (by kernel_rfl) (fun i _=>by kernel_rfl)
 have z:=QkC (F:=F) 0 n (l.map Qa) lb t.length o.length cap (H++[bN n l,bU (ksT l (t.take t.length)).1]) H.length (H.length+1) (ksT l (t.take t.length)).2.2.length (y11:=(.sl lb 0 t.length cap o.length 1)) (y12:=.i (t.length:Int)) (y13:=.i (t.length:Int))
 have u:=sq (a) (sq (b) (sq (c) (sq (sq (d) (bke (c:=sn 61 B57) (r)) (c:=sn 30 B57)) (z) (c:=sn 15 B57)) (c:=sn 7 B57)) (c:=sn 3 B57)) (c:=B57)
 rw [List.take_length] at u
 have h:=CallsTo.shared (P:=Tp) (pol:=plF F) (g:=57) (fn:=Try.f57) (cd:=B57) (args:=[Qx n l,(.sl lb 0 t.length cap o.length 1)]) (v:=.tuple [.ptr (H.length+1) 0 0 1,.int .i64 ((ksT l t).2.2.length:Int)]) h57 (by kernel_rfl) (by kernel_rfl) (by kernel_rfl) u (by kernel_rfl) (by simp) (by kernel_rfl)
 have e:gc H.length (bnd (.tuple [.ptr (H.length+1) 0 0 1,.int .i64 ((ksT l t).2.2.length:Int)])) (H++[bN n l,bU (ksT l t).1])=H++[bN n l,bU (ksT l t).1]:=by
  unfold gc
  rw [qK]
  simp only [qD,List.length_cons,List.length_nil,bnd,bndL]
  omega
 rw [e] at h
 exact h
end
def Qd (l:List St):List Int:=tkT l (Qh l)
def Wk (n:Int) (l:List St):Bool:=decide (((Qd l).length:Int)=n-1)
def SB (n:Int) (l:List St):Prop:=Jk l=true∧l.length≤900∧0≤n∧n≤1000
instance (n:Int) (l:List St):Decidable (SB n l):=inferInstanceAs (Decidable (_∧_∧_∧_))
def Dd:List HV→Option HV:=f1 kN fun p=>if SB p.1 p.2 then some (.tuple [.own 1 ((Qd p.2).map Qc),.bool (Wk p.1 p.2)]) else none
def K0:FuncId→Option (List HV→Option HV):=fun g=>if g==54 then some VR else none
theorem Qgx (n:Nat):Qo Tp (Qb Tp (plF K0) n):=QF _ (fun g f h=>by
 unfold K0 at h
 split at h
 ·rename_i hg;cases h;rw [eq_of_beq hg];exact XA
 ·cases h) n
theorem QrV:Try.f40.results.toList=[.tmp 2,.tmp 3]:=by kernel_rfl
theorem G4 (l:List Int) (x:Bool) (H:Heap):Zt (.tuple [.own 1 (l.map Qc),.bool x]) H=(.tuple [.sl H.length 0 l.length none l.length 1,.bool x],H++[bI l]):=by
 have h:Wb (.own 1 (l.map Qc)) H=(.sl H.length 0 l.length none l.length 1,H++[bI l]):=by
  simp only [Wb,Kq,qC];rfl
 simp only [Zt,Zs,ZK,h];rfl
theorem QmV {H:Heap} {b k:Nat} {o:List Int} (hb:H[b]?=some (bI o)) (hk:o.length=k) (x:Bool):Wv H false (.tuple [.sl b 0 k none k 1,.bool x])=some (.tuple [.own 1 (o.map Qc),.bool x]):=by
 have hr:=W0 (H:=H) (no:=[b]) (b:=b) (k:=1) (m:=k) (cap:=none) (els:=o.map Qc) hb (by simpa using hk) (Wj (fun r=>Z7 4 r) _)
 have ho:QD H false (.tuple [.sl b 0 k none k 1,.bool x])=[b]:=by simp [QD,cellsOf,W5,hb]
 simp only [Wv,ho,List.nodup_cons,List.not_mem_nil,not_false_eq_true,List.nodup_nil,and_self,if_true,WP,mapO,hr]
 rfl
theorem Ub:QV Tp 40 Dd:=by
 refine Qt (pol:=plF K0) (fn:=Try.f40) (cd:=B40) Qk Qgx (by kernel_rfl) (by kernel_rfl) (ZJ K0 _ _ (by kernel_rfl)) (by kernel_rfl) ?_
 intro args res h
 obtain ⟨⟨n,l⟩,rfl,hq⟩:=Xs h
 split at hq
 case isFalse=>cases hq
 rename_i hc
 obtain ⟨he,hl,n0,n1⟩:=hc
 simp only at he hl n0 n1
 cases hq
 have ht:∀k∈Qh l,0≤k∧k<(l.length:Int):=fun k hk=>ordT_mem.1 hk
 have hol:=Sy l
 have a:=Qkm (F:=K0) 0 n (l.map Qa)
 obtain ⟨N0,c53⟩:=CallsTo.from (Xv (F:=K0) (by kernel_rfl) [bN n l] (by show max 0 0≤2;decide))
 have b:=Qkn (F:=K0) N0 n (l.map Qa) [bN n l] c53
 have c:=Qko (F:=K0) 0 n (l.map Qa) ((Qg 16).map Qc)
 have c54:=at1 (pol':=plF K0) (g:=54) (c1:=kN) (f:=fun p=>if p.2.length≤900 then some (.own 1 ((Qh p.2).map Qc)) else none) (H:=[bN n l,bU (Qg 16),bI []]) (by kernel_rfl) (ShN _ n l) (if_pos hl)
 rw [ZY,hol] at c54
 have d:=Qkp (F:=K0) 0 n (l.map Qa) [bN n l,bU (Qg 16),bI []] 0 l.length (UW (P:=Tp) (b:=0) (els:=[Qx n l]) (cs:=[.int .i64 n,.imm .arg 3 (l.map Qa)]) rfl rfl rfl a66 z66) c54
 have hT:Qd l=(ksT l (Qh l)).2.2:=rfl
 have hCn:Wk n l=decide (((ksT l (Qh l)).2.2.length:Int)=n-1):=rfl
 generalize Qh l=o at *
 have r:=Wu (pol':=plF K0) (f:=40) (E:=fun i=>(Ge (Qx n l) (.q 0) (.imm .lit 1 []) (.bool false) (.q 1) (.sl 2 0 (ksT l (o.take i)).2.2.length none (ksT l (o.take i)).2.2.length 1) Ud (.s 3 l.length) (.i (l.length:Int)) (.i (i:Int)))) (Hs:=fun i=>[bN n l,bU (ksT l (o.take i)).1,bI (ksT l (o.take i)).2.2,bI o]) l.length
  (E0:=fun i=>(Ge (Qx n l) (.q 0) (.imm .lit 1 []) (.bool false) (.q 1) (.sl 2 0 (ksT l (o.take (i+1))).2.2.length none (ksT l (o.take (i+1))).2.2.length 1) (.i ((o.getD i 0).toNat:Int)) (.s 3 l.length) (.i (l.length:Int)) (.i ((i+1:Nat):Int)))) (H1:=fun i=>[bN n l,bU (ksT l (o.take (i+1))).1,bI (ksT l (o.take (i+1))).2.2,bI o])
  (fun i hi=>by
   have hi2:i<o.length:=by omega
   have hk:=ht _ (Qw 0 hi2)
   have hU:=JL he (t:=o.take i) fun k hk=>ht k (List.mem_of_mem_take hk)
   obtain ⟨e1,e2⟩:=Ku he hk
   obtain ⟨N1,cj⟩:=CallsTo.from (U5 (F:=K0) (by kernel_rfl) (by kernel_rfl) (H:=[bN n l,bU (ksT l (o.take i)).1,bI (ksT l (o.take i)).2.2,bI o]) (b:=1) rfl hU e1 e2)
   have hs:=X3 l o hi2
   have g2:=gs (l:=l) (y:=(o.getD i 0).toNat) (by omega)
   have ix:=UV (P:=Tp) (t:=24) (b:=3) (len:=l.length) (tot:=l.length) (cap:=none) (ik:=.i64) (n:=(i:Int)) u24 z3 (by omega) (by omega)
   rw [qG] at ix
   have ld:=Q3 (H:=[bN n l,bU (ksT l (o.take i)).1,bI (ksT l (o.take i)).2.2,bI o]) (k:=3) (o:=o) rfl hi2
   rw [hol,show o.getD i 0=(((o.getD i 0).toNat:Nat):Int) by omega] at ld
   have ln:=Jj (H:=[bN n l,bU (ksT l (o.take i)).1,bI (ksT l (o.take i)).2.2,bI o]) (xb:=0) rfl
   have hlen:=Ua l (o.take i)
   rw [List.length_take] at hlen
   have es:(ksT l (o.take (i+1))).1=upJ (ksT l (o.take i)).1 (ksT l (o.take i)).2.1 (sA l (o.getD i 0)) (sB l (o.getD i 0)):=by rw [hs];rfl
   have ek:(((o.getD i 0).toNat:Nat):Int)=o.getD i 0:=by omega
   by_cases cc:(ksT l (o.take i)).2.1.getD (sA l (o.getD i 0)).toNat 0≠(ksT l (o.take i)).2.1.getD (sB l (o.getD i 0)).toNat 0
   ·rw [decide_eq_true cc] at cj
    have el:(ksT l (o.take (i+1))).2.2=(ksT l (o.take i)).2.2++[(((o.getD i 0).toNat:Nat):Int)]:=by rw [hs,KX];simp only;rw [if_pos cc,ek]
    have ap:=ZR (H:=[bN n l,bU (upJ (ksT l (o.take i)).1 (ksT l (o.take i)).2.1 (sA l (o.getD i 0)) (sB l (o.getD i 0))),bI (ksT l (o.take i)).2.2,bI o]) (b:=2) (o:=(ksT l (o.take i)).2.2) rfl (by omega) (((o.getD i 0).toNat:Nat):Int)
    rw [← el,← es] at ap
    have s:=Qkq (F:=K0) N1 n (l.map Qa) [bN n l,bU (ksT l (o.take i)).1,bI (ksT l (o.take i)).2.2,bI o] (ksT l (o.take i)).2.2.length l.length i (o.getD i 0).toNat (l.getD (o.getD i 0).toNat (0,0,0)).1 (l.getD (o.getD i 0).toNat (0,0,0)).2.1 (l.getD (o.getD i 0).toNat (0,0,0)).2.2 (by omega) ix ld ln g2 ln g2 cj (by rw [← es];exact ap)
    have el2:(ksT l (o.take (i+1))).2.2.length=(ksT l (o.take i)).2.2.length+1:=by rw [el];simp
    rw [Qj (by omega),← el2] at s
    exact s
   ·rw [decide_eq_false cc] at cj
    have el:(ksT l (o.take (i+1))).2.2=(ksT l (o.take i)).2.2:=by rw [hs,KX];simp only;rw [if_neg cc]
    have s:=Qkr (F:=K0) N1 n (l.map Qa) [bN n l,bU (ksT l (o.take i)).1,bI (ksT l (o.take i)).2.2,bI o] (ksT l (o.take i)).2.2.length l.length i (o.getD i 0).toNat (l.getD (o.getD i 0).toNat (0,0,0)).1 (l.getD (o.getD i 0).toNat (0,0,0)).2.1 (l.getD (o.getD i 0).toNat (0,0,0)).2.2 (by omega) ix ld ln g2 ln g2 cj
    rw [Qj (by omega),← es] at s
    rw [el]
    exact s) (fun i _=>by kernel_rfl) (fun i _=>QI _ rfl) (Qks (F:=K0) 0 n (l.map Qa) [bN n l,bU (ksT l (o.take l.length)).1,bI (ksT l (o.take l.length)).2.2,bI o] (ksT l (o.take l.length)).2.2.length l.length l.length 0 0 0 0 (by omega)) (by simp) (c:=sn 122 B40) (by kernel_rfl) (fun i _=>by kernel_rfl)
 have eo:o.take l.length=o:=qK (by omega)
 rw [eo] at r
 have hw:qA.wrap (n-1)=n-1:=Qs (by omega) (by omega)
 have hlen:=Ua l o
 have fin:∃E H2,RT (plF K0) 40 (sn 31 B40) ((Ge (Qx n l) (.q 0) (.imm .lit 1 []) (.bool false) (.q 1) (.sl 2 0 (ksT l o).2.2.length none (ksT l o).2.2.length 1) Ud (.s 3 l.length) (.i (l.length:Int)) (.i (l.length:Int)))) [bN n l,bU (ksT l o).1,bI (ksT l o).2.2,bI o] .ret E H2∧H2=[bN n l,bU (ksT l o).1,bI (ksT l o).2.2,bI o]∧E.get 2=.sl 2 0 (ksT l o).2.2.length none (ksT l o).2.2.length 1∧E.get 3=.bool (decide (((ksT l o).2.2.length:Int)=n-1)):=by
  by_cases cc:((ksT l o).2.2.length:Int)=n-1
  ·rw [decide_eq_true cc]
   exact ⟨_,_,Qkt (F:=K0) 0 n (l.map Qa) [bN n l,bU (ksT l o).1,bI (ksT l o).2.2,bI o] (ksT l o).2.2.length l.length (y10:=.s 3 l.length) (y11:=.i (l.length:Int)) (y12:=.i (l.length:Int)) (Y9 (xb:=0) rfl) (by rw [hw];exact cc),rfl,rfl,rfl⟩
  ·rw [decide_eq_false cc]
   exact ⟨_,_,Qku (F:=K0) 0 n (l.map Qa) [bN n l,bU (ksT l o).1,bI (ksT l o).2.2,bI o] (ksT l o).2.2.length l.length (y10:=.s 3 l.length) (y11:=.i (l.length:Int)) (y12:=.i (l.length:Int)) (Y9 (xb:=0) rfl) (by rw [hw];exact cc),rfl,rfl,rfl⟩
 obtain ⟨E2,H2,z,rfl,z2,z3⟩:=fin
 refine ⟨_,_,_,.tuple [.sl 2 0 (ksT l o).2.2.length none (ksT l o).2.2.length 1,.bool (decide (((ksT l o).2.2.length:Int)=n-1))],sq (a) (sq (b) (sq (c) (sq (sq (d) (bke (c:=sn 61 B40) (r)) (c:=sn 30 B40)) (z) (c:=sn 15 B40)) (c:=sn 7 B40)) (c:=sn 3 B40)) (c:=B40),by simp,by simp only [Qf,QrV,mapO,WG,z2,z3],?_⟩
 show Wv _ false _=some (.tuple [.own 1 ((Qd l).map Qc),.bool (Wk n l)])
 rw [hT,hCn]
 exact QmV (b:=2) rfl rfl _
end Go.Proofs.Ytiejmoglooaalaa
end
section
open Go Go.HL
namespace Go.Proofs.Ytiejmoglooaalaa
set_option maxRecDepth 100000
set_option linter.unusedSectionVars false
open Go.Proofs.Try renaming prog → Tp
open Go.HL.HV renaming undef → Ud
section
variable {F:FuncId→Option (List HV→Option HV)}
noncomputable def B60:Code:=Try.f60.body.getD .skip
abbrev Qii (v0 v1 v2 v3:HV):Env:=[(0,v0),(1,v1),(2,v2),(3,v3)]
end
abbrev e60 (a:Int) (b:Int) (w:Int) (nb:Nat) (u2:HV):Env:=Qii (.agg [.i a,.i b,.i w]) (.q nb) u2 (.bool true)
section
variable {F:FuncId→Option (List HV→Option HV)}
variable (a b w:Int) (nb:Nat) (H:Heap) (v:Int)
include a b w nb H v
theorem QmW {a0:HV} {H0:Heap} {a1:HV} {H1:Heap} {a2:HV} {H2:Heap} {a3:HV} {a4:HV} (g0:some (Q8 (.agg [.i a,.i b,.i w]) H)=some (a0,H0)) (g1:Qr Tp 42 a0 0=some (a1)) (g2:LD H0 3 (a1) (.i a)) (g3:LD H0 3 (.q nb) (.i v)) (g4:CM F 52 [.i a,.i 0,.i (qA.wrap (v-1))] H0 (.bool true) H1) (g5:Qr Tp 42 a0 1=some (a2)) (g6:LD H1 3 (a2) (.i b)) (g7:LD H1 3 (.q nb) (.i v)) (g8:CM F 52 [.i b,.i 0,.i (qA.wrap (v-1))] H1 (.bool true) H2) (g9:Qr Tp 42 a0 0=some (a3)) (g10:LD H2 3 (a3) (.i a)) (g11:Qr Tp 42 a0 1=some (a4)) (g12:LD H2 3 (a4) (.i b)) (g13:a=b): RU F 60 1 B60 [(0,.agg [.i a,.i b,.i w]),(1,.q nb)] H .ret (e60 a b w nb a0) H2 :=
 hx 0 60 [jR 0 0 g0,jO 1 0 H0 g1,jO 1 1 H0 g2,jO 1 2 H0 g3,jD 1 4 g4,jO 1 7 H1 g5,jO 1 8 H1 g6,jO 1 9 H1 g7,jD 1 11 g8,jO 1 15 H2 g9,jO 1 16 H2 g10,jO 1 17 H2 g11,jO 1 18 H2 g12,jT 1 19 H2 g13]
end
section
variable {F:FuncId→Option (List HV→Option HV)}
variable (a b w:Int) (nb:Nat) (H:Heap) (v:Int)
include a b w nb H v
theorem QmX {a0:HV} {H0:Heap} {a1:HV} {H1:Heap} {a2:HV} {H2:Heap} {a3:HV} {a4:HV} {a5:HV} {H3:Heap} (g0:some (Q8 (.agg [.i a,.i b,.i w]) H)=some (a0,H0)) (g1:Qr Tp 42 a0 0=some (a1)) (g2:LD H0 3 (a1) (.i a)) (g3:LD H0 3 (.q nb) (.i v)) (g4:CM F 52 [.i a,.i 0,.i (qA.wrap (v-1))] H0 (.bool true) H1) (g5:Qr Tp 42 a0 1=some (a2)) (g6:LD H1 3 (a2) (.i b)) (g7:LD H1 3 (.q nb) (.i v)) (g8:CM F 52 [.i b,.i 0,.i (qA.wrap (v-1))] H1 (.bool true) H2) (g9:Qr Tp 42 a0 0=some (a3)) (g10:LD H2 3 (a3) (.i a)) (g11:Qr Tp 42 a0 1=some (a4)) (g12:LD H2 3 (a4) (.i b)) (g13:¬(a=b)) (g14:Qr Tp 42 a0 2=some (a5)) (g15:LD H2 3 (a5) (.i w)) (g16:CM F 52 [.i w,.i 0,.i 1000] H2 (.bool true) H3): RU F 60 1 B60 [(0,.agg [.i a,.i b,.i w]),(1,.q nb)] H .ret (Qii (.agg [.i a,.i b,.i w]) (.q nb) a0 (.bool false)) H3 :=
 hx 0 60 [jR 0 0 g0,jO 1 0 H0 g1,jO 1 1 H0 g2,jO 1 2 H0 g3,jD 1 4 g4,jO 1 7 H1 g5,jO 1 8 H1 g6,jO 1 9 H1 g7,jD 1 11 g8,jO 1 15 H2 g9,jO 1 16 H2 g10,jO 1 17 H2 g11,jO 1 18 H2 g12,jF 1 19 H2 g13,jO 1 22 H2 g14,jO 1 23 H2 g15,jD 1 24 g16]
theorem QmY {a0:HV} {H0:Heap} {a1:HV} {H1:Heap} {a2:HV} {H2:Heap} {a3:HV} {a4:HV} {a5:HV} {H3:Heap} (g0:some (Q8 (.agg [.i a,.i b,.i w]) H)=some (a0,H0)) (g1:Qr Tp 42 a0 0=some (a1)) (g2:LD H0 3 (a1) (.i a)) (g3:LD H0 3 (.q nb) (.i v)) (g4:CM F 52 [.i a,.i 0,.i (qA.wrap (v-1))] H0 (.bool true) H1) (g5:Qr Tp 42 a0 1=some (a2)) (g6:LD H1 3 (a2) (.i b)) (g7:LD H1 3 (.q nb) (.i v)) (g8:CM F 52 [.i b,.i 0,.i (qA.wrap (v-1))] H1 (.bool true) H2) (g9:Qr Tp 42 a0 0=some (a3)) (g10:LD H2 3 (a3) (.i a)) (g11:Qr Tp 42 a0 1=some (a4)) (g12:LD H2 3 (a4) (.i b)) (g13:¬(a=b)) (g14:Qr Tp 42 a0 2=some (a5)) (g15:LD H2 3 (a5) (.i w)) (g16:CM F 52 [.i w,.i 0,.i 1000] H2 (.bool false) H3): RU F 60 1 B60 [(0,.agg [.i a,.i b,.i w]),(1,.q nb)] H .ret (e60 a b w nb a0) H3 :=
 hx 0 60 [jR 0 0 g0,jO 1 0 H0 g1,jO 1 1 H0 g2,jO 1 2 H0 g3,jD 1 4 g4,jO 1 7 H1 g5,jO 1 8 H1 g6,jO 1 9 H1 g7,jD 1 11 g8,jO 1 15 H2 g9,jO 1 16 H2 g10,jO 1 17 H2 g11,jO 1 18 H2 g12,jF 1 19 H2 g13,jO 1 22 H2 g14,jO 1 23 H2 g15,jD 1 24 g16]
theorem QmZ {a0:HV} {H0:Heap} {a1:HV} {H1:Heap} {a2:HV} {H2:Heap} (g0:some (Q8 (.agg [.i a,.i b,.i w]) H)=some (a0,H0)) (g1:Qr Tp 42 a0 0=some (a1)) (g2:LD H0 3 (a1) (.i a)) (g3:LD H0 3 (.q nb) (.i v)) (g4:CM F 52 [.i a,.i 0,.i (qA.wrap (v-1))] H0 (.bool true) H1) (g5:Qr Tp 42 a0 1=some (a2)) (g6:LD H1 3 (a2) (.i b)) (g7:LD H1 3 (.q nb) (.i v)) (g8:CM F 52 [.i b,.i 0,.i (qA.wrap (v-1))] H1 (.bool false) H2): RU F 60 1 B60 [(0,.agg [.i a,.i b,.i w]),(1,.q nb)] H .ret (e60 a b w nb a0) H2 :=
 hx 0 60 [jR 0 0 g0,jO 1 0 H0 g1,jO 1 1 H0 g2,jO 1 2 H0 g3,jD 1 4 g4,jO 1 7 H1 g5,jO 1 8 H1 g6,jO 1 9 H1 g7,jD 1 11 g8]
theorem Qm0 {a0:HV} {H0:Heap} {a1:HV} {H1:Heap} (g0:some (Q8 (.agg [.i a,.i b,.i w]) H)=some (a0,H0)) (g1:Qr Tp 42 a0 0=some (a1)) (g2:LD H0 3 (a1) (.i a)) (g3:LD H0 3 (.q nb) (.i v)) (g4:CM F 52 [.i a,.i 0,.i (qA.wrap (v-1))] H0 (.bool false) H1): RU F 60 1 B60 [(0,.agg [.i a,.i b,.i w]),(1,.q nb)] H .ret (e60 a b w nb a0) H1 :=
 hx 0 60 [jR 0 0 g0,jO 1 0 H0 g1,jO 1 1 H0 g2,jO 1 2 H0 g3,jD 1 4 g4]
end
section
variable {F:FuncId→Option (List HV→Option HV)}
noncomputable def B74:Code:=Try.f74.body.getD .skip
abbrev De (v0 v1 v4 v5 v7 v8:HV):Env:=[(0,v0),(1,v1),(4,v4),(5,v5),(7,v7),(8,v8)]
end
abbrev e74 (ls:List HV) (nb:Nat) (u3 u4 u5:HV):Env:=De (.g ls) (.func 60 [] [.q nb]) (.i 0) u3 u4 u5
section
variable {F:FuncId→Option (List HV→Option HV)}
variable (N:Nat) (ls:List HV) (nb:Nat) (H:Heap)
include N ls nb H
theorem Qm1:RU F 74 2 B74 [(0,.g ls),(1,.func 60 [] [.q nb])] H .normal (e74 ls nb Ud Ud Ud) H :=
 hx N 60 []
end
section
variable {F:FuncId→Option (List HV→Option HV)}
variable (N:Nat) (ls:List HV) (nb:Nat) (H:Heap)
include N ls nb H
theorem Qm2 (y5 y7 y8:HV:=Ud): RU F 74 12 B74 (e74 ls nb y5 y7 y8) H .normal (e74 ls nb y5 (.i (ls.length:Int)) (.i 0)) H :=
 hx N 60 []
theorem Qm3 (m j:Nat) (a b w:Int) {H0:Heap} (g0:(j:Int)<(m:Int)) (g1:IX 22 (.g ls) (.n j) (.vptr (.agg [.i a,.i b,.i w]))) (g2:CN F N 60 [.agg [.i a,.i b,.i w],.q nb] H (.bool true) H0) (y5:HV:=Ud): RU F 74 52 B74 (e74 ls nb y5 (.n m) (.n j)) H .ret (De (.g ls) (.func 60 [] [.q nb]) (.n j) (.n j) (.n m) (.n j)) H0 :=
 hx N 60 [jT 2 0 H g0,jO 4 3 H g1,jC 4 5 g2]
theorem Qm4 (m j:Nat) (a b w:Int) {H0:Heap} (g0:(j:Int)<(m:Int)) (g1:IX 22 (.g ls) (.n j) (.vptr (.agg [.i a,.i b,.i w]))) (g2:CN F N 60 [.agg [.i a,.i b,.i w],.q nb] H (.bool false) H0) (y5:HV:=Ud): RU F 74 52 B74 (e74 ls nb y5 (.n m) (.n j)) H .normal (e74 ls nb (.n j) (.n m) (.i (qA.wrap ((j:Int)+1)))) H0 :=
 hx N 60 [jT 2 0 H g0,jO 4 3 H g1,jC 4 5 g2]
theorem Qm5 (m j:Nat) (a b w:Int) (g0:¬((j:Int)<(m:Int))) (y5:HV:=Ud): RU F 74 52 B74 (e74 ls nb y5 (.n m) (.n j)) H (.exit 0) (e74 ls nb y5 (.n m) (.n j)) H :=
 hx N 60 [jF 2 0 H g0]
theorem Qm6 (y5 y7 y8:HV:=Ud): RU F 74 7 B74 (e74 ls nb y5 y7 y8) H .ret (De (.g ls) (.func 60 [] [.q nb]) (.i (-1)) y5 y7 y8) H :=
 hx N 60 []
end
section
variable {F:FuncId→Option (List HV→Option HV)}
noncomputable def B61:Code:=Try.f61.body.getD .skip
abbrev Qij (v0 v1 v4:HV):Env:=[(0,v0),(1,v1),(4,v4)]
theorem Qm7 (N:Nat) (ls:List HV) (nb:Nat) (H:Heap) {r0:Int} {H0:Heap} (g0:CN F N 74 [.g ls,.func 60 [] [.q nb]] H (.i r0) H0) (g1:0≤r0): RU F 61 1 B61 [(0,.g ls),(1,.func 60 [] [.q nb])] H .ret (Qij (.g ls) (.func 60 [] [.q nb]) (.bool true)) H0 :=
 hx N 60 [jC 1 2 g0,jT 1 3 H0 g1]
theorem Qm8 (N:Nat) (ls:List HV) (nb:Nat) (H:Heap) {r0:Int} {H0:Heap} (g0:CN F N 74 [.g ls,.func 60 [] [.q nb]] H (.i r0) H0) (g1:¬(0≤r0)): RU F 61 1 B61 [(0,.g ls),(1,.func 60 [] [.q nb])] H .ret (Qij (.g ls) (.func 60 [] [.q nb]) (.bool false)) H0 :=
 hx N 60 [jC 1 2 g0,jF 1 3 H0 g1]
noncomputable def B39:Code:=Try.f39.body.getD .skip
abbrev Qbz (v0 v1 v2 v4 v5 v6 v7:HV):Env:=[(0,v0),(1,v1),(2,v2),(4,v4),(5,v5),(6,v6),(7,v7)]
end
section
variable {F:FuncId→Option (List HV→Option HV)}
variable (N:Nat) (n:Int) (ls:List HV) (H:Heap)
include N n ls H
theorem Qm9 {a0:HV} {H0:Heap} {a1:HV} {H1:Heap} {H2:Heap} {H3:Heap} {H4:Heap} (g0:some (Q8 (.i n) H)=some (a0,H0)) (g1:some (Q8 (.agg [.i 0,.imm .lit 0 []]) H0)=some (a1,H1)) (g2:LD H1 3 (a0) (.i n)) (g3:CM F 52 [.i n,.i 1,.i 16] H1 (.bool true) H2) (g4:(ls.length:Int)≤60) (g5:CN F N 61 [.g ls,.func 60 [] [a0]] H2 (.bool true) H3) (g6:LD H3 3 (a0) (.i n)) (g7:ST H3 66 (a1) (.N n ls) H4): RU F 39 1 B39 [(0,.i n),(1,.g ls)] H .ret (Qbz (.i n) (.g ls) a0 a1 (.bool false) (.func 60 [] [a0]) (.bool false)) H4 :=
 hx N 60 [jR 0 0 g0,jR 0 1 g1,jO 2 0 H1 g2,jD 2 1 g3,jT 2 5 H2 g4,jC 2 10 g5,jO 3 0 H3 g6,jS 3 4 g7]
theorem Qna {a0:HV} {H0:Heap} {a1:HV} {H1:Heap} {H2:Heap} {H3:Heap} {H4:Heap} (g0:some (Q8 (.i n) H)=some (a0,H0)) (g1:some (Q8 (.agg [.i 0,.imm .lit 0 []]) H0)=some (a1,H1)) (g2:LD H1 3 (a0) (.i n)) (g3:CM F 52 [.i n,.i 1,.i 16] H1 (.bool true) H2) (g4:(ls.length:Int)≤60) (g5:CN F N 61 [.g ls,.func 60 [] [a0]] H2 (.bool false) H3) (g6:LD H3 3 (a0) (.i n)) (g7:ST H3 66 (a1) (.N n ls) H4): RU F 39 1 B39 [(0,.i n),(1,.g ls)] H .ret (Qbz (.i n) (.g ls) a0 a1 (.bool true) (.func 60 [] [a0]) (.bool true)) H4 :=
 hx N 60 [jR 0 0 g0,jR 0 1 g1,jO 2 0 H1 g2,jD 2 1 g3,jT 2 5 H2 g4,jC 2 10 g5,jO 3 0 H3 g6,jS 3 4 g7]
theorem Qnb {a0:HV} {H0:Heap} {a1:HV} {H1:Heap} {H2:Heap} {H3:Heap} (g0:some (Q8 (.i n) H)=some (a0,H0)) (g1:some (Q8 (.agg [.i 0,.imm .lit 0 []]) H0)=some (a1,H1)) (g2:LD H1 3 (a0) (.i n)) (g3:CM F 52 [.i n,.i 1,.i 16] H1 (.bool true) H2) (g4:¬((ls.length:Int)≤60)) (g5:LD H2 3 (a0) (.i n)) (g6:ST H2 66 (a1) (.N n ls) H3): RU F 39 1 B39 [(0,.i n),(1,.g ls)] H .ret (Qbz (.i n) (.g ls) a0 a1 (.bool false) (.func 60 [] [a0]) (.bool false)) H3 :=
 hx N 60 [jR 0 0 g0,jR 0 1 g1,jO 2 0 H1 g2,jD 2 1 g3,jF 2 5 H2 g4,jO 3 0 H2 g5,jS 3 4 g6]
theorem Qnc {a0:HV} {H0:Heap} {a1:HV} {H1:Heap} {H2:Heap} {H3:Heap} (g0:some (Q8 (.i n) H)=some (a0,H0)) (g1:some (Q8 (.agg [.i 0,.imm .lit 0 []]) H0)=some (a1,H1)) (g2:LD H1 3 (a0) (.i n)) (g3:CM F 52 [.i n,.i 1,.i 16] H1 (.bool false) H2) (g4:LD H2 3 (a0) (.i n)) (g5:ST H2 66 (a1) (.N n ls) H3): RU F 39 1 B39 [(0,.i n),(1,.g ls)] H .ret (Qbz (.i n) (.g ls) a0 a1 (.bool false) (.func 60 [] [a0]) (.bool false)) H3 :=
 hx N 60 [jR 0 0 g0,jR 0 1 g1,jO 2 0 H1 g2,jD 2 1 g3,jO 3 0 H2 g4,jS 3 4 g5]
end
end Go.Proofs.Ytiejmoglooaalaa
end
section
open Go Go.HL
namespace Go.Proofs.Ytiejmoglooaalaa
set_option linter.unusedSectionVars false
open Go.Proofs.Try renaming prog → Tp
open Go.HL.HV renaming undef → Ud
section
variable {F:FuncId→Option (List HV→Option HV)}
theorem Gh (h52:F 52=some Zx) (n lo hi:Int) (H:Heap):∀k,Qb Tp (plF F) (k+1) 52 [.int .i64 n,.int .i64 lo,.int .i64 hi] H=some (.bool (decide (lo≤n∧n≤hi)),H) :=
 at3 (pol':=plF F) (g:=52) (c1:=kI) (c2:=kI) (c3:=kI) (f:=fun n lo hi=>some (.bool (decide (lo≤n∧n≤hi)))) h52 (ShI H n) (ShI H lo) (ShI H hi) rfl
abbrev bT (s:St):Blk:=.arr 3 [Qa s] true 0
theorem ldT {H:Heap} {b:Nat} {s:St} (hb:H[b]?=some (bT s)) (off:Nat) (x:Int) (hx:[HV.int .i64 s.1,.int .i64 s.2.1,.int .i64 s.2.2][off]?=some (.int .i64 x)):QH Tp H 3 (.ptr b 0 off 1)=some (.int .i64 x) :=
 Kp (P:=Tp) (t:=3) (b:=b) (i:=0) (off:=off) (tot:=1) (els:=[Qa s]) (cs:=[.int .i64 s.1,.int .i64 s.2.1,.int .i64 s.2.2]) hb rfl rfl a3 i3 hx
theorem ld1 {H:Heap} {b mx:Nat} {n:Int} (hb:H[b]?=some (.arr 1 [.int .i64 n] true mx)):QH Tp H 3 (.ptr b 0 0 1)=some (.int .i64 n):=WE (b:=b) hb rfl rfl rfl a3 i3
theorem KN {H X:Heap} (hm:mxs (H++X)≤H.length) {r:Nat} (hr:r≤H.length):gc H.length r (H++X)=H:=by
 unfold gc
 rw [show max H.length (max r (mxs (H++X)))=H.length by omega]
 exact List.take_left
theorem SC (h52:F 52=some Zx) (h60:F 60=none) {H:Heap} {nb:Nat} {n:Int} (hb:H[nb]?=some (.arr 1 [.int .i64 n] true 0)) (hm:mxs H≤H.length) (hn:1≤n∧n≤16) (s:St) :
  ClF F 60 [Qa s,.ptr nb 0 0 1] H (.bool (!stB n s)) H:=by
 have hw:qA.wrap (n-1)=n-1:=Qs (by omega) (by omega)
 have hx:(H++[bT s])[H.length]?=some (bT s):=by rw [qF (qB _),Nat.sub_self];rfl
 have lv:=ld1 (WX (X:=[bT s]) hb)
 have la:=ldT hx 0 s.1 rfl
 have lb:=ldT hx 1 s.2.1 rfl
 have lw:=ldT hx 2 s.2.2 rfl
 have wi:=fun (x lo hi:Int)=>Gh h52 x lo hi (H++[bT s])
 have fin:∀(v:Bool) (E:Env),RT (plF F) 60 (sub [] B60) [(0,Qa s),(1,.ptr nb 0 0 1)] H .ret E (H++[bT s])→E.get 3=.bool v→ClF F 60 [Qa s,.ptr nb 0 0 1] H (.bool v) H:=fun v E t he=>by
  have hr:Try.f60.results.toList=[.tmp 3]:=by kernel_rfl
  have h:=CallsTo.shared (P:=Tp) (pol:=plF F) (g:=60) (fn:=Try.f60) (cd:=B60) (args:=[Qa s,.ptr nb 0 0 1]) (v:=.bool v) h60 (by kernel_rfl) (by kernel_rfl) (by kernel_rfl) t (by kernel_rfl) (by simp) (by simp only [Qf,hr,mapO,WG,he])
  rw [KN (r:=bnd (.bool v)) (by rw [W7];show max (mxs H) (max 0 0)≤_;omega) (by simp [bnd])] at h
  exact h
 have nv:some (Q8 (Qa s) H)=some (.ptr H.length 0 0 1,H++[bT s]):=rfl
 have f0:Qr Tp 42 (.ptr H.length 0 0 1) 0=some (.ptr H.length 0 0 1):=by kernel_rfl
 have f1:Qr Tp 42 (.ptr H.length 0 0 1) 1=some (.ptr H.length 0 1 1):=by kernel_rfl
 have f2:Qr Tp 42 (.ptr H.length 0 0 1) 2=some (.ptr H.length 0 2 1):=by kernel_rfl
 have w1:=wi s.1 0 (qA.wrap (n-1))
 have w2:=wi s.2.1 0 (qA.wrap (n-1))
 have w3:=wi s.2.2 0 1000
 rw [hw] at w1 w2
 by_cases k1:0≤s.1∧s.1≤n-1
 ·rw [decide_eq_true k1] at w1
  by_cases k2:0≤s.2.1∧s.2.1≤n-1
  ·rw [decide_eq_true k2] at w2
   by_cases k3:s.1=s.2.1
   ·rw [show stB n s=false from decide_eq_false (fun h=>h.2.2.1 k3)]
    exact fin true _ (QmW (F:=F) s.1 s.2.1 s.2.2 nb H n nv f0 la lv (by rw [hw];exact w1) f1 lb lv (by rw [hw];exact w2) f0 la f1 lb k3) rfl
   ·by_cases k4:0≤s.2.2∧s.2.2≤1000
    ·rw [decide_eq_true k4] at w3
     rw [show stB n s=true from decide_eq_true ⟨by omega,by omega,k3,k4⟩]
     exact fin false _ (QmX (F:=F) s.1 s.2.1 s.2.2 nb H n nv f0 la lv (by rw [hw];exact w1) f1 lb lv (by rw [hw];exact w2) f0 la f1 lb k3 f2 lw w3) rfl
    ·rw [decide_eq_false k4] at w3
     rw [show stB n s=false from decide_eq_false (fun h=>k4 h.2.2.2)]
     exact fin true _ (QmY (F:=F) s.1 s.2.1 s.2.2 nb H n nv f0 la lv (by rw [hw];exact w1) f1 lb lv (by rw [hw];exact w2) f0 la f1 lb k3 f2 lw w3) rfl
  ·rw [decide_eq_false k2] at w2
   rw [show stB n s=false from decide_eq_false (fun h=>k2 (by omega))]
   exact fin true _ (QmZ (F:=F) s.1 s.2.1 s.2.2 nb H n nv f0 la lv (by rw [hw];exact w1) f1 lb lv (by rw [hw];exact w2)) rfl
 ·rw [decide_eq_false k1] at w1
  rw [show stB n s=false from decide_eq_false (fun h=>k1 (by omega))]
  exact fin true _ (Qm0 (F:=F) s.1 s.2.1 s.2.2 nb H n nv f0 la lv (by rw [hw];exact w1)) rfl
theorem Qgy (h52:F 52=some Zx) (h60:F 60=none) (h74:F 74=none) {H:Heap} {nb:Nat} {n:Int} (hb:H[nb]?=some (.arr 1 [.int .i64 n] true 0)) (hm:mxs H≤H.length) (hn:1≤n∧n≤16) {l:List St} (hl:l.length≤1000) :
  ∃r:Int,ClF F 74 [.imm .arg 3 (l.map Qa),.func 60 [] [.ptr nb 0 0 1]] H (.int .i64 r) H∧(0≤r↔¬l.all (stB n)=true):=by
 have go:∀m,m≤l.length→(∀i,i<m→¬stB n (l.getD i (0,0,0))=false)→∀i,i<m→RT (plF F) 74 (sn 52 B74) ((De (.g (l.map Qa)) (.func 60 [] [.q nb]) (.i 0) Ud (.i (l.length:Int)) (.i (i:Int)))) H .normal ((De (.g (l.map Qa)) (.func 60 [] [.q nb]) (.i 0) (.i (i:Int)) (.i (l.length:Int)) (.i ((i+1:Nat):Int)))) H:=fun m hm' hn' i hi=>by
  have ok:stB n (l.getD i (0,0,0))=true:=by have:=hn' i hi;cases c:stB n (l.getD i (0,0,0)) <;> simp_all
  obtain ⟨N,cN⟩:=CallsTo.from (SC h52 h60 hb hm hn (l.getD i (0,0,0)))
  rw [ok] at cN
  have s:=Qm4 (F:=F) N (l.map Qa) nb H l.length i (l.getD i (0,0,0)).1 (l.getD i (0,0,0)).2.1 (l.getD i (0,0,0)).2.2 (by omega) (gs (by omega)) cN
  rw [Qj (by omega)] at s
  exact s
 have a:=Qm1 (F:=F) 0 (l.map Qa) nb H
 have b:=Qm2 (F:=F) 0 (l.map Qa) nb H
 rw [qC] at b
 have hr:Try.f74.results.toList=[.tmp 4]:=by kernel_rfl
 rcases XZ (0,0,0) (fun s=>stB n s=false) l with ⟨m,h1,h2,h3⟩ | hno
 ·obtain ⟨N,cN⟩:=CallsTo.from (SC h52 h60 hb hm hn (l.getD m (0,0,0)))
  rw [h2] at cN
  have r:=Wu (pol':=plF F) (f:=74) (E:=fun i=>(De (.g (l.map Qa)) (.func 60 [] [.q nb]) (.i 0) Ud (.i (l.length:Int)) (.i (i:Int)))) (Hs:=fun _=>H) m (go m (by omega) h3) (fun i _=>by kernel_rfl) (fun i _=>QI _ rfl) (Qm3 (F:=F) N (l.map Qa) nb H l.length m (l.getD m (0,0,0)).1 (l.getD m (0,0,0)).2.1 (l.getD m (0,0,0)).2.2 (by omega) (gs h1) cN) (by simp) (c:=sn 26 B74) (by kernel_rfl) (fun i _=>by kernel_rfl)
  have t:=sq (a) (sqo (sq (b) (RunsTo.block_ret (i:=0) (c:=sn 13 B74) (r) (by kernel_rfl)) (c:=sn 6 B74)) (c:=sn 3 B74) (b:=sn 7 B74)) (c:=B74)
  have h:=CallsTo.shared (P:=Tp) (pol:=plF F) (g:=74) (fn:=Try.f74) (cd:=B74) (args:=[.imm .arg 3 (l.map Qa),.func 60 [] [.ptr nb 0 0 1]]) (v:=.int .i64 (m:Int)) h74 (by kernel_rfl) (by kernel_rfl) (by kernel_rfl) t (by kernel_rfl) (by simp) (by simp only [Qf,hr];rfl)
  rw [QI _ rfl] at h
  refine ⟨_,h,⟨fun _ hall=>?_,fun _=>by omega⟩⟩
  have:=List.all_eq_true.1 hall _ (Qw (0,0,0) h1)
  rw [h2] at this;cases this
 ·have r:=Wu (pol':=plF F) (f:=74) (E:=fun i=>(De (.g (l.map Qa)) (.func 60 [] [.q nb]) (.i 0) Ud (.i (l.length:Int)) (.i (i:Int)))) (Hs:=fun _=>H) l.length (go l.length (qB _) fun i hi=>hno _ (Qw _ hi)) (fun i _=>by kernel_rfl) (fun i _=>QI _ rfl) (Qm5 (F:=F) 0 (l.map Qa) nb H l.length l.length 0 0 0 (by omega)) (by simp) (c:=sn 26 B74) (by kernel_rfl) (fun i _=>by kernel_rfl)
  have z:=Qm6 (F:=F) 0 (l.map Qa) nb H (y7:=.i (l.length:Int)) (y8:=.i (l.length:Int))
  have t:=sq (a) (sq (sq (b) (bke (c:=sn 13 B74) (r)) (c:=sn 6 B74)) (z) (c:=sn 3 B74)) (c:=B74)
  have h:=CallsTo.shared (P:=Tp) (pol:=plF F) (g:=74) (fn:=Try.f74) (cd:=B74) (args:=[.imm .arg 3 (l.map Qa),.func 60 [] [.ptr nb 0 0 1]]) (v:=.int .i64 (-1)) h74 (by kernel_rfl) (by kernel_rfl) (by kernel_rfl) t (by kernel_rfl) (by simp) (by simp only [Qf,hr];rfl)
  rw [QI _ rfl] at h
  refine ⟨_,h,⟨fun h=>by omega,fun hall=>absurd (List.all_eq_true.2 fun s hs=>?_) hall⟩⟩
  have:=hno s hs
  cases c:stB n s <;> simp_all
theorem Qgz (h52:F 52=some Zx) (h60:F 60=none) (h61:F 61=none) (h74:F 74=none) {H:Heap} {nb:Nat} {n:Int} (hb:H[nb]?=some (.arr 1 [.int .i64 n] true 0)) (hm:mxs H≤H.length) (hn:1≤n∧n≤16) {l:List St} (hl:l.length≤1000) :
  ClF F 61 [.imm .arg 3 (l.map Qa),.func 60 [] [.ptr nb 0 0 1]] H (.bool (!l.all (stB n))) H:=by
 obtain ⟨r,hc,hr⟩:=Qgy h52 h60 h74 hb hm hn hl
 obtain ⟨N,cN⟩:=CallsTo.from hc
 have h61r:Try.f61.results.toList=[.tmp 4]:=by kernel_rfl
 by_cases c:0≤r
 ·have t:=Qm7 (F:=F) N (l.map Qa) nb H cN c
  have h:=CallsTo.shared (P:=Tp) (pol:=plF F) (g:=61) (fn:=Try.f61) (cd:=B61) (args:=[.imm .arg 3 (l.map Qa),.func 60 [] [.ptr nb 0 0 1]]) (v:=.bool true) h61 (by kernel_rfl) (by kernel_rfl) (by kernel_rfl) t (by kernel_rfl) (by simp) (by simp only [Qf,h61r];rfl)
  rw [QI _ rfl] at h
  have:l.all (stB n)=false:=by have:=hr.1 c;cases d:l.all (stB n) <;> simp_all
  rw [this];exact h
 ·have t:=Qm8 (F:=F) N (l.map Qa) nb H cN c
  have h:=CallsTo.shared (P:=Tp) (pol:=plF F) (g:=61) (fn:=Try.f61) (cd:=B61) (args:=[.imm .arg 3 (l.map Qa),.func 60 [] [.ptr nb 0 0 1]]) (v:=.bool false) h61 (by kernel_rfl) (by kernel_rfl) (by kernel_rfl) t (by kernel_rfl) (by simp) (by simp only [Qf,h61r];rfl)
  rw [QI _ rfl] at h
  have:l.all (stB n)=true:=by
   cases d:l.all (stB n) with
   | true=>rfl
   | false=>exact absurd (hr.2 (by simp [d])) c
  rw [this];exact h
structure NwF (F:FuncId→Option (List HV→Option HV)):Prop where
 h39:F 39=none
 h52:F 52=some Zx
 h60:F 60=none
 h61:F 61=none
 h74:F 74=none
theorem G5 (hF:NwF F) {H:Heap} (hm:mxs H≤H.length) (n:Int) {l:List St} (hl:l.length≤1000):ClF F 39 [.int .i64 n,.imm .arg 3 (l.map Qa)] H (.tuple [Qx n l,.bool (WC n l)]) H:=by
 have hr:Try.f39.results.toList=[.cell 4 66,.tmp 5]:=by kernel_rfl
 have g0:∀(A B:Blk),(H++[A]++[B])[H.length]?=some A:=fun A B=>by rw [qI];exact Qih H A B
 have g1:∀(A B:Blk),(H++[A]++[B])[H.length+1]?=some B:=fun A B=>by rw [qI];exact Qep H A B
 have nv0:some (Q8 (.int .i64 n) H)=some (.ptr H.length 0 0 1,H++[.arr 1 [.int .i64 n] true 0]):=rfl
 have nv1:some (Q8 (.agg [.int .i64 0,.imm .lit 0 []]) (H++[.arr 1 [.int .i64 n] true 0]))=some (.ptr (H.length+1) 0 0 1,H++[.arr 1 [.int .i64 n] true 0]++[.arr 2 [.agg [.int .i64 0,.imm .lit 0 []]] true 0]):=by
  have:(H++[Blk.arr 1 [HV.int .i64 n] true 0]).length=H.length+1:=by simp
  rw [← this];rfl
 have l0:=ld1 (g0 (.arr 1 [.int .i64 n] true 0) (.arr 2 [.agg [.int .i64 0,.imm .lit 0 []]] true 0))
 have w0:=Gh hF.h52 n 1 16 (H++[.arr 1 [.int .i64 n] true 0]++[.arr 2 [.agg [.int .i64 0,.imm .lit 0 []]] true 0])
 have st:Q0 Tp (H++[.arr 1 [.int .i64 n] true 0]++[.arr 2 [.agg [.int .i64 0,.imm .lit 0 []]] true 0]) 66 (.ptr (H.length+1) 0 0 1) (Qx n l)=some (H++[.arr 1 [.int .i64 n] true 0]++[bN n l]):=by
  have:=VM (P:=Tp) (H:=H++[.arr 1 [.int .i64 n] true 0]++[.arr 2 [.agg [.int .i64 0,.imm .lit 0 []]] true 0]) (t:=66) (b:=H.length+1) (i:=0) (tot:=1) (k:=2) (mx:=0) (els:=[.agg [.int .i64 0,.imm .lit 0 []]]) (cs:=[.int .i64 0,.imm .lit 0 []]) (new:=[.int .i64 n,.imm .arg 3 (l.map Qa)]) (g1 _ _) rfl rfl z66 rfl (by simp) rfl (by simp [bndL,bnd])
  unfold Qx
  rw [this]
  congr 1
  rw [qJ _ _ (by simp)]
  simp only [qD,qN,Nat.sub_self]
  rfl
 have hmx:mxs (H++[Blk.arr 1 [.int .i64 n] true 0]++[Blk.arr 2 [.agg [.int .i64 0,.imm .lit 0 []]] true 0])≤(H++[Blk.arr 1 [.int .i64 n] true 0]++[Blk.arr 2 [.agg [.int .i64 0,.imm .lit 0 []]] true 0]).length:=by
  rw [W7,W7,qD,qD];show max (max (mxs H) (max 0 0)) (max 0 0)≤_;omega
 have fin:∀(v:Bool) (E:Env),RT (plF F) 39 (sub [] B39) [(0,.int .i64 n),(1,.imm .arg 3 (l.map Qa))] H .ret E (H++[.arr 1 [.int .i64 n] true 0]++[bN n l])→E.get 4=.ptr (H.length+1) 0 0 1→E.get 5=.bool v→ClF F 39 [.int .i64 n,.imm .arg 3 (l.map Qa)] H (.tuple [Qx n l,.bool v]) H:=fun v E t he4 he5=>by
  have ld:QH Tp (H++[.arr 1 [.int .i64 n] true 0]++[bN n l]) 66 (.ptr (H.length+1) 0 0 1)=some (Qx n l):=UW (P:=Tp) (b:=H.length+1) (els:=[Qx n l]) (cs:=[.int .i64 n,.imm .arg 3 (l.map Qa)]) (g1 _ _) rfl rfl a66 z66
  have h:=CallsTo.shared (P:=Tp) (pol:=plF F) (g:=39) (fn:=Try.f39) (cd:=B39) (args:=[.int .i64 n,.imm .arg 3 (l.map Qa)]) (v:=.tuple [Qx n l,.bool v]) hF.h39 (by kernel_rfl) (by kernel_rfl) (by kernel_rfl) t (by kernel_rfl) (by simp) (by simp only [Qf,hr,mapO,WG,he4,he5,ld])
  rw [qI] at h
  rw [KN (by rw [W7];show max (mxs H) (max 0 (max 0 0))≤_;omega) (by simp [bnd,bndL,Qx])] at h
  exact h
 by_cases k1:1≤n∧n≤16
 ·rw [decide_eq_true k1] at w0
  by_cases k2:l.length≤60
  ·have cf:=Qgz hF.h52 hF.h60 hF.h61 hF.h74 (H:=H++[.arr 1 [.int .i64 n] true 0]++[.arr 2 [.agg [.int .i64 0,.imm .lit 0 []]] true 0]) (g0 _ _) hmx k1 hl
   obtain ⟨N,cN⟩:=CallsTo.from cf
   have e:WC n l=l.all (stB n):=by rw [WC,decide_eq_true ⟨k1,k2⟩,Bool.and_true]
   rw [e]
   cases d:l.all (stB n) with
   | true =>
    rw [d] at cN
    exact fin true _ (Qna (F:=F) N n (l.map Qa) H nv0 nv1 l0 w0 (by rw [qC];omega) cN l0 st) rfl rfl
   | false =>
    rw [d] at cN
    exact fin false _ (Qm9 (F:=F) N n (l.map Qa) H nv0 nv1 l0 w0 (by rw [qC];omega) cN l0 st) rfl rfl
  ·rw [show WC n l=false by rw [WC,decide_eq_false (fun h=>k2 h.2),Bool.and_false]]
   exact fin false _ (Qnb (F:=F) 0 n (l.map Qa) H nv0 nv1 l0 w0 (by rw [qC];omega) l0 st) rfl rfl
 ·rw [decide_eq_false k1] at w0
  rw [show WC n l=false by rw [WC,decide_eq_false (fun h=>k1 h.1),Bool.and_false]]
  exact fin false _ (Qnc (F:=F) 0 n (l.map Qa) H nv0 nv1 l0 w0 l0 st) rfl rfl
end
end Go.Proofs.Ytiejmoglooaalaa
end
