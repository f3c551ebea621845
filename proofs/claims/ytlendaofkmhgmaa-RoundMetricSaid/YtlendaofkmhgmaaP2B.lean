/- A part of the proof. -/
import Derived.Test.YtlendaofkmhgmaaP2A
set_option linter.unusedVariables false
set_option linter.unusedSimpArgs false
set_option linter.unnecessarySimpa false
open Go.IntKind renaming i64 → qA
open Nat renaming le_refl → qB, zero_le → qD
open List renaming getElem?_eq_getElem → qC, getD → qE, append_nil → qH, not_mem_nil → qI, mem_cons → qJ
open Int renaming tdiv_eq_ediv_of_nonneg → qF, toNat_natCast → qG
section
open Go Go.HL
namespace Go.Proofs.Ytlendaofkmhgmaa
set_option maxRecDepth 100000
set_option linter.unusedSectionVars false
open Go.Proofs.Try renaming prog → Tp
open Go.HL.HV renaming undef → Ud
noncomputable def B96:Code:=Try.f96.body.getD .skip
abbrev Yx (v0 v1 v2 v3 v8 v9:HV):Env:=[(0,v0),(1,v1),(2,v2),(3,v3),(8,v8),(9,v9)]
abbrev e96 (db:Nat) (n:Nat) (cap:Option Nat) (a:Nat) (b:Nat) (u4 u5:HV):Env:=Yx (.sl db 0 n cap n 3) (.n a) (.n b) (.func 77 [] []) u4 u5
section
variable (N:Nat) (db n:Nat) (cap:Option Nat) (H:Heap) (x:Nat) (a:Nat) (b:Nat)
include N db n cap H x a b
theorem QiG:RT polSo 96 (sn 2 B96) [(0,.sl db 0 n cap n 3),(1,.n a),(2,.n b),(3,.func 77 [] [])] H .normal (e96 db n cap a b (.i (qA.wrap ((a:Int)+1))) Ud) H :=
 hx N 60 []
end
section
variable (N:Nat) (db n:Nat) (cap:Option Nat) (H:Heap) (x:Nat) (a:Nat) (b:Nat)
include N db n cap H x a b
theorem QiH (i:Nat) {y9:HV} (g0:(i:Int)<(b:Int)): RT polSo 96 (sn 24 B96) (e96 db n cap a b (.n i) y9) H .normal (e96 db n cap a b (.n i) y9) H :=
 hx N 60 [jT 1 2 H g0]
theorem QcR (i:Nat) {y9:HV} (g0:¬((i:Int)<(b:Int))): RT polSo 96 (sn 24 B96) (e96 db n cap a b (.n i) y9) H (.exit 0) (e96 db n cap a b (.n i) y9) H :=
 hx N 60 [jF 1 2 H g0]
theorem QiI (i:Nat) {y9:HV}: RT polSo 96 (sn 200 B96) (e96 db n cap a b (.n i) y9) H .normal (e96 db n cap a b (.n i) (.n i)) H :=
 hx N 60 []
theorem QiJ (i:Nat) (j:Nat) {a0:HV} {v0:HV} {a1:HV} {v1:HV} {c0:Int} {H0:Heap} {a2:HV} {v2:HV} {a3:HV} {v3:HV} {a4:HV} {H1:Heap} {a5:HV} {H2:Heap} (g0:(a:Int)<(j:Int)) (g1:IX 88 (.sl db 0 n cap n 3) (.n j) (a0)) (g2:LD H 91 (a0) (v0)) (g3:IX 88 (.sl db 0 n cap n 3) (.i (qA.wrap ((j:Int)-1))) (a1)) (g4:LD H 91 (a1) (v1)) (g5:∀kf,N≤kf→Qa Tp polSo (kf+1) 77 [v0,v1] H=some (.i c0,H0)) (g6:c0<0) (g7:IX 88 (.sl db 0 n cap n 3) (.i (qA.wrap ((j:Int)-1))) (a2)) (g8:LD H0 91 (a2) (v2)) (g9:IX 88 (.sl db 0 n cap n 3) (.n j) (a3)) (g10:LD H0 91 (a3) (v3)) (g11:IX 88 (.sl db 0 n cap n 3) (.n j) (a4)) (g12:ST H0 91 (a4) (v2) H1) (g13:IX 88 (.sl db 0 n cap n 3) (.i (qA.wrap ((j:Int)-1))) (a5)) (g14:ST H1 91 (a5) (v3) H2): RT polSo 96 (sn 804 B96) (e96 db n cap a b (.n i) (.n j)) H .normal (e96 db n cap a b (.n i) (.i (qA.wrap ((j:Int)-1)))) H2 :=
 hx N 60 [jT 4 2 H g0,jO 4 7 H g1,jO 4 8 H g2,jO 4 12 H g3,jO 4 13 H g4,jC 4 14 g5,jT 4 15 H0 g6,jO 6 8 H0 g7,jO 6 9 H0 g8,jO 6 12 H0 g9,jO 6 13 H0 g10,jO 6 14 H0 g11,jS 6 15 g12,jO 6 16 H1 g13,jS 6 17 g14]
theorem QiK (i:Nat) (j:Nat) {a0:HV} {v0:HV} {a1:HV} {v1:HV} {c0:Int} {H0:Heap} (g0:(a:Int)<(j:Int)) (g1:IX 88 (.sl db 0 n cap n 3) (.n j) (a0)) (g2:LD H 91 (a0) (v0)) (g3:IX 88 (.sl db 0 n cap n 3) (.i (qA.wrap ((j:Int)-1))) (a1)) (g4:LD H 91 (a1) (v1)) (g5:∀kf,N≤kf→Qa Tp polSo (kf+1) 77 [v0,v1] H=some (.i c0,H0)) (g6:¬(c0<0)): RT polSo 96 (sn 804 B96) (e96 db n cap a b (.n i) (.n j)) H (.exit 2) (e96 db n cap a b (.n i) (.n j)) H0 :=
 hx N 60 [jT 4 2 H g0,jO 4 7 H g1,jO 4 8 H g2,jO 4 12 H g3,jO 4 13 H g4,jC 4 14 g5,jF 4 15 H0 g6]
theorem QcS (i:Nat) (j:Nat) (g0:¬((a:Int)<(j:Int))): RT polSo 96 (sn 804 B96) (e96 db n cap a b (.n i) (.n j)) H (.exit 2) (e96 db n cap a b (.n i) (.n j)) H :=
 hx N 60 [jF 4 2 H g0]
theorem QiL (i:Nat) {y9:HV}: RT polSo 96 (sn 51 B96) (e96 db n cap a b (.n i) y9) H .normal (e96 db n cap a b (.i (qA.wrap ((i:Int)+1))) y9) H :=
 hx N 60 []
end
noncomputable def Gc:Code:=Try.f100.body.getD .skip
abbrev Sr (v0 v1 v2 v8 v9:HV):Env:=[(0,v0),(1,v1),(2,v2),(8,v8),(9,v9)]
abbrev Ss (db:Nat) (n:Nat) (cap:Option Nat) (a:Nat) (b:Nat) (u3 u4:HV):Env:=Sr (.sl db 0 n cap n 3) (.n a) (.n b) u3 u4
section
variable (N:Nat) (db n:Nat) (cap:Option Nat) (H:Heap) (x:Nat) (a:Nat) (b:Nat)
include N db n cap H x a b
theorem QeU:RT polSo 100 (sn 2 Gc) [(0,.sl db 0 n cap n 3),(1,.n a),(2,.n b),(3,.func 77 [] [])] H .normal (Ss db n cap a b (.n a) Ud) H :=
 hx N 60 []
end
section
variable (N:Nat) (db n:Nat) (cap:Option Nat) (H:Heap) (x:Nat) (a:Nat) (b:Nat)
include N db n cap H x a b
theorem QeV (i:Nat) {y9:HV}: RT polSo 100 (sn 6 Gc) (Ss db n cap a b (.n i) y9) H .normal (Ss db n cap a b (.n i) (.i (qA.wrap ((b:Int)-1)))) H :=
 hx N 60 []
theorem QeW (i:Nat) (j:Nat) {a0:HV} {v0:HV} {a1:HV} {v1:HV} {a2:HV} {H0:Heap} {a3:HV} {H1:Heap} (g0:(i:Int)<(j:Int)) (g1:IX 88 (.sl db 0 n cap n 3) (.n j) (a0)) (g2:LD H 91 (a0) (v0)) (g3:IX 88 (.sl db 0 n cap n 3) (.n i) (a1)) (g4:LD H 91 (a1) (v1)) (g5:IX 88 (.sl db 0 n cap n 3) (.n i) (a2)) (g6:ST H 91 (a2) (v0) H0) (g7:IX 88 (.sl db 0 n cap n 3) (.n j) (a3)) (g8:ST H0 91 (a3) (v1) H1): RT polSo 100 (sn 28 Gc) (Ss db n cap a b (.n i) (.n j)) H .normal (Ss db n cap a b (.i (qA.wrap ((i:Int)+1))) (.i (qA.wrap ((j:Int)-1)))) H1 :=
 hx N 60 [jT 2 2 H g0,jO 3 6 H g1,jO 3 7 H g2,jO 3 10 H g3,jO 3 11 H g4,jO 3 12 H g5,jS 3 13 g6,jO 3 14 H0 g7,jS 3 15 g8]
theorem Qah (i:Nat) (j:Nat) (g0:¬((i:Int)<(j:Int))): RT polSo 100 (sn 28 Gc) (Ss db n cap a b (.n i) (.n j)) H (.exit 0) (Ss db n cap a b (.n i) (.n j)) H :=
 hx N 60 [jF 2 2 H g0]
end
noncomputable def K7:Code:=Try.f109.body.getD .skip
abbrev V4 (v0 v1 v2 v3 v4 v10 v11:HV):Env:=[(0,v0),(1,v1),(2,v2),(3,v3),(4,v4),(10,v10),(11,v11)]
abbrev V5 (db:Nat) (n:Nat) (cap:Option Nat) (lo:Nat) (hi:Nat) (fi:Nat) (u5 u6:HV):Env:=V4 (.sl db 0 n cap n 3) (.n lo) (.n hi) (.n fi) (.func 77 [] []) u5 u6
section
variable (N:Nat) (db n:Nat) (cap:Option Nat) (H:Heap) (x:Nat) (lo:Nat) (hi:Nat) (fi:Nat)
include N db n cap H x lo hi fi
theorem QiM:RT polSo 109 (sn 2 K7) [(0,.sl db 0 n cap n 3),(1,.n lo),(2,.n hi),(3,.n fi),(4,.func 77 [] [])] H .normal (V5 db n cap lo hi fi (.n lo) Ud) H :=
 hx N 60 []
end
section
variable (N:Nat) (db n:Nat) (cap:Option Nat) (H:Heap) (x:Nat) (lo:Nat) (hi:Nat) (fi:Nat)
include N db n cap H x lo hi fi
theorem QcT (r:Nat) {y11:HV} (g0:(hi:Int)≤qA.wrap (qA.wrap (2*(r:Int))+1)): RT polSo 109 (sn 12 K7) (V5 db n cap lo hi fi (.n r) y11) H (.exit 0) (V5 db n cap lo hi fi (.n r) (.i (qA.wrap (qA.wrap (2*(r:Int))+1)))) H :=
 hx N 60 [jT 2 2 H g0]
theorem QiN (r:Nat) {y11:HV} {a0:HV} {v0:HV} {a1:HV} {v1:HV} {c0:Int} {H0:Heap} {a2:HV} {v2:HV} {a3:HV} {v3:HV} {c1:Int} {H1:Heap} {a4:HV} {v4:HV} {a5:HV} {v5:HV} {a6:HV} {H2:Heap} {a7:HV} {H3:Heap} (g0:¬((hi:Int)≤qA.wrap (qA.wrap (2*(r:Int))+1))) (g1:qA.wrap (qA.wrap (qA.wrap (2*(r:Int))+1)+1)<(hi:Int)) (g2:IX 88 (.sl db 0 n cap n 3) (.i (qA.wrap ((fi:Int)+qA.wrap (qA.wrap (2*(r:Int))+1)))) (a0)) (g3:LD H 91 (a0) (v0)) (g4:IX 88 (.sl db 0 n cap n 3) (.i (qA.wrap (qA.wrap ((fi:Int)+qA.wrap (qA.wrap (2*(r:Int))+1))+1))) (a1)) (g5:LD H 91 (a1) (v1)) (g6:∀kf,N≤kf→Qa Tp polSo (kf+1) 77 [v0,v1] H=some (.i c0,H0)) (g7:c0<0) (g8:IX 88 (.sl db 0 n cap n 3) (.i (qA.wrap ((fi:Int)+(r:Int)))) (a2)) (g9:LD H0 91 (a2) (v2)) (g10:IX 88 (.sl db 0 n cap n 3) (.i (qA.wrap ((fi:Int)+qA.wrap (qA.wrap (qA.wrap (2*(r:Int))+1)+1)))) (a3)) (g11:LD H0 91 (a3) (v3)) (g12:∀kf,N≤kf→Qa Tp polSo (kf+1) 77 [v2,v3] H0=some (.i c1,H1)) (g13:c1<0) (g14:IX 88 (.sl db 0 n cap n 3) (.i (qA.wrap ((fi:Int)+qA.wrap (qA.wrap (qA.wrap (2*(r:Int))+1)+1)))) (a4)) (g15:LD H1 91 (a4) (v4)) (g16:IX 88 (.sl db 0 n cap n 3) (.i (qA.wrap ((fi:Int)+(r:Int)))) (a5)) (g17:LD H1 91 (a5) (v5)) (g18:IX 88 (.sl db 0 n cap n 3) (.i (qA.wrap ((fi:Int)+(r:Int)))) (a6)) (g19:ST H1 91 (a6) (v4) H2) (g20:IX 88 (.sl db 0 n cap n 3) (.i (qA.wrap ((fi:Int)+qA.wrap (qA.wrap (qA.wrap (2*(r:Int))+1)+1)))) (a7)) (g21:ST H2 91 (a7) (v5) H3): RT polSo 109 (sn 12 K7) (V5 db n cap lo hi fi (.n r) y11) H .normal (V5 db n cap lo hi fi (.i (qA.wrap (qA.wrap (qA.wrap (2*(r:Int))+1)+1))) (.i (qA.wrap (qA.wrap (qA.wrap (2*(r:Int))+1)+1)))) H3 :=
 hx N 60 [jF 2 2 H g0,jT 3 3 H g1,jO 3 10 H g2,jO 3 11 H g3,jO 3 17 H g4,jO 3 18 H g5,jC 3 19 g6,jT 3 20 H0 g7,jO 5 5 H0 g8,jO 5 6 H0 g9,jO 5 11 H0 g10,jO 5 12 H0 g11,jC 5 13 g12,jT 5 14 H1 g13,jO 6 12 H1 g14,jO 6 13 H1 g15,jO 6 18 H1 g16,jO 6 19 H1 g17,jO 6 20 H1 g18,jS 6 21 g19,jO 6 22 H2 g20,jS 6 23 g21]
theorem QiO (r:Nat) {y11:HV} {a0:HV} {v0:HV} {a1:HV} {v1:HV} {c0:Int} {H0:Heap} {a2:HV} {v2:HV} {a3:HV} {v3:HV} {c1:Int} {H1:Heap} (g0:¬((hi:Int)≤qA.wrap (qA.wrap (2*(r:Int))+1))) (g1:qA.wrap (qA.wrap (qA.wrap (2*(r:Int))+1)+1)<(hi:Int)) (g2:IX 88 (.sl db 0 n cap n 3) (.i (qA.wrap ((fi:Int)+qA.wrap (qA.wrap (2*(r:Int))+1)))) (a0)) (g3:LD H 91 (a0) (v0)) (g4:IX 88 (.sl db 0 n cap n 3) (.i (qA.wrap (qA.wrap ((fi:Int)+qA.wrap (qA.wrap (2*(r:Int))+1))+1))) (a1)) (g5:LD H 91 (a1) (v1)) (g6:∀kf,N≤kf→Qa Tp polSo (kf+1) 77 [v0,v1] H=some (.i c0,H0)) (g7:c0<0) (g8:IX 88 (.sl db 0 n cap n 3) (.i (qA.wrap ((fi:Int)+(r:Int)))) (a2)) (g9:LD H0 91 (a2) (v2)) (g10:IX 88 (.sl db 0 n cap n 3) (.i (qA.wrap ((fi:Int)+qA.wrap (qA.wrap (qA.wrap (2*(r:Int))+1)+1)))) (a3)) (g11:LD H0 91 (a3) (v3)) (g12:∀kf,N≤kf→Qa Tp polSo (kf+1) 77 [v2,v3] H0=some (.i c1,H1)) (g13:¬(c1<0)): RT polSo 109 (sn 12 K7) (V5 db n cap lo hi fi (.n r) y11) H .ret (V5 db n cap lo hi fi (.n r) (.i (qA.wrap (qA.wrap (qA.wrap (2*(r:Int))+1)+1)))) H1 :=
 hx N 60 [jF 2 2 H g0,jT 3 3 H g1,jO 3 10 H g2,jO 3 11 H g3,jO 3 17 H g4,jO 3 18 H g5,jC 3 19 g6,jT 3 20 H0 g7,jO 5 5 H0 g8,jO 5 6 H0 g9,jO 5 11 H0 g10,jO 5 12 H0 g11,jC 5 13 g12,jF 5 14 H1 g13]
theorem QiP (r:Nat) {y11:HV} {a0:HV} {v0:HV} {a1:HV} {v1:HV} {c0:Int} {H0:Heap} {a2:HV} {v2:HV} {a3:HV} {v3:HV} {c1:Int} {H1:Heap} {a4:HV} {v4:HV} {a5:HV} {v5:HV} {a6:HV} {H2:Heap} {a7:HV} {H3:Heap} (g0:¬((hi:Int)≤qA.wrap (qA.wrap (2*(r:Int))+1))) (g1:qA.wrap (qA.wrap (qA.wrap (2*(r:Int))+1)+1)<(hi:Int)) (g2:IX 88 (.sl db 0 n cap n 3) (.i (qA.wrap ((fi:Int)+qA.wrap (qA.wrap (2*(r:Int))+1)))) (a0)) (g3:LD H 91 (a0) (v0)) (g4:IX 88 (.sl db 0 n cap n 3) (.i (qA.wrap (qA.wrap ((fi:Int)+qA.wrap (qA.wrap (2*(r:Int))+1))+1))) (a1)) (g5:LD H 91 (a1) (v1)) (g6:∀kf,N≤kf→Qa Tp polSo (kf+1) 77 [v0,v1] H=some (.i c0,H0)) (g7:¬(c0<0)) (g8:IX 88 (.sl db 0 n cap n 3) (.i (qA.wrap ((fi:Int)+(r:Int)))) (a2)) (g9:LD H0 91 (a2) (v2)) (g10:IX 88 (.sl db 0 n cap n 3) (.i (qA.wrap ((fi:Int)+qA.wrap (qA.wrap (2*(r:Int))+1)))) (a3)) (g11:LD H0 91 (a3) (v3)) (g12:∀kf,N≤kf→Qa Tp polSo (kf+1) 77 [v2,v3] H0=some (.i c1,H1)) (g13:c1<0) (g14:IX 88 (.sl db 0 n cap n 3) (.i (qA.wrap ((fi:Int)+qA.wrap (qA.wrap (2*(r:Int))+1)))) (a4)) (g15:LD H1 91 (a4) (v4)) (g16:IX 88 (.sl db 0 n cap n 3) (.i (qA.wrap ((fi:Int)+(r:Int)))) (a5)) (g17:LD H1 91 (a5) (v5)) (g18:IX 88 (.sl db 0 n cap n 3) (.i (qA.wrap ((fi:Int)+(r:Int)))) (a6)) (g19:ST H1 91 (a6) (v4) H2) (g20:IX 88 (.sl db 0 n cap n 3) (.i (qA.wrap ((fi:Int)+qA.wrap (qA.wrap (2*(r:Int))+1)))) (a7)) (g21:ST H2 91 (a7) (v5) H3): RT polSo 109 (sn 12 K7) (V5 db n cap lo hi fi (.n r) y11) H .normal (V5 db n cap lo hi fi (.i (qA.wrap (qA.wrap (2*(r:Int))+1))) (.i (qA.wrap (qA.wrap (2*(r:Int))+1)))) H3 :=
 hx N 60 [jF 2 2 H g0,jT 3 3 H g1,jO 3 10 H g2,jO 3 11 H g3,jO 3 17 H g4,jO 3 18 H g5,jC 3 19 g6,jF 3 20 H0 g7,jO 5 5 H0 g8,jO 5 6 H0 g9,jO 5 11 H0 g10,jO 5 12 H0 g11,jC 5 13 g12,jT 5 14 H1 g13,jO 6 12 H1 g14,jO 6 13 H1 g15,jO 6 18 H1 g16,jO 6 19 H1 g17,jO 6 20 H1 g18,jS 6 21 g19,jO 6 22 H2 g20,jS 6 23 g21]
theorem QiQ (r:Nat) {y11:HV} {a0:HV} {v0:HV} {a1:HV} {v1:HV} {c0:Int} {H0:Heap} {a2:HV} {v2:HV} {a3:HV} {v3:HV} {c1:Int} {H1:Heap} (g0:¬((hi:Int)≤qA.wrap (qA.wrap (2*(r:Int))+1))) (g1:qA.wrap (qA.wrap (qA.wrap (2*(r:Int))+1)+1)<(hi:Int)) (g2:IX 88 (.sl db 0 n cap n 3) (.i (qA.wrap ((fi:Int)+qA.wrap (qA.wrap (2*(r:Int))+1)))) (a0)) (g3:LD H 91 (a0) (v0)) (g4:IX 88 (.sl db 0 n cap n 3) (.i (qA.wrap (qA.wrap ((fi:Int)+qA.wrap (qA.wrap (2*(r:Int))+1))+1))) (a1)) (g5:LD H 91 (a1) (v1)) (g6:∀kf,N≤kf→Qa Tp polSo (kf+1) 77 [v0,v1] H=some (.i c0,H0)) (g7:¬(c0<0)) (g8:IX 88 (.sl db 0 n cap n 3) (.i (qA.wrap ((fi:Int)+(r:Int)))) (a2)) (g9:LD H0 91 (a2) (v2)) (g10:IX 88 (.sl db 0 n cap n 3) (.i (qA.wrap ((fi:Int)+qA.wrap (qA.wrap (2*(r:Int))+1)))) (a3)) (g11:LD H0 91 (a3) (v3)) (g12:∀kf,N≤kf→Qa Tp polSo (kf+1) 77 [v2,v3] H0=some (.i c1,H1)) (g13:¬(c1<0)): RT polSo 109 (sn 12 K7) (V5 db n cap lo hi fi (.n r) y11) H .ret (V5 db n cap lo hi fi (.n r) (.i (qA.wrap (qA.wrap (2*(r:Int))+1)))) H1 :=
 hx N 60 [jF 2 2 H g0,jT 3 3 H g1,jO 3 10 H g2,jO 3 11 H g3,jO 3 17 H g4,jO 3 18 H g5,jC 3 19 g6,jF 3 20 H0 g7,jO 5 5 H0 g8,jO 5 6 H0 g9,jO 5 11 H0 g10,jO 5 12 H0 g11,jC 5 13 g12,jF 5 14 H1 g13]
theorem QiR (r:Nat) {y11:HV} {a0:HV} {v0:HV} {a1:HV} {v1:HV} {c0:Int} {H0:Heap} {a2:HV} {v2:HV} {a3:HV} {v3:HV} {a4:HV} {H1:Heap} {a5:HV} {H2:Heap} (g0:¬((hi:Int)≤qA.wrap (qA.wrap (2*(r:Int))+1))) (g1:¬(qA.wrap (qA.wrap (qA.wrap (2*(r:Int))+1)+1)<(hi:Int))) (g2:IX 88 (.sl db 0 n cap n 3) (.i (qA.wrap ((fi:Int)+(r:Int)))) (a0)) (g3:LD H 91 (a0) (v0)) (g4:IX 88 (.sl db 0 n cap n 3) (.i (qA.wrap ((fi:Int)+qA.wrap (qA.wrap (2*(r:Int))+1)))) (a1)) (g5:LD H 91 (a1) (v1)) (g6:∀kf,N≤kf→Qa Tp polSo (kf+1) 77 [v0,v1] H=some (.i c0,H0)) (g7:c0<0) (g8:IX 88 (.sl db 0 n cap n 3) (.i (qA.wrap ((fi:Int)+qA.wrap (qA.wrap (2*(r:Int))+1)))) (a2)) (g9:LD H0 91 (a2) (v2)) (g10:IX 88 (.sl db 0 n cap n 3) (.i (qA.wrap ((fi:Int)+(r:Int)))) (a3)) (g11:LD H0 91 (a3) (v3)) (g12:IX 88 (.sl db 0 n cap n 3) (.i (qA.wrap ((fi:Int)+(r:Int)))) (a4)) (g13:ST H0 91 (a4) (v2) H1) (g14:IX 88 (.sl db 0 n cap n 3) (.i (qA.wrap ((fi:Int)+qA.wrap (qA.wrap (2*(r:Int))+1)))) (a5)) (g15:ST H1 91 (a5) (v3) H2): RT polSo 109 (sn 12 K7) (V5 db n cap lo hi fi (.n r) y11) H .normal (V5 db n cap lo hi fi (.i (qA.wrap (qA.wrap (2*(r:Int))+1))) (.i (qA.wrap (qA.wrap (2*(r:Int))+1)))) H2 :=
 hx N 60 [jF 2 2 H g0,jF 3 3 H g1,jO 5 5 H g2,jO 5 6 H g3,jO 5 11 H g4,jO 5 12 H g5,jC 5 13 g6,jT 5 14 H0 g7,jO 6 12 H0 g8,jO 6 13 H0 g9,jO 6 18 H0 g10,jO 6 19 H0 g11,jO 6 20 H0 g12,jS 6 21 g13,jO 6 22 H1 g14,jS 6 23 g15]
theorem QiS (r:Nat) {y11:HV} {a0:HV} {v0:HV} {a1:HV} {v1:HV} {c0:Int} {H0:Heap} (g0:¬((hi:Int)≤qA.wrap (qA.wrap (2*(r:Int))+1))) (g1:¬(qA.wrap (qA.wrap (qA.wrap (2*(r:Int))+1)+1)<(hi:Int))) (g2:IX 88 (.sl db 0 n cap n 3) (.i (qA.wrap ((fi:Int)+(r:Int)))) (a0)) (g3:LD H 91 (a0) (v0)) (g4:IX 88 (.sl db 0 n cap n 3) (.i (qA.wrap ((fi:Int)+qA.wrap (qA.wrap (2*(r:Int))+1)))) (a1)) (g5:LD H 91 (a1) (v1)) (g6:∀kf,N≤kf→Qa Tp polSo (kf+1) 77 [v0,v1] H=some (.i c0,H0)) (g7:¬(c0<0)): RT polSo 109 (sn 12 K7) (V5 db n cap lo hi fi (.n r) y11) H .ret (V5 db n cap lo hi fi (.n r) (.i (qA.wrap (qA.wrap (2*(r:Int))+1)))) H0 :=
 hx N 60 [jF 2 2 H g0,jF 3 3 H g1,jO 5 5 H g2,jO 5 6 H g3,jO 5 11 H g4,jO 5 12 H g5,jC 5 13 g6,jF 5 14 H0 g7]
end
noncomputable def B97:Code:=Try.f97.body.getD .skip
abbrev XC (v0 v1 v2 v3 v8 v9 v10 v11 v12:HV):Env:=[(0,v0),(1,v1),(2,v2),(3,v3),(8,v8),(9,v9),(10,v10),(11,v11),(12,v12)]
abbrev e97 (db:Nat) (n:Nat) (cap:Option Nat) (a:Nat) (b:Nat) (fi:Nat) (u6 u7 u8:HV):Env:=XC (.sl db 0 n cap n 3) (.n a) (.n b) (.func 77 [] []) (.n fi) (.i 0) u6 u7 u8
section
variable (N:Nat) (db n:Nat) (cap:Option Nat) (H:Heap) (x:Nat) (a:Nat) (b:Nat)
include N db n cap H x a b
theorem QiT:RT polSo 97 (sn 2 B97) [(0,.sl db 0 n cap n 3),(1,.n a),(2,.n b),(3,.func 77 [] [])] H .normal (XC (.sl db 0 n cap n 3) (.n a) (.n b) (.func 77 [] []) (.n a) Ud Ud Ud Ud) H :=
 hx N 60 []
end
section
variable (N:Nat) (db n:Nat) (cap:Option Nat) (H:Heap) (x:Nat) (a:Nat) (b:Nat)
include N db n cap H x a b
theorem QiU (fi:Nat) {y9 y10 y11 y12:HV}: RT polSo 97 (sn 6 B97) (XC (.sl db 0 n cap n 3) (.n a) (.n b) (.func 77 [] []) (.n fi) y9 y10 y11 y12) H .normal (e97 db n cap a b fi y10 y11 y12) H :=
 hx N 60 []
theorem QiV (fi:Nat) {y10 y11 y12:HV}: RT polSo 97 (sn 14 B97) (e97 db n cap a b fi y10 y11 y12) H .normal (e97 db n cap a b fi (.i (qA.wrap ((b:Int)-(a:Int)))) y11 y12) H :=
 hx N 60 []
theorem QiW (fi:Nat) (hi:Nat) {y11 y12:HV}: RT polSo 97 (sn 60 B97) (e97 db n cap a b fi (.n hi) y11 y12) H .normal (e97 db n cap a b fi (.n hi) (.i (qA.wrap ((qA.wrap ((hi:Int)-1):Int).tdiv 2))) y12) H :=
 hx N 60 []
theorem QiX (fi:Nat) (hi:Nat) (x:Int) {y12:HV} {H0:Heap} (g0:0≤x) (g1:∀kf,N≤kf→Qa Tp polSo (kf+1) 109 [.sl db 0 n cap n 3,.i x,.n hi,.n fi,.func 77 [] []] H=some (.tuple [],H0)): RT polSo 97 (sn 244 B97) (e97 db n cap a b fi (.n hi) (.i x) y12) H .normal (e97 db n cap a b fi (.n hi) (.i (qA.wrap (x-1))) y12) H0 :=
 hx N 60 [jT 4 1 H g0,jC 6 5 g1]
theorem QiY (fi:Nat) (hi:Nat) (x:Int) {y12:HV} (g0:¬(0≤x)): RT polSo 97 (sn 244 B97) (e97 db n cap a b fi (.n hi) (.i x) y12) H (.exit 0) (e97 db n cap a b fi (.n hi) (.i x) y12) H :=
 hx N 60 [jF 4 1 H g0]
theorem QiZ (fi:Nat) (hi:Nat) {y11 y12:HV}: RT polSo 97 (sn 62 B97) (e97 db n cap a b fi (.n hi) y11 y12) H .normal (e97 db n cap a b fi (.n hi) y11 (.i (qA.wrap ((hi:Int)-1)))) H :=
 hx N 60 []
theorem Qi0 (fi:Nat) (x:Int) {y10 y11:HV} {a0:HV} {v0:HV} {a1:HV} {v1:HV} {a2:HV} {H0:Heap} {a3:HV} {H1:Heap} {H2:Heap} (g0:0≤x) (g1:IX 88 (.sl db 0 n cap n 3) (.i (qA.wrap ((fi:Int)+x))) (a0)) (g2:LD H 91 (a0) (v0)) (g3:IX 88 (.sl db 0 n cap n 3) (.n fi) (a1)) (g4:LD H 91 (a1) (v1)) (g5:IX 88 (.sl db 0 n cap n 3) (.n fi) (a2)) (g6:ST H 91 (a2) (v0) H0) (g7:IX 88 (.sl db 0 n cap n 3) (.i (qA.wrap ((fi:Int)+x))) (a3)) (g8:ST H0 91 (a3) (v1) H1) (g9:∀kf,N≤kf→Qa Tp polSo (kf+1) 109 [.sl db 0 n cap n 3,.i 0,.i x,.n fi,.func 77 [] []] H1=some (.tuple [],H2)): RT polSo 97 (sn 252 B97) (e97 db n cap a b fi y10 y11 (.i x)) H .normal (e97 db n cap a b fi y10 y11 (.i (qA.wrap (x-1)))) H2 :=
 hx N 60 [jT 8 1 H g0,jO 10 10 H g1,jO 10 11 H g2,jO 10 14 H g3,jO 10 15 H g4,jO 10 16 H g5,jS 10 17 g6,jO 10 18 H0 g7,jS 10 19 g8,jC 11 5 g9]
theorem Qi1 (fi:Nat) (x:Int) {y10 y11:HV} (g0:¬(0≤x)): RT polSo 97 (sn 252 B97) (e97 db n cap a b fi y10 y11 (.i x)) H (.exit 2) (e97 db n cap a b fi y10 y11 (.i x)) H :=
 hx N 60 [jF 8 1 H g0]
end
end Go.Proofs.Ytlendaofkmhgmaa
end
section
open Go Go.HL Go.HL.So
namespace Go.Proofs.Ytlendaofkmhgmaa
set_option linter.unusedSectionVars false
open Go.Proofs.Try renaming prog → Tp
open Go.HL.HV renaming undef → Ud
section
variable {α:Type} [Inhabited α]
def bE (enc:α→HV) (l:List α):Blk:=.arr 3 (l.map enc) true 0
def Mm (enc:α→HV) (H:Heap) (db:Nat) (l:List α) (T:Heap):Heap:=H.set db (bE enc l)++T
structure So (enc:α→HV) (lt:α→α→Prop) (dom:α→Prop) (H:Heap) (db n:Nat):Prop where
 nb:n≤60000
 hdb:db<H.length
 mx:mxs H≤H.length
 ld:∀(l:List α) (T:Heap) (i:Nat),l.length=n→i<n→Qh Tp (Mm enc H db l T) 91 (.ptr db i 0 n)=some (enc (at_ l i))
 st:∀(l:List α) (T:Heap) (i:Nat) (x:α),l.length=n→i<n→QM Tp (Mm enc H db l T) 91 (.ptr db i 0 n) (enc x)=some (Mm enc H db (l.set i x) T)
 call:∀(l:List α) (T:Heap) (x y:α),l.length=n→mxs T=0→dom x→dom y→∃c N,(∀kf,N≤kf→Qa Tp polSo (kf+1) 77 [enc x,enc y] (Mm enc H db l T)=some (.int .i64 c,Mm enc H db l T))∧(c<0↔lt x y)
end
section
variable {α:Type} [Inhabited α]
variable {enc:α→HV} {lt:α→α→Prop} {dom:α→Prop} {H:Heap} {db n:Nat} {cap:Option Nat}
theorem Qi2 (l l':List α) (T T':Heap) (h:T.length=T'.length):(Mm enc H db l T).length=(Mm enc H db l' T').length:=by simp [Mm,h]
theorem gcM (l l':List α) (T T':Heap) (r:Nat) (h:T.length=T'.length):gc (Mm enc H db l T).length r (Mm enc H db l' T')=Mm enc H db l' T':=WN r (Qi2 l' l T' T h.symm)
theorem QoP:Tp.underlying 88=some (.slice 91):=by kernel_rfl
theorem QoQ:Qm Tp 91=some 3:=by kernel_rfl
theorem ixs {i:Nat} {e:Int} (he:e=(i:Int)) (hi:i<n):WW Tp 88 (.sl db 0 n cap n 3) (.int .i64 e)=some (.ptr db i 0 n):=by
 subst he
 have:=VY (P:=Tp) (t:=88) (b:=db) (len:=n) (tot:=n) (cap:=cap) (ik:=.i64) (n:=(i:Int)) QoP QoQ (by omega) (by omega)
 rwa [qG] at this
theorem So.ct (S:So enc lt dom H db n) {l:List α} {T:Heap} {x y:α} (hl:l.length=n) (hT:mxs T=0) (hx:dom x) (hy:dom y) (h:lt x y):∃c N,(∀kf,N≤kf→Qa Tp polSo (kf+1) 77 [enc x,enc y] (Mm enc H db l T)=some (.int .i64 c,Mm enc H db l T))∧c<0:=by
 obtain ⟨c,N,hN,hc⟩:=S.call l T x y hl hT hx hy
 exact ⟨c,N,hN,hc.2 h⟩
theorem So.cf (S:So enc lt dom H db n) {l:List α} {T:Heap} {x y:α} (hl:l.length=n) (hT:mxs T=0) (hx:dom x) (hy:dom y) (h:¬lt x y):∃c N,(∀kf,N≤kf→Qa Tp polSo (kf+1) 77 [enc x,enc y] (Mm enc H db l T)=some (.int .i64 c,Mm enc H db l T))∧¬(c<0):=by
 obtain ⟨c,N,hN,hc⟩:=S.call l T x y hl hT hx hy
 exact ⟨c,N,hN,fun q=>h (hc.1 q)⟩
def Dm (dom:α→Prop) (l:List α):Prop:=∀x∈l,dom x
theorem Dm.at {l:List α} (h:Dm dom l) {i:Nat} (hi:i<l.length):dom (at_ l i):=by
 have:at_ l i=l[i]:=by simp [at_,qE,qC hi]
 rw [this];exact h _ (List.getElem_mem hi)
theorem Dm.sw {l l':List α} {a b:Nat} (h:Dm dom l) (hs:Sw a b l l') (hb:b≤l.length):Dm dom l':=hs.mem hb h
theorem Ww {l l':List α} {a b:Nat} (hs:Sw a b l l') (hl:l.length=n):l'.length=n:=hs.len.trans hl
theorem So.st2 (S:So enc lt dom H db n) {l:List α} {T:Heap} {i j:Nat} (hl:l.length=n) (hi:i<n) (hj:j<n):QM Tp (Mm enc H db l T) 91 (.ptr db i 0 n) (enc (at_ l j))=some (Mm enc H db (l.set i (at_ l j)) T)∧QM Tp (Mm enc H db (l.set i (at_ l j)) T) 91 (.ptr db j 0 n) (enc (at_ l i))=some (Mm enc H db (swp l i j) T) :=
 ⟨S.st l T i _ hl hi,S.st _ T j _ (by simpa using hl) hj⟩
theorem Qn0 (S:So enc lt dom H db n) (hL:Lin lt) {T:Heap} (hT:mxs T=0) {a b i:Nat} (hi:i<n):∀(j:Nat) (l:List α),l.length=n→j≤i→a≤j→Dm dom l→Sp lt a (i+1) j l →
  ∃y l',RT polSo 96 (sn 402 B96) (Yx (.sl db 0 n cap n 3) (.i (a:Int)) (.i (b:Int)) (.func 77 [] []) (.i (i:Int)) (.i (j:Int))) (Mm enc H db l T) (.exit 2) (Yx (.sl db 0 n cap n 3) (.i (a:Int)) (.i (b:Int)) (.func 77 [] []) (.i (i:Int)) y) (Mm enc H db l' T)∧Sw a (i+1) l l'∧Sorted lt a (i+1) l':=by
 have hn:=S.nb
 intro j
 induction j with
 | zero =>
  intro l hl hj ha hD hS
  exact ⟨_,l,lpo (QcS 0 db n cap (Mm enc H db l T) 0 a b i 0 (by omega)),.refl,K6 hL hS (.inl (qD _))⟩
 | succ j ih =>
  intro l hl hj ha hD hS
  by_cases c1:a<j+1
  ·by_cases c2:lt (at_ l (j+1)) (at_ l j)
   ·obtain ⟨cc,N,hN,hc⟩:=S.ct (T:=T) hl hT (hD.at (i:=j+1) (by omega)) (hD.at (i:=j) (by omega)) c2
    obtain ⟨s1,s2⟩:=S.st2 (T:=T) hl (i:=j+1) (j:=j) (by omega) (by omega)
    have sw:Sw a (i+1) l (swp l (j+1) j):=Sw.one (by omega) (by omega) (by omega) (by omega)
    have st:=QiJ N db n cap (Mm enc H db l T) 0 a b i (j+1) (by omega) (ixs (i:=j+1) (by omega) (by omega)) (S.ld l T (j+1) hl (by omega)) (ixs (i:=j) (by simp only [Wc];omega) (by omega)) (S.ld l T j hl (by omega)) hN hc (ixs (i:=j) (by simp only [Wc];omega) (by omega)) (S.ld l T j hl (by omega)) (ixs (i:=j+1) (by omega) (by omega)) (S.ld l T (j+1) hl (by omega)) (ixs (i:=j+1) (by omega) (by omega)) s1 (ixs (i:=j) (by simp only [Wc];omega) (by omega)) s2
    rw [show qA.wrap (((j+1:Nat):Int)-1)=(j:Int) by simp only [Wc];omega] at st
    obtain ⟨y,l',r,q1,q2⟩:=ih (swp l (j+1) j) (by rw [Jk];exact hl) (by omega) (by omega) (hD.sw sw (by omega)) (Do hL (j:=j+1) (by omega) (by omega) c1 hS c2)
    exact ⟨y,l',lop (st) (gcM _ _ _ _ _ rfl) (r),sw.trans q1,q2⟩
   ·obtain ⟨cc,N,hN,hc⟩:=S.cf (T:=T) hl hT (hD.at (i:=j+1) (by omega)) (hD.at (i:=j) (by omega)) c2
    have st:=QiK N db n cap (Mm enc H db l T) 0 a b i (j+1) (by omega) (ixs (i:=j+1) (by omega) (by omega)) (S.ld l T (j+1) hl (by omega)) (ixs (i:=j) (by simp only [Wc];omega) (by omega)) (S.ld l T j hl (by omega)) hN hc
    exact ⟨_,l,lpo (st),.refl,K6 hL hS (.inr c2)⟩
  ·exact ⟨_,l,lpo (QcS 0 db n cap (Mm enc H db l T) 0 a b i (j+1) (by omega)),.refl,K6 hL hS (.inl (by omega))⟩
theorem Qi3 (S:So enc lt dom H db n) (hL:Lin lt) {T:Heap} (hT:mxs T=0) {a b:Nat} (hb:b≤n):∀(d i:Nat) (l:List α),i+d=b→a≤i→l.length=n→Dm dom l→Sorted lt a i l →
  ∃l',RT polSo 96 (sn 6 B96) (Yx (.sl db 0 n cap n 3) (.i (a:Int)) (.i (b:Int)) (.func 77 [] []) (.i (i:Int)) Ud) (Mm enc H db l T) (.exit 0) (Yx (.sl db 0 n cap n 3) (.i (a:Int)) (.i (b:Int)) (.func 77 [] []) (.i (b:Int)) Ud) (Mm enc H db l' T)∧Sw a b l l'∧Sorted lt a b l':=by
 have hn:=S.nb
 intro d
 induction d with
 | zero =>
  intro i l hi ha hl hD hS
  have:i=b:=by omega
  subst this
  exact ⟨l,lpo (sqo (QcR 0 db n cap (Mm enc H db l T) 0 a i i (by omega)) (c:=sn 12 B96) (b:=sn 25 B96)),.refl,hS⟩
 | succ d ih =>
  intro i l hi ha hl hD hS
  obtain ⟨y,l1,r1,q1,q2⟩:=Qn0 S hL (cap:=cap) hT (a:=a) (b:=b) (i:=i) (by omega) i l hl (qB _) ha hD (Ux hS)
  have r1':=lpi (e0:=(Yx (.sl db 0 n cap n 3) (.i (a:Int)) (.i (b:Int)) (.func 77 [] []) (.i (i:Int)) (.i (i:Int)))) r1 (b:=sn 804 B96)
  have st:=sq (QiH 0 db n cap (Mm enc H db l T) 0 a b i (by omega) (y9:=Ud)) (sq (RunsTo.block_normal (i:=1) (c:=sn 50 B96) (sq (QiI 0 db n cap (Mm enc H db l T) 0 a b i) (bke (c:=sn 201 B96) (r1')) (c:=sn 100 B96)) (by kernel_rfl)) (QiL 0 db n cap (Mm enc H db l1 T) 0 a b i) (c:=sn 25 B96)) (c:=sn 12 B96)
  rw [Qc (by omega)] at st
  obtain ⟨l',r,q3,q4⟩:=ih (i+1) l1 (by omega) (by omega) (Ww q1 hl) (hD.sw q1 (by omega)) q2
  exact ⟨l',lop (st) (gcM _ _ _ _ _ rfl) (r),(q1.mono (qB _) (by omega)).trans q3,q4⟩
theorem Qi4 (S:So enc lt dom H db n) (hL:Lin lt) {T:Heap} (hT:mxs T=0) {a b:Nat} (hab:a≤b) (hb:b≤n) {l:List α} (hl:l.length=n) (hD:Dm dom l) :
  ∃l',ClS 96 [.sl db 0 n cap n 3,.int .i64 (a:Int),.int .i64 (b:Int),.func 77 [] []] (Mm enc H db l T) (.tuple []) (Mm enc H db l' T)∧Sw a b l l'∧Sorted lt a b l':=by
 have hn:=S.nb
 have key:∃i l',RT polSo 96 (sn 6 B96) (Yx (.sl db 0 n cap n 3) (.i (a:Int)) (.i (b:Int)) (.func 77 [] []) (.i ((a+1:Nat):Int)) Ud) (Mm enc H db l T) (.exit 0) (Yx (.sl db 0 n cap n 3) (.i (a:Int)) (.i (b:Int)) (.func 77 [] []) (.i i) Ud) (Mm enc H db l' T)∧Sw a b l l'∧Sorted lt a b l':=by
  by_cases c:a+1≤b
  ·obtain ⟨l',r,q⟩:=Qi3 S hL (cap:=cap) hT (a:=a) hb (b-(a+1)) (a+1) l (by omega) (by omega) hl hD (fun p q h1 h2 h3=>by omega)
   exact ⟨_,l',r,q⟩
  ·exact ⟨_,l,lpo (sqo (QcR 0 db n cap (Mm enc H db l T) 0 a b (a+1) (by omega)) (c:=sn 12 B96) (b:=sn 25 B96)),.refl,fun p q h1 h2 h3=>by omega⟩
 obtain ⟨i,l',r,q⟩:=key
 have s0:=QiG 0 db n cap (Mm enc H db l T) 0 a b
 rw [Qc (by omega)] at s0
 have t:=sq (s0) (bke (c:=sn 3 B96) (r)) (c:=B96)
 have hc:=CallsTo.shared (P:=Tp) (pol:=polSo) (g:=96) (fn:=Try.f96) (cd:=B96) (args:=[.sl db 0 n cap n 3,.int .i64 (a:Int),.int .i64 (b:Int),.func 77 [] []]) (v:=.tuple []) (by kernel_rfl) (by kernel_rfl) (by kernel_rfl) (by kernel_rfl) t (by kernel_rfl) (by simp) (by kernel_rfl)
 rw [gcM _ _ _ _ _ rfl] at hc
 exact ⟨l',hc,q⟩
theorem QcU (S:So enc lt dom H db n) {T:Heap} {a b:Nat} (hb:b≤n):∀(d i j:Nat) (l:List α),j+1-i≤d→a≤i→j<b→l.length=n →
  ∃y1 y2 l',RT polSo 100 (sn 14 Gc) (Sr (.sl db 0 n cap n 3) (.i (a:Int)) (.i (b:Int)) (.i (i:Int)) (.i (j:Int))) (Mm enc H db l T) (.exit 0) (Sr (.sl db 0 n cap n 3) (.i (a:Int)) (.i (b:Int)) y1 y2) (Mm enc H db l' T)∧Sw a b l l':=by
 have hn:=S.nb
 intro d
 induction d with
 | zero =>
  intro i j l hd ha hj hl
  exact ⟨_,_,l,lpo (Qah 0 db n cap (Mm enc H db l T) 0 a b i j (by omega)),.refl⟩
 | succ d ih =>
  intro i j l hd ha hj hl
  by_cases c:i<j
  ·obtain ⟨s1,s2⟩:=S.st2 (T:=T) hl (i:=i) (j:=j) (by omega) (by omega)
   have st:=QeW 0 db n cap (Mm enc H db l T) 0 a b i j (by omega) (ixs (i:=j) rfl (by omega)) (S.ld l T j hl (by omega)) (ixs (i:=i) rfl (by omega)) (S.ld l T i hl (by omega)) (ixs (i:=i) rfl (by omega)) s1 (ixs (i:=j) rfl (by omega)) s2
   rw [Qc (by omega),QJ (by omega) (by omega)] at st
   have sw:Sw a b l (swp l i j):=Sw.one (by omega) (by omega) (by omega) (by omega)
   obtain ⟨y1,y2,l',r,q⟩:=ih (i+1) (j-1) (swp l i j) (by omega) (by omega) (by omega) (by rw [Jk];exact hl)
   exact ⟨y1,y2,l',lop (st) (gcM _ _ _ _ _ rfl) (r),sw.trans q⟩
  ·exact ⟨_,_,l,lpo (Qah 0 db n cap (Mm enc H db l T) 0 a b i j (by omega)),.refl⟩
theorem Qi5 (S:So enc lt dom H db n) {T:Heap} {a b:Nat} (hab:a<b) (hb:b≤n) {l:List α} (hl:l.length=n) :
  ∃l',ClS 100 [.sl db 0 n cap n 3,.int .i64 (a:Int),.int .i64 (b:Int),.func 77 [] []] (Mm enc H db l T) (.tuple []) (Mm enc H db l' T)∧Sw a b l l':=by
 have hn:=S.nb
 obtain ⟨y1,y2,l',r,q⟩:=QcU S (cap:=cap) (T:=T) (a:=a) hb (b+1) a (b-1) l (by omega) (qB _) (by omega) hl
 have s0:=QeU 0 db n cap (Mm enc H db l T) 0 a b
 have s1:=QeV 0 db n cap (Mm enc H db l T) 0 a b a (y9:=Ud)
 rw [QJ (by omega) (by omega)] at s1
 have t:=sq (s0) (sq (s1) (bke (c:=sn 7 Gc) (r)) (c:=sn 3 Gc)) (c:=Gc)
 have hc:=CallsTo.shared (P:=Tp) (pol:=polSo) (g:=100) (fn:=Try.f100) (cd:=Gc) (args:=[.sl db 0 n cap n 3,.int .i64 (a:Int),.int .i64 (b:Int),.func 77 [] []]) (v:=.tuple []) (by kernel_rfl) (by kernel_rfl) (by kernel_rfl) (by kernel_rfl) t (by kernel_rfl) (by simp) (by kernel_rfl)
 rw [gcM _ _ _ _ _ rfl] at hc
 exact ⟨l',hc,q⟩
end
section
variable {α:Type} [Inhabited α] {enc:α→HV} {lt:α→α→Prop} {dom:α→Prop} {H:Heap} {db n:Nat} {cap:Option Nat}
theorem ClS.from {g:FuncId} {args:List HV} {H H':Heap} {r:HV} (h:ClS g args H r H'):∃N,∀kf,N≤kf→Qa Tp polSo (kf+1) g args H=some (r,H'):=CallsTo.from h
set_option maxHeartbeats 4000000 in
theorem QeX (S:So enc lt dom H db n) (hL:Lin lt) {T:Heap} (hT:mxs T=0) {lo hi fi:Nat} (hfi:fi+hi≤n):∀(d r:Nat) (l:List α),hi-r≤d→lo≤r→r<hi+1→l.length=n→Dm dom l→HpX lt fi lo hi r l →
  ∃x y1 y2 l',RT polSo 109 (sn 6 K7) (V4 (.sl db 0 n cap n 3) (.i (lo:Int)) (.i (hi:Int)) (.i (fi:Int)) (.func 77 [] []) (.i (r:Int)) Ud) (Mm enc H db l T) x (V4 (.sl db 0 n cap n 3) (.i (lo:Int)) (.i (hi:Int)) (.i (fi:Int)) (.func 77 [] []) y1 y2) (Mm enc H db l' T)∧(x=.exit 0∨x=.ret)∧Sw fi (fi+hi) l l'∧Hp lt fi lo hi l':=by
 have hn:=S.nb
 intro d
 induction d with
 | zero =>
  intro r l hd hr hr2 hl hD hX
  exact ⟨_,_,_,l,lpo (QcT 0 db n cap (Mm enc H db l T) 0 lo hi fi r (by rw [Qn (n:=2*(r:Int)) (by omega) (by omega),Qn (by omega) (by omega)];omega)),.inl rfl,.refl,XA hL hX (fun c h1 h2=>by omega)⟩
 | succ d ih =>
  intro r l hd hr hr2 hl hD hX
  by_cases c0:hi≤2*r+1
  ·exact ⟨_,_,_,l,lpo (QcT 0 db n cap (Mm enc H db l T) 0 lo hi fi r (by rw [Qn (n:=2*(r:Int)) (by omega) (by omega),Qn (by omega) (by omega)];omega)),.inl rfl,.refl,XA hL hX (fun c h1 h2=>by omega)⟩
  have e0:qA.wrap (2*(r:Int))=((2*r:Nat):Int):=(by rw [Qn (by omega) (by omega)];omega)
  have e1:qA.wrap (qA.wrap (2*(r:Int))+1)=((2*r+1:Nat):Int):=by rw [e0,Qn (by omega) (by omega)];omega
  have e2:qA.wrap (qA.wrap (qA.wrap (2*(r:Int))+1)+1)=((2*r+2:Nat):Int):=by rw [e1,Qn (by omega) (by omega)];omega
  have f0:qA.wrap ((fi:Int)+(r:Int))=((fi+r:Nat):Int):=(by rw [Qn (by omega) (by omega)];omega)
  have f1:qA.wrap ((fi:Int)+qA.wrap (qA.wrap (2*(r:Int))+1))=((fi+(2*r+1):Nat):Int):=by rw [e1,Qn (by omega) (by omega)];omega
  have f2:qA.wrap ((fi:Int)+qA.wrap (qA.wrap (qA.wrap (2*(r:Int))+1)+1))=((fi+(2*r+2):Nat):Int):=by rw [e2,Qn (by omega) (by omega)];omega
  have f3:qA.wrap (qA.wrap ((fi:Int)+qA.wrap (qA.wrap (2*(r:Int))+1))+1)=((fi+(2*r+2):Nat):Int):=by rw [f1,Qn (by omega) (by omega)];omega
  have w1:fi+r<n:=by omega
  have w2:fi+(2*r+1)<n:=by omega
  have next:∀c,(c=2*r+1∨c=2*r+2)→c<hi→(∀c',(c'=2*r+1∨c'=2*r+2)→c'<hi→¬lt (at_ l (fi+c)) (at_ l (fi+c')))→lt (at_ l (fi+r)) (at_ l (fi+c)) →
    RT polSo 109 (sn 12 K7) (V4 (.sl db 0 n cap n 3) (.i (lo:Int)) (.i (hi:Int)) (.i (fi:Int)) (.func 77 [] []) (.i (r:Int)) Ud) (Mm enc H db l T) .normal (V4 (.sl db 0 n cap n 3) (.i (lo:Int)) (.i (hi:Int)) (.i (fi:Int)) (.func 77 [] []) (.i (c:Int)) (.i (c:Int))) (Mm enc H db (swp l (fi+r) (fi+c)) T) →
    ∃x y1 y2 l',RT polSo 109 (sn 6 K7) (V4 (.sl db 0 n cap n 3) (.i (lo:Int)) (.i (hi:Int)) (.i (fi:Int)) (.func 77 [] []) (.i (r:Int)) Ud) (Mm enc H db l T) x (V4 (.sl db 0 n cap n 3) (.i (lo:Int)) (.i (hi:Int)) (.i (fi:Int)) (.func 77 [] []) y1 y2) (Mm enc H db l' T)∧(x=.exit 0∨x=.ret)∧Sw fi (fi+hi) l l'∧Hp lt fi lo hi l':=by
   intro c h1 h2 h3 h4 st
   have sw:Sw fi (fi+hi) l (swp l (fi+r) (fi+c)):=Sw.one (by omega) (by omega) (by omega) (by omega)
   obtain ⟨x,y1,y2,l',q,q1,q2,q3⟩:=ih c _ (by omega) (by omega) (by omega) (by rw [Jk];exact hl) (hD.sw sw (by omega)) (QcP hL (by omega) hX hr h1 h2 h3 h4)
   exact ⟨x,y1,y2,l',lop (st) (gcM _ _ _ _ _ rfl) (q),q1,sw.trans q2,q3⟩
  have ld:=fun k (hk:k<hi)=>S.ld l T (fi+k) hl (by omega)
  by_cases c1:2*r+2<hi
  ·have w3:fi+(2*r+2)<n:=by omega
   by_cases c2:lt (at_ l (fi+(2*r+1))) (at_ l (fi+(2*r+2)))
   ·obtain ⟨cc1,N1,hN1,hc1⟩:=S.ct (T:=T) hl hT (hD.at (i:=fi+(2*r+1)) (by omega)) (hD.at (i:=fi+(2*r+2)) (by omega)) c2
    by_cases c3:lt (at_ l (fi+r)) (at_ l (fi+(2*r+2)))
    ·obtain ⟨cc2,N2,hN2,hc2⟩:=S.ct (T:=T) hl hT (hD.at (i:=fi+r) (by omega)) (hD.at (i:=fi+(2*r+2)) (by omega)) c3
     obtain ⟨s1,s2⟩:=S.st2 (T:=T) hl (i:=fi+r) (j:=fi+(2*r+2)) (by omega) (by omega)
     have st:=QiN (N1+N2) db n cap (Mm enc H db l T) 0 lo hi fi r (by rw [e1];omega) (by rw [e2];omega) (ixs f1 w2) (ld _ (by omega)) (ixs f3 w3) (ld _ (by omega)) (fun kf hk=>hN1 kf (by omega)) hc1
      (ixs f0 w1) (ld r (by omega)) (ixs f2 w3) (ld _ (by omega)) (fun kf hk=>hN2 kf (by omega)) hc2 (ixs f2 w3) (ld _ (by omega)) (ixs f0 w1) (ld r (by omega)) (ixs f0 w1) s1 (ixs f2 w3) s2 (y11:=Ud)
     rw [e2] at st
     exact next (2*r+2) (by omega) (by omega) (fun c' h1 h2=>by
      rcases h1 with rfl | rfl
      ·exact hL.asy _ _ c2
      ·exact hL.rf _) c3 st
    ·obtain ⟨cc2,N2,hN2,hc2⟩:=S.cf (T:=T) hl hT (hD.at (i:=fi+r) (by omega)) (hD.at (i:=fi+(2*r+2)) (by omega)) c3
     have st:=QiO (N1+N2) db n cap (Mm enc H db l T) 0 lo hi fi r (by rw [e1];omega) (by rw [e2];omega) (ixs f1 w2) (ld _ (by omega)) (ixs f3 w3) (ld _ (by omega)) (fun kf hk=>hN1 kf (by omega)) hc1
      (ixs f0 w1) (ld r (by omega)) (ixs f2 w3) (ld _ (by omega)) (fun kf hk=>hN2 kf (by omega)) hc2 (y11:=Ud)
     exact ⟨_,_,_,l,lpo (st),.inr rfl,.refl,XA hL hX fun c' h1 h2=>by
      rcases h1 with rfl | rfl
      ·exact hL.tr _ _ _ (hL.asy _ _ c2) c3
      ·exact c3⟩
   ·obtain ⟨cc1,N1,hN1,hc1⟩:=S.cf (T:=T) hl hT (hD.at (i:=fi+(2*r+1)) (by omega)) (hD.at (i:=fi+(2*r+2)) (by omega)) c2
    by_cases c3:lt (at_ l (fi+r)) (at_ l (fi+(2*r+1)))
    ·obtain ⟨cc2,N2,hN2,hc2⟩:=S.ct (T:=T) hl hT (hD.at (i:=fi+r) (by omega)) (hD.at (i:=fi+(2*r+1)) (by omega)) c3
     obtain ⟨s1,s2⟩:=S.st2 (T:=T) hl (i:=fi+r) (j:=fi+(2*r+1)) (by omega) (by omega)
     have st:=QiP (N1+N2) db n cap (Mm enc H db l T) 0 lo hi fi r (by rw [e1];omega) (by rw [e2];omega) (ixs f1 w2) (ld _ (by omega)) (ixs f3 w3) (ld _ (by omega)) (fun kf hk=>hN1 kf (by omega)) hc1
      (ixs f0 w1) (ld r (by omega)) (ixs f1 w2) (ld _ (by omega)) (fun kf hk=>hN2 kf (by omega)) hc2 (ixs f1 w2) (ld _ (by omega)) (ixs f0 w1) (ld r (by omega)) (ixs f0 w1) s1 (ixs f1 w2) s2 (y11:=Ud)
     rw [e1] at st
     exact next (2*r+1) (by omega) (by omega) (fun c' h1 h2=>by
      rcases h1 with rfl | rfl
      ·exact hL.rf _
      ·exact c2) c3 st
    ·obtain ⟨cc2,N2,hN2,hc2⟩:=S.cf (T:=T) hl hT (hD.at (i:=fi+r) (by omega)) (hD.at (i:=fi+(2*r+1)) (by omega)) c3
     have st:=QiQ (N1+N2) db n cap (Mm enc H db l T) 0 lo hi fi r (by rw [e1];omega) (by rw [e2];omega) (ixs f1 w2) (ld _ (by omega)) (ixs f3 w3) (ld _ (by omega)) (fun kf hk=>hN1 kf (by omega)) hc1
      (ixs f0 w1) (ld r (by omega)) (ixs f1 w2) (ld _ (by omega)) (fun kf hk=>hN2 kf (by omega)) hc2 (y11:=Ud)
     exact ⟨_,_,_,l,lpo (st),.inr rfl,.refl,XA hL hX fun c' h1 h2=>by
      rcases h1 with rfl | rfl
      ·exact c3
      ·exact hL.tr _ _ _ c2 c3⟩
  ·by_cases c3:lt (at_ l (fi+r)) (at_ l (fi+(2*r+1)))
   ·obtain ⟨cc2,N2,hN2,hc2⟩:=S.ct (T:=T) hl hT (hD.at (i:=fi+r) (by omega)) (hD.at (i:=fi+(2*r+1)) (by omega)) c3
    obtain ⟨s1,s2⟩:=S.st2 (T:=T) hl (i:=fi+r) (j:=fi+(2*r+1)) (by omega) (by omega)
    have st:=QiR N2 db n cap (Mm enc H db l T) 0 lo hi fi r (by rw [e1];omega) (by rw [e2];omega)
      (ixs f0 w1) (ld r (by omega)) (ixs f1 w2) (ld _ (by omega)) (fun kf hk=>hN2 kf (by omega)) hc2 (ixs f1 w2) (ld _ (by omega)) (ixs f0 w1) (ld r (by omega)) (ixs f0 w1) s1 (ixs f1 w2) s2 (y11:=Ud)
    rw [e1] at st
    exact next (2*r+1) (by omega) (by omega) (fun c' h1 h2=>by
      have:c'=2*r+1:=by omega
      subst this
      exact hL.rf _) c3 st
   ·obtain ⟨cc2,N2,hN2,hc2⟩:=S.cf (T:=T) hl hT (hD.at (i:=fi+r) (by omega)) (hD.at (i:=fi+(2*r+1)) (by omega)) c3
    have st:=QiS N2 db n cap (Mm enc H db l T) 0 lo hi fi r (by rw [e1];omega) (by rw [e2];omega)
      (ixs f0 w1) (ld r (by omega)) (ixs f1 w2) (ld _ (by omega)) (fun kf hk=>hN2 kf (by omega)) hc2 (y11:=Ud)
    exact ⟨_,_,_,l,lpo (st),.inr rfl,.refl,XA hL hX fun c' h1 h2=>by
      have:c'=2*r+1:=by omega
      subst this
      exact c3⟩
theorem Qai (S:So enc lt dom H db n) (hL:Lin lt) {T:Heap} (hT:mxs T=0) {lo hi fi:Nat} (hlo:lo≤hi) (hfi:fi+hi≤n) {l:List α} (hl:l.length=n) (hD:Dm dom l) (hH:Hp lt fi (lo+1) hi l) :
  ∃l',ClS 109 [.sl db 0 n cap n 3,.int .i64 (lo:Int),.int .i64 (hi:Int),.int .i64 (fi:Int),.func 77 [] []] (Mm enc H db l T) (.tuple []) (Mm enc H db l' T)∧Sw fi (fi+hi) l l'∧Hp lt fi lo hi l':=by
 obtain ⟨x,y1,y2,l',r,q1,q2⟩:=QeX S hL (cap:=cap) hT hfi (hi+1) lo l (by omega) (qB _) (by omega) hl hD (Qbj hH)
 have s0:=QiM 0 db n cap (Mm enc H db l T) 0 lo hi fi
 rcases q1 with rfl | rfl
 ·have t:=sq (s0) (bke (c:=sn 3 K7) (r)) (c:=K7)
  have hc:=CallsTo.shared (P:=Tp) (pol:=polSo) (g:=109) (fn:=Try.f109) (cd:=K7) (args:=[.sl db 0 n cap n 3,.int .i64 (lo:Int),.int .i64 (hi:Int),.int .i64 (fi:Int),.func 77 [] []]) (v:=.tuple []) (by kernel_rfl) (by kernel_rfl) (by kernel_rfl) (by kernel_rfl) t (by kernel_rfl) (by simp) (by kernel_rfl)
  rw [gcM _ _ _ _ _ rfl] at hc
  exact ⟨l',hc,q2⟩
 ·have t:=sq (s0) (RunsTo.block_ret (i:=0) (c:=sn 3 K7) (r) (by kernel_rfl)) (c:=K7)
  have hc:=CallsTo.shared (P:=Tp) (pol:=polSo) (g:=109) (fn:=Try.f109) (cd:=K7) (args:=[.sl db 0 n cap n 3,.int .i64 (lo:Int),.int .i64 (hi:Int),.int .i64 (fi:Int),.func 77 [] []]) (v:=.tuple []) (by kernel_rfl) (by kernel_rfl) (by kernel_rfl) (by kernel_rfl) t (by kernel_rfl) (by simp) (by kernel_rfl)
  rw [gcM _ _ _ _ _ rfl] at hc
  exact ⟨l',hc,q2⟩
theorem QcV (S:So enc lt dom H db n) (hL:Lin lt) {T:Heap} (hT:mxs T=0) {a b hi:Nat} (hhi:a+hi≤n):∀(k:Nat) (l:List α),k≤hi→l.length=n→Dm dom l→Hp lt a k hi l →
  ∃l',RT polSo 97 (sn 122 B97) (XC (.sl db 0 n cap n 3) (.i (a:Int)) (.i (b:Int)) (.func 77 [] []) (.i (a:Int)) (.i 0) (.i (hi:Int)) (.i ((k:Int)-1)) Ud) (Mm enc H db l T) (.exit 0) (XC (.sl db 0 n cap n 3) (.i (a:Int)) (.i (b:Int)) (.func 77 [] []) (.i (a:Int)) (.i 0) (.i (hi:Int)) (.i (-1)) Ud) (Mm enc H db l' T)∧Sw a (a+hi) l l'∧Hp lt a 0 hi l':=by
 have hn:=S.nb
 intro k
 induction k with
 | zero =>
  intro l hk hl hD hH
  exact ⟨l,lpo (QiY 0 db n cap (Mm enc H db l T) 0 a b a hi (((0:Nat):Int)-1) (by omega)),.refl,hH⟩
 | succ k ih =>
  intro l hk hl hD hH
  obtain ⟨l1,hc,q1,q2⟩:=Qai S hL (cap:=cap) hT (lo:=k) (by omega) hhi hl hD hH
  obtain ⟨N,hN⟩:=hc.from
  have st:=QiX N db n cap (Mm enc H db l T) 0 a b a hi (k:Int) (y12:=Ud) (by omega) hN
  rw [show qA.wrap ((k:Int)-1)=(k:Int)-1 by simp only [Wc];omega] at st
  obtain ⟨l',r,q3,q4⟩:=ih l1 (by omega) (Ww q1 hl) (hD.sw q1 (by omega)) q2
  rw [show ((k+1:Nat):Int)-1=(k:Int) by omega]
  exact ⟨l',lop (st) (gcM _ _ _ _ _ rfl) (r),q1.trans q3,q4⟩
theorem QeY (S:So enc lt dom H db n) (hL:Lin lt) {T:Heap} (hT:mxs T=0) {a b hi:Nat} (hhi:a+hi≤n):∀(k:Nat) (l:List α),k≤hi→l.length=n→Dm dom l→Qag lt a hi k l →
  ∃l',RT polSo 97 (sn 126 B97) (XC (.sl db 0 n cap n 3) (.i (a:Int)) (.i (b:Int)) (.func 77 [] []) (.i (a:Int)) (.i 0) Ud Ud (.i ((k:Int)-1))) (Mm enc H db l T) (.exit 2) (XC (.sl db 0 n cap n 3) (.i (a:Int)) (.i (b:Int)) (.func 77 [] []) (.i (a:Int)) (.i 0) Ud Ud (.i (-1))) (Mm enc H db l' T)∧Sw a (a+hi) l l'∧Qag lt a hi 0 l':=by
 have hn:=S.nb
 intro k
 induction k with
 | zero =>
  intro l hk hl hD hH
  exact ⟨l,lpo (Qi1 0 db n cap (Mm enc H db l T) 0 a b a (((0:Nat):Int)-1) (by omega)),.refl,hH⟩
 | succ k ih =>
  intro l hk hl hD hH
  obtain ⟨p1,p2,p3⟩:=QeO hL (by omega) (by omega) hH
  have sw:Sw a (a+hi) l (swp l a (a+k)):=Sw.one (by omega) (by omega) (by omega) (by omega)
  have hl1:=Ww sw hl
  obtain ⟨l1,hc,q1,q2⟩:=Qai S hL (cap:=cap) hT (lo:=0) (hi:=k) (fi:=a) (qD _) (by omega) hl1 (hD.sw sw (by omega)) p1
  obtain ⟨N,hN⟩:=hc.from
  obtain ⟨s1,s2⟩:=S.st2 (T:=T) hl (i:=a) (j:=a+k) (by omega) (by omega)
  have st:=Qi0 N db n cap (Mm enc H db l T) 0 a b a (k:Int) (y10:=Ud) (y11:=Ud) (by omega) (ixs (i:=a+k) (by simp only [Wc];omega) (by omega)) (S.ld l T _ hl (by omega)) (ixs (i:=a) rfl (by omega)) (S.ld l T _ hl (by omega)) (ixs (i:=a) rfl (by omega)) s1 (ixs (i:=a+k) (by simp only [Wc];omega) (by omega)) s2 hN
  rw [show qA.wrap ((k:Int)-1)=(k:Int)-1 by simp only [Wc];omega] at st
  have sw2:Sw a (a+hi) l l1:=sw.trans (q1.mono (qB _) (by omega))
  have hI:Qag lt a hi k l1:=by
   refine ⟨q2,fun p q h1 h2 h3=>?_,fun p q h1 h2 h3=>?_⟩
   ·rw [q1.out (by rw [hl1];omega) (k:=a+p) (by omega),q1.out (by rw [hl1];omega) (k:=a+q) (by omega)]
    exact p2 p q h1 h2 h3
   ·rw [q1.out (by rw [hl1];omega) (k:=a+q) (by omega)]
    have:=q1.all (by rw [hl1];omega) (Q:=fun x=>¬lt (at_ (swp l a (a+k)) (a+q)) x) (lo:=a) (hi:=a+k) (qB _) (qB _) (fun i h4 h5=>by
     obtain ⟨m,rfl⟩:∃m,i=a+m:=⟨i-a,by omega⟩
     exact p3 m q (by omega) h2 h3)
    exact this (a+p) (by omega) (by omega)
  obtain ⟨l',r,q3,q4⟩:=ih l1 (by omega) (Ww sw2 hl) (hD.sw sw2 (by omega)) hI
  rw [show ((k+1:Nat):Int)-1=(k:Int) by omega]
  exact ⟨l',lop (st) (gcM _ _ _ _ _ rfl) (r),sw2.trans q3,q4⟩
theorem QeZ (S:So enc lt dom H db n) (hL:Lin lt) {T:Heap} (hT:mxs T=0) {a b:Nat} (hab:a<b) (hb:b≤n) {l:List α} (hl:l.length=n) (hD:Dm dom l) :
  ∃l',ClS 97 [.sl db 0 n cap n 3,.int .i64 (a:Int),.int .i64 (b:Int),.func 77 [] []] (Mm enc H db l T) (.tuple []) (Mm enc H db l' T)∧Sw a b l l'∧Sorted lt a b l':=by
 have hn:=S.nb
 obtain ⟨hi,rfl⟩:∃hi,b=a+hi:=⟨b-a,by omega⟩
 have h0:Hp lt a ((hi-1)/2+1) hi l:=fun k c h1 h2 h3=>by omega
 obtain ⟨l1,r1,q1,q2⟩:=QcV S hL (cap:=cap) hT (b:=a+hi) (by omega) ((hi-1)/2+1) l (by omega) hl hD h0
 have hl1:=Ww q1 hl
 obtain ⟨l2,r2,q3,q4⟩:=QeY S hL (cap:=cap) hT (b:=a+hi) (by omega) hi l1 (qB _) hl1 (hD.sw q1 (by omega)) ⟨q2,fun p q h1 h2 h3=>by omega,fun p q h1 h2 h3=>by omega⟩
 have s0:=QiT 0 db n cap (Mm enc H db l T) 0 a (a+hi)
 have s1:=QiU 0 db n cap (Mm enc H db l T) 0 a (a+hi) a (y9:=Ud) (y10:=Ud) (y11:=Ud) (y12:=Ud)
 have s2:=QiV 0 db n cap (Mm enc H db l T) 0 a (a+hi) a (y10:=Ud) (y11:=Ud) (y12:=Ud)
 rw [show qA.wrap (((a+hi:Nat):Int)-(a:Int))=(hi:Int) by simp only [Wc];omega] at s2
 have s3:=QiW 0 db n cap (Mm enc H db l T) 0 a (a+hi) a hi (y11:=Ud) (y12:=Ud)
 rw [show qA.wrap ((qA.wrap ((hi:Int)-1):Int).tdiv 2)=(((hi-1)/2+1:Nat):Int)-1 by
  rw [show qA.wrap ((hi:Int)-1)=((hi-1:Nat):Int) by simp only [Wc];omega,qF (by omega)]
  simp only [Wc];omega] at s3
 have r1':=lpi (e0:=(XC (.sl db 0 n cap n 3) (.i (a:Int)) (.i ((a+hi:Nat):Int)) (.func 77 [] []) (.i (a:Int)) (.i 0) (.i (hi:Int)) (.i ((((hi-1)/2+1:Nat):Int)-1)) Ud)) r1 (b:=sn 244 B97)
 have s4:=QiZ 0 db n cap (Mm enc H db l1 T) 0 a (a+hi) a hi (y11:=.i (-1)) (y12:=Ud)
 rw [show qA.wrap ((hi:Int)-1)=(hi:Int)-1 by simp only [Wc];omega] at s4
 have r2':=lpi (e0:=(XC (.sl db 0 n cap n 3) (.i (a:Int)) (.i ((a+hi:Nat):Int)) (.func 77 [] []) (.i (a:Int)) (.i 0) (.i (hi:Int)) (.i (-1)) (.i ((hi:Int)-1)))) r2 (b:=sn 252 B97)
 have t:=sq (s0) (sq (s1) (sq (s2) (sq (sq (s3) (bke (c:=sn 61 B97) (r1')) (c:=sn 30 B97)) (sq (s4) (bke (c:=sn 63 B97) (r2')) (c:=sn 31 B97)) (c:=sn 15 B97)) (c:=sn 7 B97)) (c:=sn 3 B97)) (c:=B97)
 have hc:=CallsTo.shared (P:=Tp) (pol:=polSo) (g:=97) (fn:=Try.f97) (cd:=B97) (args:=[.sl db 0 n cap n 3,.int .i64 (a:Int),.int .i64 ((a+hi:Nat):Int),.func 77 [] []]) (v:=.tuple []) (by kernel_rfl) (by kernel_rfl) (by kernel_rfl) (by kernel_rfl) t (by kernel_rfl) (by simp) (by kernel_rfl)
 rw [gcM _ _ _ _ _ rfl] at hc
 refine ⟨l2,hc,q1.trans q3,fun i j h1 h2 h3=>?_⟩
 have:=q4.2.1 (i-a) (j-a) (qD _) (by omega) (by omega)
 rwa [show a+(i-a)=i by omega,show a+(j-a)=j by omega] at this
end
end Go.Proofs.Ytlendaofkmhgmaa
end
section
open Go Go.HL
namespace Go.Proofs.Ytlendaofkmhgmaa
set_option maxRecDepth 100000
set_option linter.unusedSectionVars false
open Go.Proofs.Try renaming prog → Tp
open Go.HL.HV renaming undef → Ud
noncomputable def QO:Code:=Try.f103.body.getD .skip
abbrev Z1 (v0 v1 v2 v3 v4 v10 v11 v12 v13:HV):Env:=[(0,v0),(1,v1),(2,v2),(3,v3),(4,v4),(10,v10),(11,v11),(12,v12),(13,v13)]
abbrev Wx (db:Nat) (n:Nat) (cap:Option Nat) (a:Nat) (b:Nat) (p:Nat) (u7 u8:HV):Env:=Z1 (.sl db 0 n cap n 3) (.n a) (.n b) (.n p) (.func 77 [] []) (.i 0) (.bool false) u7 u8
section
variable (N:Nat) (db n:Nat) (cap:Option Nat) (H:Heap) (x:Nat) (a:Nat) (b:Nat) (p:Nat)
include N db n cap H x a b p
theorem Qi6:RT polSo 103 (sn 2 QO) [(0,.sl db 0 n cap n 3),(1,.n a),(2,.n b),(3,.n p),(4,.func 77 [] [])] H .normal (Wx db n cap a b p Ud Ud) H :=
 hx N 60 []
end
section
variable (N:Nat) (db n:Nat) (cap:Option Nat) (H:Heap) (x:Nat) (a:Nat) (b:Nat) (p:Nat)
include N db n cap H x a b p
theorem Qi7 {y12 y13:HV} {a0:HV} {v0:HV} {a1:HV} {v1:HV} {a2:HV} {H0:Heap} {a3:HV} {H1:Heap} (g0:IX 88 (.sl db 0 n cap n 3) (.n p) (a0)) (g1:LD H 91 (a0) (v0)) (g2:IX 88 (.sl db 0 n cap n 3) (.n a) (a1)) (g3:LD H 91 (a1) (v1)) (g4:IX 88 (.sl db 0 n cap n 3) (.n a) (a2)) (g5:ST H 91 (a2) (v0) H0) (g6:IX 88 (.sl db 0 n cap n 3) (.n p) (a3)) (g7:ST H0 91 (a3) (v1) H1): RT polSo 103 (sn 6 QO) (Wx db n cap a b p y12 y13) H .normal (Wx db n cap a b p y12 y13) H1 :=
 hx N 60 [jO 1 6 H g0,jO 1 7 H g1,jO 1 10 H g2,jO 1 11 H g3,jO 1 12 H g4,jS 1 13 g5,jO 1 14 H0 g6,jS 1 15 g7]
theorem Qi8 {y12 y13:HV}: RT polSo 103 (sn 14 QO) (Wx db n cap a b p y12 y13) H .normal (Wx db n cap a b p (.i (qA.wrap ((a:Int)+1))) (.i (qA.wrap ((b:Int)-1)))) H :=
 hx N 60 []
theorem Qi9 (i:Nat) (j:Nat) {a0:HV} {v0:HV} {a1:HV} {v1:HV} {c0:Int} {H0:Heap} (g0:(i:Int)≤(j:Int)) (g1:IX 88 (.sl db 0 n cap n 3) (.n i) (a0)) (g2:LD H 91 (a0) (v0)) (g3:IX 88 (.sl db 0 n cap n 3) (.n a) (a1)) (g4:LD H 91 (a1) (v1)) (g5:∀kf,N≤kf→Qa Tp polSo (kf+1) 77 [v0,v1] H=some (.i c0,H0)) (g6:c0<0): RT polSo 103 (sn 120 QO) (Wx db n cap a b p (.n i) (.n j)) H .normal (Wx db n cap a b p (.i (qA.wrap ((i:Int)+1))) (.n j)) H0 :=
 hx N 60 [jT 3 2 H g0,jO 3 7 H g1,jO 3 8 H g2,jO 3 11 H g3,jO 3 12 H g4,jC 3 13 g5,jT 3 14 H0 g6]
theorem Qja (i:Nat) (j:Nat) {a0:HV} {v0:HV} {a1:HV} {v1:HV} {c0:Int} {H0:Heap} (g0:(i:Int)≤(j:Int)) (g1:IX 88 (.sl db 0 n cap n 3) (.n i) (a0)) (g2:LD H 91 (a0) (v0)) (g3:IX 88 (.sl db 0 n cap n 3) (.n a) (a1)) (g4:LD H 91 (a1) (v1)) (g5:∀kf,N≤kf→Qa Tp polSo (kf+1) 77 [v0,v1] H=some (.i c0,H0)) (g6:¬(c0<0)): RT polSo 103 (sn 120 QO) (Wx db n cap a b p (.n i) (.n j)) H (.exit 0) (Wx db n cap a b p (.n i) (.n j)) H0 :=
 hx N 60 [jT 3 2 H g0,jO 3 7 H g1,jO 3 8 H g2,jO 3 11 H g3,jO 3 12 H g4,jC 3 13 g5,jF 3 14 H0 g6]
theorem QcW (i:Nat) (j:Nat) (g0:¬((i:Int)≤(j:Int))): RT polSo 103 (sn 120 QO) (Wx db n cap a b p (.n i) (.n j)) H (.exit 0) (Wx db n cap a b p (.n i) (.n j)) H :=
 hx N 60 [jF 3 2 H g0]
theorem Qjb (i:Nat) (j:Nat) {a0:HV} {v0:HV} {a1:HV} {v1:HV} {c0:Int} {H0:Heap} (g0:(i:Int)≤(j:Int)) (g1:IX 88 (.sl db 0 n cap n 3) (.n j) (a0)) (g2:LD H 91 (a0) (v0)) (g3:IX 88 (.sl db 0 n cap n 3) (.n a) (a1)) (g4:LD H 91 (a1) (v1)) (g5:∀kf,N≤kf→Qa Tp polSo (kf+1) 77 [v0,v1] H=some (.i c0,H0)) (g6:c0<0): RT polSo 103 (sn 248 QO) (Wx db n cap a b p (.n i) (.n j)) H (.exit 2) (Wx db n cap a b p (.n i) (.n j)) H0 :=
 hx N 60 [jT 5 2 H g0,jO 5 7 H g1,jO 5 8 H g2,jO 5 11 H g3,jO 5 12 H g4,jC 5 13 g5,jT 5 14 H0 g6]
theorem Qjc (i:Nat) (j:Nat) {a0:HV} {v0:HV} {a1:HV} {v1:HV} {c0:Int} {H0:Heap} (g0:(i:Int)≤(j:Int)) (g1:IX 88 (.sl db 0 n cap n 3) (.n j) (a0)) (g2:LD H 91 (a0) (v0)) (g3:IX 88 (.sl db 0 n cap n 3) (.n a) (a1)) (g4:LD H 91 (a1) (v1)) (g5:∀kf,N≤kf→Qa Tp polSo (kf+1) 77 [v0,v1] H=some (.i c0,H0)) (g6:¬(c0<0)): RT polSo 103 (sn 248 QO) (Wx db n cap a b p (.n i) (.n j)) H .normal (Wx db n cap a b p (.n i) (.i (qA.wrap ((j:Int)-1)))) H0 :=
 hx N 60 [jT 5 2 H g0,jO 5 7 H g1,jO 5 8 H g2,jO 5 11 H g3,jO 5 12 H g4,jC 5 13 g5,jF 5 14 H0 g6]
theorem QcX (i:Nat) (j:Nat) (g0:¬((i:Int)≤(j:Int))): RT polSo 103 (sn 248 QO) (Wx db n cap a b p (.n i) (.n j)) H (.exit 2) (Wx db n cap a b p (.n i) (.n j)) H :=
 hx N 60 [jF 5 2 H g0]
theorem Qjd (i:Nat) (j:Nat) {a0:HV} {v0:HV} {a1:HV} {v1:HV} {a2:HV} {H0:Heap} {a3:HV} {H1:Heap} (g0:(j:Int)<(i:Int)) (g1:IX 88 (.sl db 0 n cap n 3) (.n a) (a0)) (g2:LD H 91 (a0) (v0)) (g3:IX 88 (.sl db 0 n cap n 3) (.n j) (a1)) (g4:LD H 91 (a1) (v1)) (g5:IX 88 (.sl db 0 n cap n 3) (.n j) (a2)) (g6:ST H 91 (a2) (v0) H0) (g7:IX 88 (.sl db 0 n cap n 3) (.n a) (a3)) (g8:ST H0 91 (a3) (v1) H1): RT polSo 103 (sn 126 QO) (Wx db n cap a b p (.n i) (.n j)) H .ret (Z1 (.sl db 0 n cap n 3) (.n a) (.n b) (.n p) (.func 77 [] []) (.n j) (.bool true) (.n i) (.n j)) H1 :=
 hx N 60 [jT 7 2 H g0,jO 8 6 H g1,jO 8 7 H g2,jO 8 10 H g3,jO 8 11 H g4,jO 8 12 H g5,jS 8 13 g6,jO 8 14 H0 g7,jS 8 15 g8]
theorem Qje (i:Nat) (j:Nat) (g0:¬((j:Int)<(i:Int))): RT polSo 103 (sn 126 QO) (Wx db n cap a b p (.n i) (.n j)) H .normal (Wx db n cap a b p (.n i) (.n j)) H :=
 hx N 60 [jF 7 2 H g0]
theorem Qjf (i:Nat) (j:Nat) {a0:HV} {v0:HV} {a1:HV} {v1:HV} {a2:HV} {H0:Heap} {a3:HV} {H1:Heap} (g0:IX 88 (.sl db 0 n cap n 3) (.n j) (a0)) (g1:LD H 91 (a0) (v0)) (g2:IX 88 (.sl db 0 n cap n 3) (.n i) (a1)) (g3:LD H 91 (a1) (v1)) (g4:IX 88 (.sl db 0 n cap n 3) (.n i) (a2)) (g5:ST H 91 (a2) (v0) H0) (g6:IX 88 (.sl db 0 n cap n 3) (.n j) (a3)) (g7:ST H0 91 (a3) (v1) H1): RT polSo 103 (sn 254 QO) (Wx db n cap a b p (.n i) (.n j)) H .normal (Wx db n cap a b p (.n i) (.n j)) H1 :=
 hx N 60 [jO 10 6 H g0,jO 10 7 H g1,jO 10 10 H g2,jO 10 11 H g3,jO 10 12 H g4,jS 10 13 g5,jO 10 14 H0 g6,jS 10 15 g7]
theorem Qjg (i:Nat) (j:Nat): RT polSo 103 (sn 510 QO) (Wx db n cap a b p (.n i) (.n j)) H .normal (Wx db n cap a b p (.i (qA.wrap ((i:Int)+1))) (.n j)) H :=
 hx N 60 []
theorem Qjh (i:Nat) (j:Nat): RT polSo 103 (sn 1022 QO) (Wx db n cap a b p (.n i) (.n j)) H .normal (Wx db n cap a b p (.n i) (.i (qA.wrap ((j:Int)-1)))) H :=
 hx N 60 []
theorem Qji (i:Nat) (j:Nat) {a0:HV} {v0:HV} {a1:HV} {v1:HV} {c0:Int} {H0:Heap} (g0:(i:Int)≤(j:Int)) (g1:IX 88 (.sl db 0 n cap n 3) (.n i) (a0)) (g2:LD H 91 (a0) (v0)) (g3:IX 88 (.sl db 0 n cap n 3) (.n a) (a1)) (g4:LD H 91 (a1) (v1)) (g5:∀kf,N≤kf→Qa Tp polSo (kf+1) 77 [v0,v1] H=some (.i c0,H0)) (g6:c0<0): RT polSo 103 (sn 130944 QO) (Wx db n cap a b p (.n i) (.n j)) H .normal (Wx db n cap a b p (.i (qA.wrap ((i:Int)+1))) (.n j)) H0 :=
 hx N 60 [jT 13 2 H g0,jO 13 7 H g1,jO 13 8 H g2,jO 13 11 H g3,jO 13 12 H g4,jC 13 13 g5,jT 13 14 H0 g6]
theorem Qjj (i:Nat) (j:Nat) {a0:HV} {v0:HV} {a1:HV} {v1:HV} {c0:Int} {H0:Heap} (g0:(i:Int)≤(j:Int)) (g1:IX 88 (.sl db 0 n cap n 3) (.n i) (a0)) (g2:LD H 91 (a0) (v0)) (g3:IX 88 (.sl db 0 n cap n 3) (.n a) (a1)) (g4:LD H 91 (a1) (v1)) (g5:∀kf,N≤kf→Qa Tp polSo (kf+1) 77 [v0,v1] H=some (.i c0,H0)) (g6:¬(c0<0)): RT polSo 103 (sn 130944 QO) (Wx db n cap a b p (.n i) (.n j)) H (.exit 6) (Wx db n cap a b p (.n i) (.n j)) H0 :=
 hx N 60 [jT 13 2 H g0,jO 13 7 H g1,jO 13 8 H g2,jO 13 11 H g3,jO 13 12 H g4,jC 13 13 g5,jF 13 14 H0 g6]
theorem QcY (i:Nat) (j:Nat) (g0:¬((i:Int)≤(j:Int))): RT polSo 103 (sn 130944 QO) (Wx db n cap a b p (.n i) (.n j)) H (.exit 6) (Wx db n cap a b p (.n i) (.n j)) H :=
 hx N 60 [jF 13 2 H g0]
theorem Qjk (i:Nat) (j:Nat) {a0:HV} {v0:HV} {a1:HV} {v1:HV} {c0:Int} {H0:Heap} (g0:(i:Int)≤(j:Int)) (g1:IX 88 (.sl db 0 n cap n 3) (.n j) (a0)) (g2:LD H 91 (a0) (v0)) (g3:IX 88 (.sl db 0 n cap n 3) (.n a) (a1)) (g4:LD H 91 (a1) (v1)) (g5:∀kf,N≤kf→Qa Tp polSo (kf+1) 77 [v0,v1] H=some (.i c0,H0)) (g6:c0<0): RT polSo 103 (sn 261896 QO) (Wx db n cap a b p (.n i) (.n j)) H (.exit 8) (Wx db n cap a b p (.n i) (.n j)) H0 :=
 hx N 60 [jT 15 2 H g0,jO 15 7 H g1,jO 15 8 H g2,jO 15 11 H g3,jO 15 12 H g4,jC 15 13 g5,jT 15 14 H0 g6]
theorem Qjl (i:Nat) (j:Nat) {a0:HV} {v0:HV} {a1:HV} {v1:HV} {c0:Int} {H0:Heap} (g0:(i:Int)≤(j:Int)) (g1:IX 88 (.sl db 0 n cap n 3) (.n j) (a0)) (g2:LD H 91 (a0) (v0)) (g3:IX 88 (.sl db 0 n cap n 3) (.n a) (a1)) (g4:LD H 91 (a1) (v1)) (g5:∀kf,N≤kf→Qa Tp polSo (kf+1) 77 [v0,v1] H=some (.i c0,H0)) (g6:¬(c0<0)): RT polSo 103 (sn 261896 QO) (Wx db n cap a b p (.n i) (.n j)) H .normal (Wx db n cap a b p (.n i) (.i (qA.wrap ((j:Int)-1)))) H0 :=
 hx N 60 [jT 15 2 H g0,jO 15 7 H g1,jO 15 8 H g2,jO 15 11 H g3,jO 15 12 H g4,jC 15 13 g5,jF 15 14 H0 g6]
theorem QcZ (i:Nat) (j:Nat) (g0:¬((i:Int)≤(j:Int))): RT polSo 103 (sn 261896 QO) (Wx db n cap a b p (.n i) (.n j)) H (.exit 8) (Wx db n cap a b p (.n i) (.n j)) H :=
 hx N 60 [jF 15 2 H g0]
theorem Qc0 (i:Nat) (j:Nat) (g0:(j:Int)<(i:Int)): RT polSo 103 (sn 65475 QO) (Wx db n cap a b p (.n i) (.n j)) H (.exit 4) (Wx db n cap a b p (.n i) (.n j)) H :=
 hx N 60 [jT 17 2 H g0]
theorem Qjm (i:Nat) (j:Nat) {a0:HV} {v0:HV} {a1:HV} {v1:HV} {a2:HV} {H0:Heap} {a3:HV} {H1:Heap} (g0:¬((j:Int)<(i:Int))) (g1:IX 88 (.sl db 0 n cap n 3) (.n j) (a0)) (g2:LD H 91 (a0) (v0)) (g3:IX 88 (.sl db 0 n cap n 3) (.n i) (a1)) (g4:LD H 91 (a1) (v1)) (g5:IX 88 (.sl db 0 n cap n 3) (.n i) (a2)) (g6:ST H 91 (a2) (v0) H0) (g7:IX 88 (.sl db 0 n cap n 3) (.n j) (a3)) (g8:ST H0 91 (a3) (v1) H1): RT polSo 103 (sn 65475 QO) (Wx db n cap a b p (.n i) (.n j)) H .normal (Wx db n cap a b p (.i (qA.wrap ((i:Int)+1))) (.i (qA.wrap ((j:Int)-1)))) H1 :=
 hx N 60 [jF 17 2 H g0,jO 18 6 H g1,jO 18 7 H g2,jO 18 10 H g3,jO 18 11 H g4,jO 18 12 H g5,jS 18 13 g6,jO 18 14 H0 g7,jS 18 15 g8]
theorem Qjn (i:Nat) (j:Nat) {a0:HV} {v0:HV} {a1:HV} {v1:HV} {a2:HV} {H0:Heap} {a3:HV} {H1:Heap} (g0:IX 88 (.sl db 0 n cap n 3) (.n a) (a0)) (g1:LD H 91 (a0) (v0)) (g2:IX 88 (.sl db 0 n cap n 3) (.n j) (a1)) (g3:LD H 91 (a1) (v1)) (g4:IX 88 (.sl db 0 n cap n 3) (.n j) (a2)) (g5:ST H 91 (a2) (v0) H0) (g6:IX 88 (.sl db 0 n cap n 3) (.n a) (a3)) (g7:ST H0 91 (a3) (v1) H1): RT polSo 103 (sn 2047 QO) (Wx db n cap a b p (.n i) (.n j)) H .ret (Z1 (.sl db 0 n cap n 3) (.n a) (.n b) (.n p) (.func 77 [] []) (.n j) (.bool false) (.n i) (.n j)) H1 :=
 hx N 60 [jO 21 6 H g0,jO 21 7 H g1,jO 21 10 H g2,jO 21 11 H g3,jO 21 12 H g4,jS 21 13 g5,jO 21 14 H0 g6,jS 21 15 g7]
end
noncomputable def WU:Code:=Try.f102.body.getD .skip
abbrev K8 (v0 v1 v2 v3 v4 v10 v11 v12:HV):Env:=[(0,v0),(1,v1),(2,v2),(3,v3),(4,v4),(10,v10),(11,v11),(12,v12)]
abbrev JD (db:Nat) (n:Nat) (cap:Option Nat) (a:Nat) (b:Nat) (p:Nat) (u6 u7:HV):Env:=K8 (.sl db 0 n cap n 3) (.n a) (.n b) (.n p) (.func 77 [] []) (.i 0) u6 u7
section
variable (N:Nat) (db n:Nat) (cap:Option Nat) (H:Heap) (x:Nat) (a:Nat) (b:Nat) (p:Nat)
include N db n cap H x a b p
theorem Qjo:RT polSo 102 (sn 2 WU) [(0,.sl db 0 n cap n 3),(1,.n a),(2,.n b),(3,.n p),(4,.func 77 [] [])] H .normal (JD db n cap a b p Ud Ud) H :=
 hx N 60 []
end
section
variable (N:Nat) (db n:Nat) (cap:Option Nat) (H:Heap) (x:Nat) (a:Nat) (b:Nat) (p:Nat)
include N db n cap H x a b p
theorem Qjp {y11 y12:HV} {a0:HV} {v0:HV} {a1:HV} {v1:HV} {a2:HV} {H0:Heap} {a3:HV} {H1:Heap} (g0:IX 88 (.sl db 0 n cap n 3) (.n p) (a0)) (g1:LD H 91 (a0) (v0)) (g2:IX 88 (.sl db 0 n cap n 3) (.n a) (a1)) (g3:LD H 91 (a1) (v1)) (g4:IX 88 (.sl db 0 n cap n 3) (.n a) (a2)) (g5:ST H 91 (a2) (v0) H0) (g6:IX 88 (.sl db 0 n cap n 3) (.n p) (a3)) (g7:ST H0 91 (a3) (v1) H1): RT polSo 102 (sn 6 WU) (JD db n cap a b p y11 y12) H .normal (JD db n cap a b p y11 y12) H1 :=
 hx N 60 [jO 1 6 H g0,jO 1 7 H g1,jO 1 10 H g2,jO 1 11 H g3,jO 1 12 H g4,jS 1 13 g5,jO 1 14 H0 g6,jS 1 15 g7]
theorem Qjq {y11 y12:HV}: RT polSo 102 (sn 14 WU) (JD db n cap a b p y11 y12) H .normal (JD db n cap a b p (.i (qA.wrap ((a:Int)+1))) (.i (qA.wrap ((b:Int)-1)))) H :=
 hx N 60 []
theorem Qjr (i:Nat) (j:Nat) {a0:HV} {v0:HV} {a1:HV} {v1:HV} {c0:Int} {H0:Heap} (g0:(i:Int)≤(j:Int)) (g1:IX 88 (.sl db 0 n cap n 3) (.n a) (a0)) (g2:LD H 91 (a0) (v0)) (g3:IX 88 (.sl db 0 n cap n 3) (.n i) (a1)) (g4:LD H 91 (a1) (v1)) (g5:∀kf,N≤kf→Qa Tp polSo (kf+1) 77 [v0,v1] H=some (.i c0,H0)) (g6:c0<0): RT polSo 102 (sn 1920 WU) (JD db n cap a b p (.n i) (.n j)) H (.exit 2) (JD db n cap a b p (.n i) (.n j)) H0 :=
 hx N 60 [jT 3 2 H g0,jO 3 7 H g1,jO 3 8 H g2,jO 3 11 H g3,jO 3 12 H g4,jC 3 13 g5,jT 3 14 H0 g6]
theorem Qjs (i:Nat) (j:Nat) {a0:HV} {v0:HV} {a1:HV} {v1:HV} {c0:Int} {H0:Heap} (g0:(i:Int)≤(j:Int)) (g1:IX 88 (.sl db 0 n cap n 3) (.n a) (a0)) (g2:LD H 91 (a0) (v0)) (g3:IX 88 (.sl db 0 n cap n 3) (.n i) (a1)) (g4:LD H 91 (a1) (v1)) (g5:∀kf,N≤kf→Qa Tp polSo (kf+1) 77 [v0,v1] H=some (.i c0,H0)) (g6:¬(c0<0)): RT polSo 102 (sn 1920 WU) (JD db n cap a b p (.n i) (.n j)) H .normal (JD db n cap a b p (.i (qA.wrap ((i:Int)+1))) (.n j)) H0 :=
 hx N 60 [jT 3 2 H g0,jO 3 7 H g1,jO 3 8 H g2,jO 3 11 H g3,jO 3 12 H g4,jC 3 13 g5,jF 3 14 H0 g6]
theorem Qc1 (i:Nat) (j:Nat) (g0:¬((i:Int)≤(j:Int))): RT polSo 102 (sn 1920 WU) (JD db n cap a b p (.n i) (.n j)) H (.exit 2) (JD db n cap a b p (.n i) (.n j)) H :=
 hx N 60 [jF 3 2 H g0]
theorem Qjt (i:Nat) (j:Nat) {a0:HV} {v0:HV} {a1:HV} {v1:HV} {c0:Int} {H0:Heap} (g0:(i:Int)≤(j:Int)) (g1:IX 88 (.sl db 0 n cap n 3) (.n a) (a0)) (g2:LD H 91 (a0) (v0)) (g3:IX 88 (.sl db 0 n cap n 3) (.n j) (a1)) (g4:LD H 91 (a1) (v1)) (g5:∀kf,N≤kf→Qa Tp polSo (kf+1) 77 [v0,v1] H=some (.i c0,H0)) (g6:c0<0): RT polSo 102 (sn 3848 WU) (JD db n cap a b p (.n i) (.n j)) H .normal (JD db n cap a b p (.n i) (.i (qA.wrap ((j:Int)-1)))) H0 :=
 hx N 60 [jT 5 2 H g0,jO 5 7 H g1,jO 5 8 H g2,jO 5 11 H g3,jO 5 12 H g4,jC 5 13 g5,jT 5 14 H0 g6]
theorem Qju (i:Nat) (j:Nat) {a0:HV} {v0:HV} {a1:HV} {v1:HV} {c0:Int} {H0:Heap} (g0:(i:Int)≤(j:Int)) (g1:IX 88 (.sl db 0 n cap n 3) (.n a) (a0)) (g2:LD H 91 (a0) (v0)) (g3:IX 88 (.sl db 0 n cap n 3) (.n j) (a1)) (g4:LD H 91 (a1) (v1)) (g5:∀kf,N≤kf→Qa Tp polSo (kf+1) 77 [v0,v1] H=some (.i c0,H0)) (g6:¬(c0<0)): RT polSo 102 (sn 3848 WU) (JD db n cap a b p (.n i) (.n j)) H (.exit 4) (JD db n cap a b p (.n i) (.n j)) H0 :=
 hx N 60 [jT 5 2 H g0,jO 5 7 H g1,jO 5 8 H g2,jO 5 11 H g3,jO 5 12 H g4,jC 5 13 g5,jF 5 14 H0 g6]
theorem Qc2 (i:Nat) (j:Nat) (g0:¬((i:Int)≤(j:Int))): RT polSo 102 (sn 3848 WU) (JD db n cap a b p (.n i) (.n j)) H (.exit 4) (JD db n cap a b p (.n i) (.n j)) H :=
 hx N 60 [jF 5 2 H g0]
theorem Qc3 (i:Nat) (j:Nat) (g0:(j:Int)<(i:Int)): RT polSo 102 (sn 963 WU) (JD db n cap a b p (.n i) (.n j)) H (.exit 0) (JD db n cap a b p (.n i) (.n j)) H :=
 hx N 60 [jT 7 2 H g0]
theorem Qjv (i:Nat) (j:Nat) {a0:HV} {v0:HV} {a1:HV} {v1:HV} {a2:HV} {H0:Heap} {a3:HV} {H1:Heap} (g0:¬((j:Int)<(i:Int))) (g1:IX 88 (.sl db 0 n cap n 3) (.n j) (a0)) (g2:LD H 91 (a0) (v0)) (g3:IX 88 (.sl db 0 n cap n 3) (.n i) (a1)) (g4:LD H 91 (a1) (v1)) (g5:IX 88 (.sl db 0 n cap n 3) (.n i) (a2)) (g6:ST H 91 (a2) (v0) H0) (g7:IX 88 (.sl db 0 n cap n 3) (.n j) (a3)) (g8:ST H0 91 (a3) (v1) H1): RT polSo 102 (sn 963 WU) (JD db n cap a b p (.n i) (.n j)) H .normal (JD db n cap a b p (.i (qA.wrap ((i:Int)+1))) (.i (qA.wrap ((j:Int)-1)))) H1 :=
 hx N 60 [jF 7 2 H g0,jO 8 6 H g1,jO 8 7 H g2,jO 8 10 H g3,jO 8 11 H g4,jO 8 12 H g5,jS 8 13 g6,jO 8 14 H0 g7,jS 8 15 g8]
theorem Qjw (i:Nat) (j:Nat): RT polSo 102 (sn 31 WU) (JD db n cap a b p (.n i) (.n j)) H .ret (K8 (.sl db 0 n cap n 3) (.n a) (.n b) (.n p) (.func 77 [] []) (.n i) (.n i) (.n j)) H :=
 hx N 60 []
end
noncomputable def QA:Code:=Try.f101.body.getD .skip
abbrev Zc (v0 v1 v2 v3 v8 v9 v10 v11 v12:HV):Env:=[(0,v0),(1,v1),(2,v2),(3,v3),(8,v8),(9,v9),(10,v10),(11,v11),(12,v12)]
abbrev Wi (db:Nat) (n:Nat) (cap:Option Nat) (a:Nat) (b:Nat) (u5 u6 u7 u8:HV):Env:=Zc (.sl db 0 n cap n 3) (.n a) (.n b) (.func 77 [] []) (.bool false) u5 u6 u7 u8
section
variable (N:Nat) (db n:Nat) (cap:Option Nat) (H:Heap) (x:Nat) (a:Nat) (b:Nat)
include N db n cap H x a b
theorem Qjx:RT polSo 101 (sn 2 QA) [(0,.sl db 0 n cap n 3),(1,.n a),(2,.n b),(3,.func 77 [] [])] H .normal (Wi db n cap a b Ud Ud Ud Ud) H :=
 hx N 60 []
end
section
variable (N:Nat) (db n:Nat) (cap:Option Nat) (H:Heap) (x:Nat) (a:Nat) (b:Nat)
include N db n cap H x a b
theorem Qjy {y9 y10 y11 y12:HV}: RT polSo 101 (sn 6 QA) (Wi db n cap a b y9 y10 y11 y12) H .normal (Wi db n cap a b (.i (qA.wrap ((a:Int)+1))) y10 y11 y12) H :=
 hx N 60 []
theorem Qjz (i:Nat) {y10 y11 y12:HV}: RT polSo 101 (sn 28 QA) (Wi db n cap a b (.n i) y10 y11 y12) H .normal (Wi db n cap a b (.n i) (.i 0) y11 y12) H :=
 hx N 60 []
theorem QjA (i:Nat) (k:Nat) {y11 y12:HV} (g0:(k:Int)<5): RT polSo 101 (sn 232 QA) (Wi db n cap a b (.n i) (.n k) y11 y12) H .normal (Wi db n cap a b (.n i) (.n k) y11 y12) H :=
 hx N 60 [jT 3 1 H g0]
theorem QjB (i:Nat) (k:Nat) {y11 y12:HV} (g0:¬((k:Int)<5)): RT polSo 101 (sn 232 QA) (Wi db n cap a b (.n i) (.n k) y11 y12) H (.exit 0) (Wi db n cap a b (.n i) (.n k) y11 y12) H :=
 hx N 60 [jF 3 1 H g0]
theorem QjC (i:Nat) (k:Nat) {y11 y12:HV} {a0:HV} {v0:HV} {a1:HV} {v1:HV} {c0:Int} {H0:Heap} (g0:(i:Int)<(b:Int)) (g1:IX 88 (.sl db 0 n cap n 3) (.n i) (a0)) (g2:LD H 91 (a0) (v0)) (g3:IX 88 (.sl db 0 n cap n 3) (.i (qA.wrap ((i:Int)-1))) (a1)) (g4:LD H 91 (a1) (v1)) (g5:∀kf,N≤kf→Qa Tp polSo (kf+1) 77 [v0,v1] H=some (.i c0,H0)) (g6:c0<0): RT polSo 101 (sn 7456 QA) (Wi db n cap a b (.n i) (.n k) y11 y12) H (.exit 2) (Wi db n cap a b (.n i) (.n k) y11 y12) H0 :=
 hx N 60 [jT 5 2 H g0,jO 5 7 H g1,jO 5 8 H g2,jO 5 12 H g3,jO 5 13 H g4,jC 5 14 g5,jT 5 15 H0 g6]
theorem QjD (i:Nat) (k:Nat) {y11 y12:HV} {a0:HV} {v0:HV} {a1:HV} {v1:HV} {c0:Int} {H0:Heap} (g0:(i:Int)<(b:Int)) (g1:IX 88 (.sl db 0 n cap n 3) (.n i) (a0)) (g2:LD H 91 (a0) (v0)) (g3:IX 88 (.sl db 0 n cap n 3) (.i (qA.wrap ((i:Int)-1))) (a1)) (g4:LD H 91 (a1) (v1)) (g5:∀kf,N≤kf→Qa Tp polSo (kf+1) 77 [v0,v1] H=some (.i c0,H0)) (g6:¬(c0<0)): RT polSo 101 (sn 7456 QA) (Wi db n cap a b (.n i) (.n k) y11 y12) H .normal (Wi db n cap a b (.i (qA.wrap ((i:Int)+1))) (.n k) y11 y12) H0 :=
 hx N 60 [jT 5 2 H g0,jO 5 7 H g1,jO 5 8 H g2,jO 5 12 H g3,jO 5 13 H g4,jC 5 14 g5,jF 5 15 H0 g6]
theorem Qc4 (i:Nat) (k:Nat) {y11 y12:HV} (g0:¬((i:Int)<(b:Int))): RT polSo 101 (sn 7456 QA) (Wi db n cap a b (.n i) (.n k) y11 y12) H (.exit 2) (Wi db n cap a b (.n i) (.n k) y11 y12) H :=
 hx N 60 [jF 5 2 H g0]
theorem QjE (i:Nat) (k:Nat) {y11 y12:HV} (g0:(i:Int)=(b:Int)): RT polSo 101 (sn 3730 QA) (Wi db n cap a b (.n i) (.n k) y11 y12) H .ret (Zc (.sl db 0 n cap n 3) (.n a) (.n b) (.func 77 [] []) (.bool true) (.n i) (.n k) y11 y12) H :=
 hx N 60 [jT 7 2 H g0]
theorem QjF (i:Nat) (k:Nat) {y11 y12:HV} (g0:¬((i:Int)=(b:Int))): RT polSo 101 (sn 3730 QA) (Wi db n cap a b (.n i) (.n k) y11 y12) H .normal (Wi db n cap a b (.n i) (.n k) y11 y12) H :=
 hx N 60 [jF 7 2 H g0]
theorem QjG (i:Nat) (k:Nat) {y11 y12:HV} (g0:qA.wrap ((b:Int)-(a:Int))<50): RT polSo 101 (sn 7462 QA) (Wi db n cap a b (.n i) (.n k) y11 y12) H .ret (Wi db n cap a b (.n i) (.n k) y11 y12) H :=
 hx N 60 [jT 9 3 H g0]
theorem QjH (i:Nat) (k:Nat) {y11 y12:HV} (g0:¬(qA.wrap ((b:Int)-(a:Int))<50)): RT polSo 101 (sn 7462 QA) (Wi db n cap a b (.n i) (.n k) y11 y12) H .normal (Wi db n cap a b (.n i) (.n k) y11 y12) H :=
 hx N 60 [jF 9 3 H g0]
theorem QjI (i:Nat) (k:Nat) {y11 y12:HV} {a0:HV} {v0:HV} {a1:HV} {v1:HV} {a2:HV} {H0:Heap} {a3:HV} {H1:Heap} (g0:IX 88 (.sl db 0 n cap n 3) (.i (qA.wrap ((i:Int)-1))) (a0)) (g1:LD H 91 (a0) (v0)) (g2:IX 88 (.sl db 0 n cap n 3) (.n i) (a1)) (g3:LD H 91 (a1) (v1)) (g4:IX 88 (.sl db 0 n cap n 3) (.n i) (a2)) (g5:ST H 91 (a2) (v0) H0) (g6:IX 88 (.sl db 0 n cap n 3) (.i (qA.wrap ((i:Int)-1))) (a3)) (g7:ST H0 91 (a3) (v1) H1): RT polSo 101 (sn 14926 QA) (Wi db n cap a b (.n i) (.n k) y11 y12) H .normal (Wi db n cap a b (.n i) (.n k) y11 y12) H1 :=
 hx N 60 [jO 11 8 H g0,jO 11 9 H g1,jO 11 12 H g2,jO 11 13 H g3,jO 11 14 H g4,jS 11 15 g5,jO 11 16 H0 g6,jS 11 17 g7]
theorem QjJ (i:Nat) (k:Nat) {y11 y12:HV} (g0:2≤qA.wrap ((i:Int)-(a:Int))): RunsTo Tp polSo 101 (sn 59708 QA) (Wi db n cap a b (.n i) (.n k) y11 y12) H .normal [0,1,2,3,8,9,10,11,12,65] [(0,.sl db 0 n cap n 3),(1,.n a),(2,.n b),(3,.func 77 [] []),(8,.bool false),(9,.n i),(10,.n k),(11,y11),(12,y12),(65,.bool true)] H :=
 hx N 60 [jT 12 3 H g0]
theorem QjK (i:Nat) (k:Nat) {y11 y12:HV} (g0:¬(2≤qA.wrap ((i:Int)-(a:Int)))): RunsTo Tp polSo 101 (sn 59708 QA) (Wi db n cap a b (.n i) (.n k) y11 y12) H .normal [0,1,2,3,8,9,10,11,12,65] [(0,.sl db 0 n cap n 3),(1,.n a),(2,.n b),(3,.func 77 [] []),(8,.bool false),(9,.n i),(10,.n k),(11,y11),(12,y12),(65,.bool false)] H :=
 hx N 60 [jF 12 3 H g0]
theorem QjL (i:Nat) (k:Nat) {y11 y12:HV}: RT polSo 101 (sn 238836 QA) (Wi db n cap a b (.n i) (.n k) y11 y12) H .normal (Wi db n cap a b (.n i) (.n k) (.i (qA.wrap ((i:Int)-1))) y12) H :=
 hx N 60 []
theorem QjM (i:Nat) (k:Nat) (j:Nat) {y12:HV} {a0:HV} {v0:HV} {a1:HV} {v1:HV} {c0:Int} {H0:Heap} {a2:HV} {v2:HV} {a3:HV} {v3:HV} {a4:HV} {H1:Heap} {a5:HV} {H2:Heap} (g0:1≤(j:Int)) (g1:IX 88 (.sl db 0 n cap n 3) (.n j) (a0)) (g2:LD H 91 (a0) (v0)) (g3:IX 88 (.sl db 0 n cap n 3) (.i (qA.wrap ((j:Int)-1))) (a1)) (g4:LD H 91 (a1) (v1)) (g5:∀kf,N≤kf→Qa Tp polSo (kf+1) 77 [v0,v1] H=some (.i c0,H0)) (g6:c0<0) (g7:IX 88 (.sl db 0 n cap n 3) (.i (qA.wrap ((j:Int)-1))) (a2)) (g8:LD H0 91 (a2) (v2)) (g9:IX 88 (.sl db 0 n cap n 3) (.n j) (a3)) (g10:LD H0 91 (a3) (v3)) (g11:IX 88 (.sl db 0 n cap n 3) (.n j) (a4)) (g12:ST H0 91 (a4) (v2) H1) (g13:IX 88 (.sl db 0 n cap n 3) (.i (qA.wrap ((j:Int)-1))) (a5)) (g14:ST H1 91 (a5) (v3) H2): RT polSo 101 (sn 955348 QA) (Wi db n cap a b (.n i) (.n k) (.n j) y12) H .normal (Wi db n cap a b (.n i) (.n k) (.i (qA.wrap ((j:Int)-1))) y12) H2 :=
 hx N 60 [jT 14 1 H g0,jO 16 3 H g1,jO 16 4 H g2,jO 16 8 H g3,jO 16 9 H g4,jC 16 10 g5,jT 16 11 H0 g6,jO 17 8 H0 g7,jO 17 9 H0 g8,jO 17 12 H0 g9,jO 17 13 H0 g10,jO 17 14 H0 g11,jS 17 15 g12,jO 17 16 H1 g13,jS 17 17 g14]
theorem QjN (i:Nat) (k:Nat) (j:Nat) {y12:HV} {a0:HV} {v0:HV} {a1:HV} {v1:HV} {c0:Int} {H0:Heap} (g0:1≤(j:Int)) (g1:IX 88 (.sl db 0 n cap n 3) (.n j) (a0)) (g2:LD H 91 (a0) (v0)) (g3:IX 88 (.sl db 0 n cap n 3) (.i (qA.wrap ((j:Int)-1))) (a1)) (g4:LD H 91 (a1) (v1)) (g5:∀kf,N≤kf→Qa Tp polSo (kf+1) 77 [v0,v1] H=some (.i c0,H0)) (g6:¬(c0<0)): RT polSo 101 (sn 955348 QA) (Wi db n cap a b (.n i) (.n k) (.n j) y12) H (.exit 4) (Wi db n cap a b (.n i) (.n k) (.n j) y12) H0 :=
 hx N 60 [jT 14 1 H g0,jO 16 3 H g1,jO 16 4 H g2,jO 16 8 H g3,jO 16 9 H g4,jC 16 10 g5,jF 16 11 H0 g6]
theorem QjO (i:Nat) (k:Nat) (j:Nat) {y12:HV} (g0:¬(1≤(j:Int))): RT polSo 101 (sn 955348 QA) (Wi db n cap a b (.n i) (.n k) (.n j) y12) H (.exit 4) (Wi db n cap a b (.n i) (.n k) (.n j) y12) H :=
 hx N 60 [jF 14 1 H g0]
theorem QjP (i:Nat) (k:Nat) {y11 y12:HV} (g0:2≤qA.wrap ((b:Int)-(i:Int))): RunsTo Tp polSo 101 (sn 59710 QA) (Wi db n cap a b (.n i) (.n k) y11 y12) H .normal [0,1,2,3,8,9,10,11,12,104] [(0,.sl db 0 n cap n 3),(1,.n a),(2,.n b),(3,.func 77 [] []),(8,.bool false),(9,.n i),(10,.n k),(11,y11),(12,y12),(104,.bool true)] H :=
 hx N 60 [jT 18 3 H g0]
theorem QjQ (i:Nat) (k:Nat) {y11 y12:HV} (g0:¬(2≤qA.wrap ((b:Int)-(i:Int)))): RunsTo Tp polSo 101 (sn 59710 QA) (Wi db n cap a b (.n i) (.n k) y11 y12) H .normal [0,1,2,3,8,9,10,11,12,104] [(0,.sl db 0 n cap n 3),(1,.n a),(2,.n b),(3,.func 77 [] []),(8,.bool false),(9,.n i),(10,.n k),(11,y11),(12,y12),(104,.bool false)] H :=
 hx N 60 [jF 18 3 H g0]
theorem QjR (i:Nat) (k:Nat) {y11 y12:HV}: RT polSo 101 (sn 238844 QA) (Wi db n cap a b (.n i) (.n k) y11 y12) H .normal (Wi db n cap a b (.n i) (.n k) y11 (.i (qA.wrap ((i:Int)+1)))) H :=
 hx N 60 []
theorem QjS (i:Nat) (k:Nat) (w:Nat) {y11:HV} {a0:HV} {v0:HV} {a1:HV} {v1:HV} {c0:Int} {H0:Heap} {a2:HV} {v2:HV} {a3:HV} {v3:HV} {a4:HV} {H1:Heap} {a5:HV} {H2:Heap} (g0:(w:Int)<(b:Int)) (g1:IX 88 (.sl db 0 n cap n 3) (.n w) (a0)) (g2:LD H 91 (a0) (v0)) (g3:IX 88 (.sl db 0 n cap n 3) (.i (qA.wrap ((w:Int)-1))) (a1)) (g4:LD H 91 (a1) (v1)) (g5:∀kf,N≤kf→Qa Tp polSo (kf+1) 77 [v0,v1] H=some (.i c0,H0)) (g6:c0<0) (g7:IX 88 (.sl db 0 n cap n 3) (.i (qA.wrap ((w:Int)-1))) (a2)) (g8:LD H0 91 (a2) (v2)) (g9:IX 88 (.sl db 0 n cap n 3) (.n w) (a3)) (g10:LD H0 91 (a3) (v3)) (g11:IX 88 (.sl db 0 n cap n 3) (.n w) (a4)) (g12:ST H0 91 (a4) (v2) H1) (g13:IX 88 (.sl db 0 n cap n 3) (.i (qA.wrap ((w:Int)-1))) (a5)) (g14:ST H1 91 (a5) (v3) H2): RT polSo 101 (sn 955380 QA) (Wi db n cap a b (.n i) (.n k) y11 (.n w)) H .normal (Wi db n cap a b (.n i) (.n k) y11 (.i (qA.wrap ((w:Int)+1)))) H2 :=
 hx N 60 [jT 20 2 H g0,jO 22 3 H g1,jO 22 4 H g2,jO 22 8 H g3,jO 22 9 H g4,jC 22 10 g5,jT 22 11 H0 g6,jO 23 8 H0 g7,jO 23 9 H0 g8,jO 23 12 H0 g9,jO 23 13 H0 g10,jO 23 14 H0 g11,jS 23 15 g12,jO 23 16 H1 g13,jS 23 17 g14]
theorem QjT (i:Nat) (k:Nat) (w:Nat) {y11:HV} {a0:HV} {v0:HV} {a1:HV} {v1:HV} {c0:Int} {H0:Heap} (g0:(w:Int)<(b:Int)) (g1:IX 88 (.sl db 0 n cap n 3) (.n w) (a0)) (g2:LD H 91 (a0) (v0)) (g3:IX 88 (.sl db 0 n cap n 3) (.i (qA.wrap ((w:Int)-1))) (a1)) (g4:LD H 91 (a1) (v1)) (g5:∀kf,N≤kf→Qa Tp polSo (kf+1) 77 [v0,v1] H=some (.i c0,H0)) (g6:¬(c0<0)): RT polSo 101 (sn 955380 QA) (Wi db n cap a b (.n i) (.n k) y11 (.n w)) H (.exit 6) (Wi db n cap a b (.n i) (.n k) y11 (.n w)) H0 :=
 hx N 60 [jT 20 2 H g0,jO 22 3 H g1,jO 22 4 H g2,jO 22 8 H g3,jO 22 9 H g4,jC 22 10 g5,jF 22 11 H0 g6]
theorem Qc5 (i:Nat) (k:Nat) (w:Nat) {y11:HV} (g0:¬((w:Int)<(b:Int))): RT polSo 101 (sn 955380 QA) (Wi db n cap a b (.n i) (.n k) y11 (.n w)) H (.exit 6) (Wi db n cap a b (.n i) (.n k) y11 (.n w)) H :=
 hx N 60 [jF 20 2 H g0]
theorem QjU (i:Nat) (k:Nat) {y11 y12:HV}: RT polSo 101 (sn 467 QA) (Wi db n cap a b (.n i) (.n k) y11 y12) H .normal (Wi db n cap a b (.n i) (.i (qA.wrap ((k:Int)+1))) y11 y12) H :=
 hx N 60 []
theorem QjV (i:Nat) (k:Nat) {y11 y12:HV}: RT polSo 101 (sn 15 QA) (Wi db n cap a b (.n i) (.n k) y11 y12) H .ret (Wi db n cap a b (.n i) (.n k) y11 y12) H :=
 hx N 60 []
end
end Go.Proofs.Ytlendaofkmhgmaa
end
section
open Go Go.HL Go.HL.So
namespace Go.Proofs.Ytlendaofkmhgmaa
set_option linter.unusedSectionVars false
open Go.Proofs.Try renaming prog → Tp
open Go.HL.HV renaming undef → Ud
section
variable {α:Type} [Inhabited α] {enc:α→HV} {lt:α→α→Prop} {dom:α→Prop} {H:Heap} {db n:Nat} {cap:Option Nat}
theorem pt1 (S:So enc lt dom H db n) {T:Heap} (hT:mxs T=0) {a b p j:Nat} {l:List α} (hl:l.length=n) (hD:Dm dom l):∀(d i:Nat),j+1-i≤d→a<i→i≤j+1→j<n →
  ∃i':Nat,RT polSo 103 (sn 60 QO) (Z1 (.sl db 0 n cap n 3) (.i (a:Int)) (.i (b:Int)) (.i (p:Int)) (.func 77 [] []) (.i 0) (.bool false) (.i (i:Int)) (.i (j:Int))) (Mm enc H db l T) (.exit 0) (Z1 (.sl db 0 n cap n 3) (.i (a:Int)) (.i (b:Int)) (.i (p:Int)) (.func 77 [] []) (.i 0) (.bool false) (.i (i':Int)) (.i (j:Int))) (Mm enc H db l T)∧i≤i'∧i'≤j+1∧(∀k:Nat,i≤k→k<i'→lt (at_ l k) (at_ l a))∧(j<i'∨¬lt (at_ l i') (at_ l a)):=by
 have hn:=S.nb
 intro d
 induction d with
 | zero =>
  intro i hd hi1 hi2 hj
  exact ⟨i,lpo (QcW 0 db n cap (Mm enc H db l T) 0 a b p i j (by omega)),qB _,by omega,fun k h1 h2=>by omega,.inl (by omega)⟩
 | succ d ih =>
  intro i hd hi1 hi2 hj
  by_cases c0:i≤j
  ·by_cases c:lt (at_ l i) (at_ l a)
   ·obtain ⟨cc,N,hN,hc⟩:=S.ct (T:=T) hl hT (hD.at (i:=i) (by omega)) (hD.at (i:=a) (by omega)) c
    have st:=Qi9 N db n cap (Mm enc H db l T) 0 a b p i j (by omega) (ixs (i:=i) rfl (by omega)) (S.ld l T i hl (by omega)) (ixs (i:=a) rfl (by omega)) (S.ld l T a hl (by omega)) hN hc
    rw [Qc (by omega)] at st
    obtain ⟨i',r,q1,q2,q3,q4⟩:=ih (i+1) (by omega) (by omega) (by omega) hj
    exact ⟨i',lop (st) (gcM _ _ _ _ _ rfl) (r),by omega,q2,fun k h1 h2=>by
     by_cases e:k=i
     ·subst e;exact c
     ·exact q3 k (by omega) h2,q4⟩
   ·have c':¬lt (at_ l i) (at_ l a):=c
    obtain ⟨cc,N,hN,hc⟩:=S.cf (T:=T) hl hT (hD.at (i:=i) (by omega)) (hD.at (i:=a) (by omega)) c'
    have st:=Qja N db n cap (Mm enc H db l T) 0 a b p i j (by omega) (ixs (i:=i) rfl (by omega)) (S.ld l T i hl (by omega)) (ixs (i:=a) rfl (by omega)) (S.ld l T a hl (by omega)) hN hc
    exact ⟨i,lpo (st),qB _,by omega,fun k h1 h2=>by omega,Or.inr c'⟩
  ·exact ⟨i,lpo (QcW 0 db n cap (Mm enc H db l T) 0 a b p i j (by omega)),qB _,by omega,fun k h1 h2=>by omega,.inl (by omega)⟩
theorem pt2 (S:So enc lt dom H db n) {T:Heap} (hT:mxs T=0) {a b p i:Nat} {l:List α} (hl:l.length=n) (hD:Dm dom l):∀(d j:Nat),j+1-i≤d→a<i→i≤j+1→j<n →
  ∃j':Nat,RT polSo 103 (sn 124 QO) (Z1 (.sl db 0 n cap n 3) (.i (a:Int)) (.i (b:Int)) (.i (p:Int)) (.func 77 [] []) (.i 0) (.bool false) (.i (i:Int)) (.i (j:Int))) (Mm enc H db l T) (.exit 2) (Z1 (.sl db 0 n cap n 3) (.i (a:Int)) (.i (b:Int)) (.i (p:Int)) (.func 77 [] []) (.i 0) (.bool false) (.i (i:Int)) (.i (j':Int))) (Mm enc H db l T)∧j'≤j∧i≤j'+1∧(∀k:Nat,j'<k→k≤j→¬lt (at_ l k) (at_ l a))∧(j'<i∨lt (at_ l j') (at_ l a)):=by
 have hn:=S.nb
 intro d
 induction d with
 | zero =>
  intro j hd hi1 hi2 hj
  exact ⟨j,lpo (QcX 0 db n cap (Mm enc H db l T) 0 a b p i j (by omega)),qB _,by omega,fun k h1 h2=>by omega,.inl (by omega)⟩
 | succ d ih =>
  intro j hd hi1 hi2 hj
  by_cases c0:i≤j
  ·by_cases c:¬lt (at_ l j) (at_ l a)
   ·obtain ⟨cc,N,hN,hc⟩:=S.cf (T:=T) hl hT (hD.at (i:=j) (by omega)) (hD.at (i:=a) (by omega)) c
    have st:=Qjc N db n cap (Mm enc H db l T) 0 a b p i j (by omega) (ixs (i:=j) rfl (by omega)) (S.ld l T j hl (by omega)) (ixs (i:=a) rfl (by omega)) (S.ld l T a hl (by omega)) hN hc
    rw [QJ (by omega) (by omega)] at st
    obtain ⟨j',r,q1,q2,q3,q4⟩:=ih (j-1) (by omega) hi1 (by omega) (by omega)
    exact ⟨j',lop (st) (gcM _ _ _ _ _ rfl) (r),by omega,q2,fun k h1 h2=>by
     by_cases e:k=j
     ·subst e;exact c
     ·exact q3 k h1 (by omega),q4⟩
   ·have c':lt (at_ l j) (at_ l a):=Classical.not_not.1 c
    obtain ⟨cc,N,hN,hc⟩:=S.ct (T:=T) hl hT (hD.at (i:=j) (by omega)) (hD.at (i:=a) (by omega)) c'
    have st:=Qjb N db n cap (Mm enc H db l T) 0 a b p i j (by omega) (ixs (i:=j) rfl (by omega)) (S.ld l T j hl (by omega)) (ixs (i:=a) rfl (by omega)) (S.ld l T a hl (by omega)) hN hc
    exact ⟨j,lpo (st),qB _,by omega,fun k h1 h2=>by omega,Or.inr c'⟩
  ·exact ⟨j,lpo (QcX 0 db n cap (Mm enc H db l T) 0 a b p i j (by omega)),qB _,by omega,fun k h1 h2=>by omega,.inl (by omega)⟩
theorem pt3 (S:So enc lt dom H db n) {T:Heap} (hT:mxs T=0) {a b p j:Nat} {l:List α} (hl:l.length=n) (hD:Dm dom l):∀(d i:Nat),j+1-i≤d→a<i→i≤j+1→j<n →
  ∃i':Nat,RT polSo 103 (sn 65472 QO) (Z1 (.sl db 0 n cap n 3) (.i (a:Int)) (.i (b:Int)) (.i (p:Int)) (.func 77 [] []) (.i 0) (.bool false) (.i (i:Int)) (.i (j:Int))) (Mm enc H db l T) (.exit 6) (Z1 (.sl db 0 n cap n 3) (.i (a:Int)) (.i (b:Int)) (.i (p:Int)) (.func 77 [] []) (.i 0) (.bool false) (.i (i':Int)) (.i (j:Int))) (Mm enc H db l T)∧i≤i'∧i'≤j+1∧(∀k:Nat,i≤k→k<i'→lt (at_ l k) (at_ l a))∧(j<i'∨¬lt (at_ l i') (at_ l a)):=by
 have hn:=S.nb
 intro d
 induction d with
 | zero =>
  intro i hd hi1 hi2 hj
  exact ⟨i,lpo (QcY 0 db n cap (Mm enc H db l T) 0 a b p i j (by omega)),qB _,by omega,fun k h1 h2=>by omega,.inl (by omega)⟩
 | succ d ih =>
  intro i hd hi1 hi2 hj
  by_cases c0:i≤j
  ·by_cases c:lt (at_ l i) (at_ l a)
   ·obtain ⟨cc,N,hN,hc⟩:=S.ct (T:=T) hl hT (hD.at (i:=i) (by omega)) (hD.at (i:=a) (by omega)) c
    have st:=Qji N db n cap (Mm enc H db l T) 0 a b p i j (by omega) (ixs (i:=i) rfl (by omega)) (S.ld l T i hl (by omega)) (ixs (i:=a) rfl (by omega)) (S.ld l T a hl (by omega)) hN hc
    rw [Qc (by omega)] at st
    obtain ⟨i',r,q1,q2,q3,q4⟩:=ih (i+1) (by omega) (by omega) (by omega) hj
    exact ⟨i',lop (st) (gcM _ _ _ _ _ rfl) (r),by omega,q2,fun k h1 h2=>by
     by_cases e:k=i
     ·subst e;exact c
     ·exact q3 k (by omega) h2,q4⟩
   ·have c':¬lt (at_ l i) (at_ l a):=c
    obtain ⟨cc,N,hN,hc⟩:=S.cf (T:=T) hl hT (hD.at (i:=i) (by omega)) (hD.at (i:=a) (by omega)) c'
    have st:=Qjj N db n cap (Mm enc H db l T) 0 a b p i j (by omega) (ixs (i:=i) rfl (by omega)) (S.ld l T i hl (by omega)) (ixs (i:=a) rfl (by omega)) (S.ld l T a hl (by omega)) hN hc
    exact ⟨i,lpo (st),qB _,by omega,fun k h1 h2=>by omega,Or.inr c'⟩
  ·exact ⟨i,lpo (QcY 0 db n cap (Mm enc H db l T) 0 a b p i j (by omega)),qB _,by omega,fun k h1 h2=>by omega,.inl (by omega)⟩
theorem pt4 (S:So enc lt dom H db n) {T:Heap} (hT:mxs T=0) {a b p i:Nat} {l:List α} (hl:l.length=n) (hD:Dm dom l):∀(d j:Nat),j+1-i≤d→a<i→i≤j+1→j<n →
  ∃j':Nat,RT polSo 103 (sn 130948 QO) (Z1 (.sl db 0 n cap n 3) (.i (a:Int)) (.i (b:Int)) (.i (p:Int)) (.func 77 [] []) (.i 0) (.bool false) (.i (i:Int)) (.i (j:Int))) (Mm enc H db l T) (.exit 8) (Z1 (.sl db 0 n cap n 3) (.i (a:Int)) (.i (b:Int)) (.i (p:Int)) (.func 77 [] []) (.i 0) (.bool false) (.i (i:Int)) (.i (j':Int))) (Mm enc H db l T)∧j'≤j∧i≤j'+1∧(∀k:Nat,j'<k→k≤j→¬lt (at_ l k) (at_ l a))∧(j'<i∨lt (at_ l j') (at_ l a)):=by
 have hn:=S.nb
 intro d
 induction d with
 | zero =>
  intro j hd hi1 hi2 hj
  exact ⟨j,lpo (QcZ 0 db n cap (Mm enc H db l T) 0 a b p i j (by omega)),qB _,by omega,fun k h1 h2=>by omega,.inl (by omega)⟩
 | succ d ih =>
  intro j hd hi1 hi2 hj
  by_cases c0:i≤j
  ·by_cases c:¬lt (at_ l j) (at_ l a)
   ·obtain ⟨cc,N,hN,hc⟩:=S.cf (T:=T) hl hT (hD.at (i:=j) (by omega)) (hD.at (i:=a) (by omega)) c
    have st:=Qjl N db n cap (Mm enc H db l T) 0 a b p i j (by omega) (ixs (i:=j) rfl (by omega)) (S.ld l T j hl (by omega)) (ixs (i:=a) rfl (by omega)) (S.ld l T a hl (by omega)) hN hc
    rw [QJ (by omega) (by omega)] at st
    obtain ⟨j',r,q1,q2,q3,q4⟩:=ih (j-1) (by omega) hi1 (by omega) (by omega)
    exact ⟨j',lop (st) (gcM _ _ _ _ _ rfl) (r),by omega,q2,fun k h1 h2=>by
     by_cases e:k=j
     ·subst e;exact c
     ·exact q3 k h1 (by omega),q4⟩
   ·have c':lt (at_ l j) (at_ l a):=Classical.not_not.1 c
    obtain ⟨cc,N,hN,hc⟩:=S.ct (T:=T) hl hT (hD.at (i:=j) (by omega)) (hD.at (i:=a) (by omega)) c'
    have st:=Qjk N db n cap (Mm enc H db l T) 0 a b p i j (by omega) (ixs (i:=j) rfl (by omega)) (S.ld l T j hl (by omega)) (ixs (i:=a) rfl (by omega)) (S.ld l T a hl (by omega)) hN hc
    exact ⟨j,lpo (st),qB _,by omega,fun k h1 h2=>by omega,Or.inr c'⟩
  ·exact ⟨j,lpo (QcZ 0 db n cap (Mm enc H db l T) 0 a b p i j (by omega)),qB _,by omega,fun k h1 h2=>by omega,.inl (by omega)⟩
theorem pe1 (S:So enc lt dom H db n) {T:Heap} (hT:mxs T=0) {a b p j:Nat} {l:List α} (hl:l.length=n) (hD:Dm dom l):∀(d i:Nat),j+1-i≤d→a<i→i≤j+1→j<n →
  ∃i':Nat,RT polSo 102 (sn 960 WU) (K8 (.sl db 0 n cap n 3) (.i (a:Int)) (.i (b:Int)) (.i (p:Int)) (.func 77 [] []) (.i 0) (.i (i:Int)) (.i (j:Int))) (Mm enc H db l T) (.exit 2) (K8 (.sl db 0 n cap n 3) (.i (a:Int)) (.i (b:Int)) (.i (p:Int)) (.func 77 [] []) (.i 0) (.i (i':Int)) (.i (j:Int))) (Mm enc H db l T)∧i≤i'∧i'≤j+1∧(∀k:Nat,i≤k→k<i'→¬lt (at_ l a) (at_ l k))∧(j<i'∨lt (at_ l a) (at_ l i')):=by
 have hn:=S.nb
 intro d
 induction d with
 | zero =>
  intro i hd hi1 hi2 hj
  exact ⟨i,lpo (Qc1 0 db n cap (Mm enc H db l T) 0 a b p i j (by omega)),qB _,by omega,fun k h1 h2=>by omega,.inl (by omega)⟩
 | succ d ih =>
  intro i hd hi1 hi2 hj
  by_cases c0:i≤j
  ·by_cases c:¬lt (at_ l a) (at_ l i)
   ·obtain ⟨cc,N,hN,hc⟩:=S.cf (T:=T) hl hT (hD.at (i:=a) (by omega)) (hD.at (i:=i) (by omega)) c
    have st:=Qjs N db n cap (Mm enc H db l T) 0 a b p i j (by omega) (ixs (i:=a) rfl (by omega)) (S.ld l T a hl (by omega)) (ixs (i:=i) rfl (by omega)) (S.ld l T i hl (by omega)) hN hc
    rw [Qc (by omega)] at st
    obtain ⟨i',r,q1,q2,q3,q4⟩:=ih (i+1) (by omega) (by omega) (by omega) hj
    exact ⟨i',lop (st) (gcM _ _ _ _ _ rfl) (r),by omega,q2,fun k h1 h2=>by
     by_cases e:k=i
     ·subst e;exact c
     ·exact q3 k (by omega) h2,q4⟩
   ·have c':lt (at_ l a) (at_ l i):=Classical.not_not.1 c
    obtain ⟨cc,N,hN,hc⟩:=S.ct (T:=T) hl hT (hD.at (i:=a) (by omega)) (hD.at (i:=i) (by omega)) c'
    have st:=Qjr N db n cap (Mm enc H db l T) 0 a b p i j (by omega) (ixs (i:=a) rfl (by omega)) (S.ld l T a hl (by omega)) (ixs (i:=i) rfl (by omega)) (S.ld l T i hl (by omega)) hN hc
    exact ⟨i,lpo (st),qB _,by omega,fun k h1 h2=>by omega,Or.inr c'⟩
  ·exact ⟨i,lpo (Qc1 0 db n cap (Mm enc H db l T) 0 a b p i j (by omega)),qB _,by omega,fun k h1 h2=>by omega,.inl (by omega)⟩
theorem pe2 (S:So enc lt dom H db n) {T:Heap} (hT:mxs T=0) {a b p i:Nat} {l:List α} (hl:l.length=n) (hD:Dm dom l):∀(d j:Nat),j+1-i≤d→a<i→i≤j+1→j<n →
  ∃j':Nat,RT polSo 102 (sn 1924 WU) (K8 (.sl db 0 n cap n 3) (.i (a:Int)) (.i (b:Int)) (.i (p:Int)) (.func 77 [] []) (.i 0) (.i (i:Int)) (.i (j:Int))) (Mm enc H db l T) (.exit 4) (K8 (.sl db 0 n cap n 3) (.i (a:Int)) (.i (b:Int)) (.i (p:Int)) (.func 77 [] []) (.i 0) (.i (i:Int)) (.i (j':Int))) (Mm enc H db l T)∧j'≤j∧i≤j'+1∧(∀k:Nat,j'<k→k≤j→lt (at_ l a) (at_ l k))∧(j'<i∨¬lt (at_ l a) (at_ l j')):=by
 have hn:=S.nb
 intro d
 induction d with
 | zero =>
  intro j hd hi1 hi2 hj
  exact ⟨j,lpo (Qc2 0 db n cap (Mm enc H db l T) 0 a b p i j (by omega)),qB _,by omega,fun k h1 h2=>by omega,.inl (by omega)⟩
 | succ d ih =>
  intro j hd hi1 hi2 hj
  by_cases c0:i≤j
  ·by_cases c:lt (at_ l a) (at_ l j)
   ·obtain ⟨cc,N,hN,hc⟩:=S.ct (T:=T) hl hT (hD.at (i:=a) (by omega)) (hD.at (i:=j) (by omega)) c
    have st:=Qjt N db n cap (Mm enc H db l T) 0 a b p i j (by omega) (ixs (i:=a) rfl (by omega)) (S.ld l T a hl (by omega)) (ixs (i:=j) rfl (by omega)) (S.ld l T j hl (by omega)) hN hc
    rw [QJ (by omega) (by omega)] at st
    obtain ⟨j',r,q1,q2,q3,q4⟩:=ih (j-1) (by omega) hi1 (by omega) (by omega)
    exact ⟨j',lop (st) (gcM _ _ _ _ _ rfl) (r),by omega,q2,fun k h1 h2=>by
     by_cases e:k=j
     ·subst e;exact c
     ·exact q3 k h1 (by omega),q4⟩
   ·have c':¬lt (at_ l a) (at_ l j):=c
    obtain ⟨cc,N,hN,hc⟩:=S.cf (T:=T) hl hT (hD.at (i:=a) (by omega)) (hD.at (i:=j) (by omega)) c'
    have st:=Qju N db n cap (Mm enc H db l T) 0 a b p i j (by omega) (ixs (i:=a) rfl (by omega)) (S.ld l T a hl (by omega)) (ixs (i:=j) rfl (by omega)) (S.ld l T j hl (by omega)) hN hc
    exact ⟨j,lpo (st),qB _,by omega,fun k h1 h2=>by omega,Or.inr c'⟩
  ·exact ⟨j,lpo (Qc2 0 db n cap (Mm enc H db l T) 0 a b p i j (by omega)),qB _,by omega,fun k h1 h2=>by omega,.inl (by omega)⟩
theorem Uy {l:List α} {i j a:Nat} (hi:i<l.length) (hj:j<l.length) (h1:a≠i) (h2:a≠j):at_ (swp l i j) a=at_ l a:=by rw [Zz hi hj,if_neg h2,if_neg h1]
def PI (lt:α→α→Prop) (a b i j:Nat) (l:List α):Prop:=(a<i∧i≤j+1∧a≤j∧j<b)∧(∀k,a<k→k<i→lt (at_ l k) (at_ l a))∧∀k,j<k→k<b→¬lt (at_ l k) (at_ l a)
theorem PI.scan {a b i j i' j':Nat} {l:List α} (h:PI lt a b i j l) (h1:i≤i') (h2:i'≤j+1) (h3:∀k,i≤k→k<i'→lt (at_ l k) (at_ l a)) (h4:j'≤j) (h5:i'≤j'+1) (h6:∀k,j'<k→k≤j→¬lt (at_ l k) (at_ l a)):PI lt a b i' j' l:=by
 obtain ⟨p1,p2,p3⟩:=h
 refine ⟨by omega,fun k q1 q2=>?_,fun k q1 q2=>?_⟩
 ·by_cases c:k<i
  ·exact p2 k q1 c
  ·exact h3 k (by omega) q2
 ·by_cases c:j<k
  ·exact p3 k c q2
  ·exact h6 k q1 (by omega)
theorem PI.swap {a b i j:Nat} {l:List α} (hb:b≤l.length) (h:PI lt a b i j l) (hij:i≤j) (h1:¬lt (at_ l i) (at_ l a)) (h2:lt (at_ l j) (at_ l a)):PI lt a b (i+1) (j-1) (swp l i j):=by
 obtain ⟨p1,p2,p3⟩:=h
 have hne:i≠j:=fun e=>by subst e;exact h1 h2
 have e0:at_ (swp l i j) a=at_ l a:=Uy (by omega) (by omega) (by omega) (by omega)
 refine ⟨by omega,fun k q1 q2=>?_,fun k q1 q2=>?_⟩
 ·rw [e0,Zz (by omega) (by omega),if_neg (by omega)]
  by_cases c:k=i
  ·rw [if_pos c];exact h2
  ·rw [if_neg c];exact p2 k q1 (by omega)
 ·rw [e0,Zz (by omega) (by omega)]
  by_cases c:k=j
  ·rw [if_pos c];exact h1
  ·rw [if_neg c,if_neg (by omega)];exact p3 k (by omega) q2
theorem PI.done {a b i j:Nat} {l:List α} (hb:b≤l.length) (h:PI lt a b i j l) (hij:j<i):(∀k,a≤k→k<j→lt (at_ (swp l j a) k) (at_ (swp l j a) j))∧∀k,j<k→k<b→¬lt (at_ (swp l j a) k) (at_ (swp l j a) j):=by
 obtain ⟨p1,p2,p3⟩:=h
 have ej:at_ (swp l j a) j=at_ l a:=by
  rw [Zz (by omega) (by omega)]
  by_cases c:j=a
  ·rw [if_pos c,c]
  ·rw [if_neg c,if_pos rfl]
 refine ⟨fun k q1 q2=>?_,fun k q1 q2=>?_⟩
 ·rw [ej,Zz (by omega) (by omega)]
  by_cases c:k=a
  ·rw [if_pos c];exact p2 j (by omega) (by omega)
  ·rw [if_neg c,if_neg (by omega)];exact p2 k (by omega) (by omega)
 ·rw [ej,Zz (by omega) (by omega),if_neg (by omega),if_neg (by omega)];exact p3 k q1 q2
theorem Qe0 (S:So enc lt dom H db n) {T:Heap} (hT:mxs T=0) {a b p:Nat} (hb:b≤n):∀(d i j:Nat) (l:List α),j+1-i≤d→l.length=n→Dm dom l→PI lt a b i j l →
  ∃(i' j':Nat) (l':List α),RT polSo 103 (sn 4092 QO) (Z1 (.sl db 0 n cap n 3) (.i (a:Int)) (.i (b:Int)) (.i (p:Int)) (.func 77 [] []) (.i 0) (.bool false) (.i (i:Int)) (.i (j:Int))) (Mm enc H db l T) (.exit 4) (Z1 (.sl db 0 n cap n 3) (.i (a:Int)) (.i (b:Int)) (.i (p:Int)) (.func 77 [] []) (.i 0) (.bool false) (.i (i':Int)) (.i (j':Int))) (Mm enc H db l' T)∧Sw a b l l'∧PI lt a b i' j' l'∧j'<i':=by
 have hn:=S.nb
 intro d
 induction d with
 | zero =>
  intro i j l hd hl hD hI
  obtain ⟨p1,p2,p3⟩:=id hI
  obtain ⟨i',r1,q1,q2,q3,q4⟩:=pt3 S (cap:=cap) (a:=a) (b:=b) (p:=p) (j:=j) hT hl hD _ i (qB _) p1.1 p1.2.1 (by omega)
  obtain ⟨j',r2,q5,q6,q7,q8⟩:=pt4 S (cap:=cap) (a:=a) (b:=b) (p:=p) hT hl hD _ j (qB _) (i:=i') (by omega) (by omega) (by omega)
  have st:=RunsTo.block_other (i:=5) (c:=sn 8184 QO) (sq (bke (c:=sn 32736 QO) (r1)) (sq (bke (c:=sn 65474 QO) (r2)) (Qc0 0 db n cap (Mm enc H db l T) 0 a b p i' j' (by omega)) (c:=sn 32737 QO)) (c:=sn 16368 QO)) (by simp) (by kernel_rfl)
  exact ⟨i',j',l,lpo (st),.refl,hI.scan q1 q2 q3 q5 q6 q7,by omega⟩
 | succ d ih =>
  intro i j l hd hl hD hI
  obtain ⟨p1,p2,p3⟩:=id hI
  obtain ⟨i',r1,q1,q2,q3,q4⟩:=pt3 S (cap:=cap) (a:=a) (b:=b) (p:=p) (j:=j) hT hl hD _ i (qB _) p1.1 p1.2.1 (by omega)
  obtain ⟨j',r2,q5,q6,q7,q8⟩:=pt4 S (cap:=cap) (a:=a) (b:=b) (p:=p) hT hl hD _ j (qB _) (i:=i') (by omega) (by omega) (by omega)
  have hI':=hI.scan q1 q2 q3 q5 q6 q7
  by_cases c:j'<i'
  ·have st:=RunsTo.block_other (i:=5) (c:=sn 8184 QO) (sq (bke (c:=sn 32736 QO) (r1)) (sq (bke (c:=sn 65474 QO) (r2)) (Qc0 0 db n cap (Mm enc H db l T) 0 a b p i' j' (by omega)) (c:=sn 32737 QO)) (c:=sn 16368 QO)) (by simp) (by kernel_rfl)
   exact ⟨i',j',l,lpo (st),.refl,hI',c⟩
  ·have q4':=q4.resolve_left (by omega)
   have q8':=q8.resolve_left (by omega)
   obtain ⟨s1,s2⟩:=S.st2 (T:=T) hl (i:=i') (j:=j') (by omega) (by omega)
   have sl:=Qjm 0 db n cap (Mm enc H db l T) 0 a b p i' j' (by omega) (ixs (i:=j') rfl (by omega)) (S.ld l T _ hl (by omega)) (ixs (i:=i') rfl (by omega)) (S.ld l T _ hl (by omega)) (ixs (i:=i') rfl (by omega)) s1 (ixs (i:=j') rfl (by omega)) s2
   rw [Qc (by omega),QJ (by omega) (by omega)] at sl
   have st:=RunsTo.block_normal (i:=5) (c:=sn 8184 QO) (sq (bke (c:=sn 32736 QO) (r1)) (sq (bke (c:=sn 65474 QO) (r2)) (sl) (c:=sn 32737 QO)) (c:=sn 16368 QO)) (by kernel_rfl)
   have sw:Sw a b l (swp l i' j'):=Sw.one (by omega) (by omega) (by omega) (by omega)
   obtain ⟨i2,j2,l',r,w1,w2,w3⟩:=ih (i'+1) (j'-1) (swp l i' j') (by omega) (by rw [Jk];exact hl) (hD.sw sw (by omega)) (hI'.swap (by omega) (by omega) q4' q8')
   exact ⟨i2,j2,l',lop (st) (gcM _ _ _ _ _ rfl) (r),sw.trans w1,w2,w3⟩
theorem Qe1 (S:So enc lt dom H db n) {T:Heap} (hT:mxs T=0) {a b p:Nat} (hb:b≤n) (hp1:a≤p) (hp2:p<b) {l:List α} (hl:l.length=n) (hD:Dm dom l) :
  ∃m bb l',ClS 103 [.sl db 0 n cap n 3,.int .i64 (a:Int),.int .i64 (b:Int),.int .i64 (p:Int),.func 77 [] []] (Mm enc H db l T) (.tuple [.int .i64 ((m:Nat):Int),.bool bb]) (Mm enc H db l' T)∧Sw a b l l'∧(a≤m∧m<b)∧(∀k,a≤k→k<m→lt (at_ l' k) (at_ l' m))∧∀k,m<k→k<b→¬lt (at_ l' k) (at_ l' m):=by
 have hn:=S.nb
 obtain ⟨s1,s2⟩:=S.st2 (T:=T) hl (i:=a) (j:=p) (by omega) (by omega)
 have t0:=Qi6 0 db n cap (Mm enc H db l T) 0 a b p
 have t1:=Qi7 0 db n cap (Mm enc H db l T) 0 a b p (y12:=Ud) (y13:=Ud) (ixs (i:=p) rfl (by omega)) (S.ld l T _ hl (by omega)) (ixs (i:=a) rfl (by omega)) (S.ld l T _ hl (by omega)) (ixs (i:=a) rfl (by omega)) s1 (ixs (i:=p) rfl (by omega)) s2
 have sw0:Sw a b l (swp l a p):=Sw.one (by omega) (by omega) (by omega) (by omega)
 have hl0:=Ww sw0 hl
 have hD0:=hD.sw sw0 (by omega)
 generalize swp l a p=l0 at t1 sw0 hl0 hD0 s2
 clear s2
 have t2:=Qi8 0 db n cap (Mm enc H db l0 T) 0 a b p (y12:=Ud) (y13:=Ud)
 rw [Qc (by omega),QJ (by omega) (by omega)] at t2
 have hI0:PI lt a b (a+1) (b-1) l0:=⟨by omega,fun k h1 h2=>by omega,fun k h1 h2=>by omega⟩
 obtain ⟨i,r1,q1,q2,q3,q4⟩:=pt1 S (cap:=cap) (a:=a) (b:=b) (p:=p) (j:=b-1) hT hl0 hD0 _ (a+1) (qB _) (by omega) (by omega) (by omega)
 obtain ⟨j,r2,q5,q6,q7,q8⟩:=pt2 S (cap:=cap) (a:=a) (b:=b) (p:=p) hT hl0 hD0 _ (b-1) (qB _) (i:=i) (by omega) (by omega) (by omega)
 have hI:=hI0.scan q1 q2 q3 q5 q6 q7
 have hI':=hI.1
 have fin:∀(i j:Nat) (l1:List α) (bb:Bool) (E:Env) (H':Heap),Sw a b l l1→PI lt a b i j l1→j<i→H'=Mm enc H db (swp l1 j a) T→RT polSo 103 QO (ZS [.sl db 0 n cap n 3,.int .i64 (a:Int),.int .i64 (b:Int),.int .i64 (p:Int),.func 77 [] []]) (Mm enc H db l T) .ret E H'→Qf Tp Try.f103 E H'=some (.tuple [.int .i64 ((j:Nat):Int),.bool bb]) →
   ∃m bb l',ClS 103 [.sl db 0 n cap n 3,.int .i64 (a:Int),.int .i64 (b:Int),.int .i64 (p:Int),.func 77 [] []] (Mm enc H db l T) (.tuple [.int .i64 ((m:Nat):Int),.bool bb]) (Mm enc H db l' T)∧Sw a b l l'∧(a≤m∧m<b)∧(∀k,a≤k→k<m→lt (at_ l' k) (at_ l' m))∧∀k,m<k→k<b→¬lt (at_ l' k) (at_ l' m):=by
  intro i j l1 bb E H' hs hI hij he t hv
  subst he
  have hI':=hI.1
  have hll:=Ww hs hl
  have hc:=CallsTo.shared (P:=Tp) (pol:=polSo) (g:=103) (fn:=Try.f103) (cd:=QO) (args:=[.sl db 0 n cap n 3,.int .i64 (a:Int),.int .i64 (b:Int),.int .i64 (p:Int),.func 77 [] []]) (by kernel_rfl) (by kernel_rfl) (by kernel_rfl) (by kernel_rfl) t (by kernel_rfl) (by simp) hv
  rw [gcM _ _ _ _ _ rfl] at hc
  obtain ⟨w1,w2⟩:=hI.done (by omega) hij
  exact ⟨j,bb,_,hc,hs.step (by omega) (by omega) (qB _) (by omega),by omega,w1,w2⟩
 by_cases c:j<i
 ·obtain ⟨s3,s4⟩:=S.st2 (T:=T) hl0 (i:=j) (j:=a) (by omega) (by omega)
  have t3:=Qjd 0 db n cap (Mm enc H db l0 T) 0 a b p i j (by omega) (ixs (i:=a) rfl (by omega)) (S.ld l0 T _ hl0 (by omega)) (ixs (i:=j) rfl (by omega)) (S.ld l0 T _ hl0 (by omega)) (ixs (i:=j) rfl (by omega)) s3 (ixs (i:=a) rfl (by omega)) s4
  have t:=sq (t0) (sq (t1) (sq (t2) (sq (bke (c:=sn 30 QO) (r1)) (sq (bke (c:=sn 62 QO) (r2)) (sqo (t3) (c:=sn 63 QO) (b:=sn 127 QO)) (c:=sn 31 QO)) (c:=sn 15 QO)) (c:=sn 7 QO)) (c:=sn 3 QO)) (c:=QO)
  exact fin i j l0 true _ _ sw0 hI c rfl t (by kernel_rfl)
 ·have q4':=q4.resolve_left (by omega)
  have q8':=q8.resolve_left (by omega)
  obtain ⟨s3,s4⟩:=S.st2 (T:=T) hl0 (i:=i) (j:=j) (by omega) (by omega)
  have t3:=Qje 0 db n cap (Mm enc H db l0 T) 0 a b p i j (by omega)
  have t4:=Qjf 0 db n cap (Mm enc H db l0 T) 0 a b p i j (ixs (i:=j) rfl (by omega)) (S.ld l0 T _ hl0 (by omega)) (ixs (i:=i) rfl (by omega)) (S.ld l0 T _ hl0 (by omega)) (ixs (i:=i) rfl (by omega)) s3 (ixs (i:=j) rfl (by omega)) s4
  have sw1:Sw a b l0 (swp l0 i j):=Sw.one (by omega) (by omega) (by omega) (by omega)
  have hl1:=Ww sw1 hl0
  have hD1:=hD0.sw sw1 (by omega)
  have hI1:=hI.swap (by omega) (by omega) q4' q8'
  generalize swp l0 i j=l1 at t4 sw1 hl1 hD1 hI1 s4
  clear s4
  have t5:=Qjg 0 db n cap (Mm enc H db l1 T) 0 a b p i j
  rw [Qc (by omega)] at t5
  have t6:=Qjh 0 db n cap (Mm enc H db l1 T) 0 a b p (i+1) j
  rw [QJ (by omega) (by omega)] at t6
  obtain ⟨i2,j2,l2,r3,w1,w2,w3⟩:=Qe0 S (cap:=cap) (p:=p) hT hb _ (i+1) (j-1) l1 (qB _) hl1 hD1 hI1
  have w2':=w2.1
  have hl2:=Ww w1 hl1
  obtain ⟨s5,s6⟩:=S.st2 (T:=T) hl2 (i:=j2) (j:=a) (by omega) (by omega)
  have t7:=Qjn 0 db n cap (Mm enc H db l2 T) 0 a b p i2 j2 (ixs (i:=a) rfl (by omega)) (S.ld l2 T _ hl2 (by omega)) (ixs (i:=j2) rfl (by omega)) (S.ld l2 T _ hl2 (by omega)) (ixs (i:=j2) rfl (by omega)) s5 (ixs (i:=a) rfl (by omega)) s6
  have t:=sq (t0) (sq (t1) (sq (t2) (sq (bke (c:=sn 30 QO) (r1)) (sq (bke (c:=sn 62 QO) (r2)) (sq (t3) (sq (t4) (sq (t5) (sq (t6) (sq (bke (c:=sn 2046 QO) (r3)) (t7) (c:=sn 1023 QO)) (c:=sn 511 QO)) (c:=sn 255 QO)) (c:=sn 127 QO)) (c:=sn 63 QO)) (c:=sn 31 QO)) (c:=sn 15 QO)) (c:=sn 7 QO)) (c:=sn 3 QO)) (c:=QO)
  exact fin i2 j2 l2 false _ _ (sw0.trans (sw1.trans w1)) w2 w3 rfl t (by kernel_rfl)
def PE (lt:α→α→Prop) (a b i j:Nat) (l:List α):Prop:=(a<i∧i≤j+1∧a≤j∧j<b)∧(∀k,a<k→k<i→¬lt (at_ l a) (at_ l k))∧∀k,j<k→k<b→lt (at_ l a) (at_ l k)
theorem PE.scan {a b i j i' j':Nat} {l:List α} (h:PE lt a b i j l) (h1:i≤i') (h2:i'≤j+1) (h3:∀k,i≤k→k<i'→¬lt (at_ l a) (at_ l k)) (h4:j'≤j) (h5:i'≤j'+1) (h6:∀k,j'<k→k≤j→lt (at_ l a) (at_ l k)):PE lt a b i' j' l:=by
 obtain ⟨p1,p2,p3⟩:=h
 refine ⟨by omega,fun k q1 q2=>?_,fun k q1 q2=>?_⟩
 ·by_cases c:k<i
  ·exact p2 k q1 c
  ·exact h3 k (by omega) q2
 ·by_cases c:j<k
  ·exact p3 k c q2
  ·exact h6 k q1 (by omega)
theorem PE.swap {a b i j:Nat} {l:List α} (hb:b≤l.length) (h:PE lt a b i j l) (hij:i≤j) (h1:lt (at_ l a) (at_ l i)) (h2:¬lt (at_ l a) (at_ l j)):PE lt a b (i+1) (j-1) (swp l i j):=by
 obtain ⟨p1,p2,p3⟩:=h
 have hne:i≠j:=fun e=>by subst e;exact h2 h1
 have e0:at_ (swp l i j) a=at_ l a:=Uy (by omega) (by omega) (by omega) (by omega)
 refine ⟨by omega,fun k q1 q2=>?_,fun k q1 q2=>?_⟩
 ·rw [e0,Zz (by omega) (by omega),if_neg (by omega)]
  by_cases c:k=i
  ·rw [if_pos c];exact h2
  ·rw [if_neg c];exact p2 k q1 (by omega)
 ·rw [e0,Zz (by omega) (by omega)]
  by_cases c:k=j
  ·rw [if_pos c];exact h1
  ·rw [if_neg c,if_neg (by omega)];exact p3 k (by omega) q2
theorem Qe2 (S:So enc lt dom H db n) {T:Heap} (hT:mxs T=0) {a b p:Nat} (hb:b≤n):∀(d i j:Nat) (l:List α),j+1-i≤d→l.length=n→Dm dom l→PE lt a b i j l →
  ∃(i' j':Nat) (l':List α),RT polSo 102 (sn 60 WU) (K8 (.sl db 0 n cap n 3) (.i (a:Int)) (.i (b:Int)) (.i (p:Int)) (.func 77 [] []) (.i 0) (.i (i:Int)) (.i (j:Int))) (Mm enc H db l T) (.exit 0) (K8 (.sl db 0 n cap n 3) (.i (a:Int)) (.i (b:Int)) (.i (p:Int)) (.func 77 [] []) (.i 0) (.i (i':Int)) (.i (j':Int))) (Mm enc H db l' T)∧Sw a b l l'∧at_ l' a=at_ l a∧PE lt a b i' j' l'∧j'<i':=by
 have hn:=S.nb
 intro d
 induction d with
 | zero =>
  intro i j l hd hl hD hI
  obtain ⟨p1,p2,p3⟩:=id hI
  obtain ⟨i',r1,q1,q2,q3,q4⟩:=pe1 S (cap:=cap) (a:=a) (b:=b) (p:=p) (j:=j) hT hl hD _ i (qB _) p1.1 p1.2.1 (by omega)
  obtain ⟨j',r2,q5,q6,q7,q8⟩:=pe2 S (cap:=cap) (a:=a) (b:=b) (p:=p) hT hl hD _ j (qB _) (i:=i') (by omega) (by omega) (by omega)
  have st:=RunsTo.block_other (i:=1) (c:=sn 120 WU) (sq (bke (c:=sn 480 WU) (r1)) (sq (bke (c:=sn 962 WU) (r2)) (Qc3 0 db n cap (Mm enc H db l T) 0 a b p i' j' (by omega)) (c:=sn 481 WU)) (c:=sn 240 WU)) (by simp) (by kernel_rfl)
  exact ⟨i',j',l,lpo (st),.refl,rfl,hI.scan q1 q2 q3 q5 q6 q7,by omega⟩
 | succ d ih =>
  intro i j l hd hl hD hI
  obtain ⟨p1,p2,p3⟩:=id hI
  obtain ⟨i',r1,q1,q2,q3,q4⟩:=pe1 S (cap:=cap) (a:=a) (b:=b) (p:=p) (j:=j) hT hl hD _ i (qB _) p1.1 p1.2.1 (by omega)
  obtain ⟨j',r2,q5,q6,q7,q8⟩:=pe2 S (cap:=cap) (a:=a) (b:=b) (p:=p) hT hl hD _ j (qB _) (i:=i') (by omega) (by omega) (by omega)
  have hI':=hI.scan q1 q2 q3 q5 q6 q7
  by_cases c:j'<i'
  ·have st:=RunsTo.block_other (i:=1) (c:=sn 120 WU) (sq (bke (c:=sn 480 WU) (r1)) (sq (bke (c:=sn 962 WU) (r2)) (Qc3 0 db n cap (Mm enc H db l T) 0 a b p i' j' (by omega)) (c:=sn 481 WU)) (c:=sn 240 WU)) (by simp) (by kernel_rfl)
   exact ⟨i',j',l,lpo (st),.refl,rfl,hI',c⟩
  ·have q4':=q4.resolve_left (by omega)
   have q8':=q8.resolve_left (by omega)
   obtain ⟨s1,s2⟩:=S.st2 (T:=T) hl (i:=i') (j:=j') (by omega) (by omega)
   have sl:=Qjv 0 db n cap (Mm enc H db l T) 0 a b p i' j' (by omega) (ixs (i:=j') rfl (by omega)) (S.ld l T _ hl (by omega)) (ixs (i:=i') rfl (by omega)) (S.ld l T _ hl (by omega)) (ixs (i:=i') rfl (by omega)) s1 (ixs (i:=j') rfl (by omega)) s2
   rw [Qc (by omega),QJ (by omega) (by omega)] at sl
   have st:=RunsTo.block_normal (i:=1) (c:=sn 120 WU) (sq (bke (c:=sn 480 WU) (r1)) (sq (bke (c:=sn 962 WU) (r2)) (sl) (c:=sn 481 WU)) (c:=sn 240 WU)) (by kernel_rfl)
   have sw:Sw a b l (swp l i' j'):=Sw.one (by omega) (by omega) (by omega) (by omega)
   have e0:at_ (swp l i' j') a=at_ l a:=Uy (by omega) (by omega) (by omega) (by omega)
   obtain ⟨i2,j2,l',r,w1,w0,w2,w3⟩:=ih (i'+1) (j'-1) (swp l i' j') (by omega) (by rw [Jk];exact hl) (hD.sw sw (by omega)) (hI'.swap (by omega) (by omega) q4' q8')
   exact ⟨i2,j2,l',lop (st) (gcM _ _ _ _ _ rfl) (r),sw.trans w1,w0.trans e0,w2,w3⟩
theorem QjW (S:So enc lt dom H db n) (hL:Lin lt) {T:Heap} (hT:mxs T=0) {a b p:Nat} (hb:b≤n) (hp1:a≤p) (hp2:p<b) {l:List α} (hl:l.length=n) (hD:Dm dom l) :
  ∃m l',ClS 102 [.sl db 0 n cap n 3,.int .i64 (a:Int),.int .i64 (b:Int),.int .i64 (p:Int),.func 77 [] []] (Mm enc H db l T) (.int .i64 ((m:Nat):Int)) (Mm enc H db l' T)∧Sw a b l l'∧(a<m∧m≤b)∧(∀k,a≤k→k<m→¬lt (at_ l p) (at_ l' k))∧∀k,m≤k→k<b→lt (at_ l p) (at_ l' k):=by
 have hn:=S.nb
 obtain ⟨s1,s2⟩:=S.st2 (T:=T) hl (i:=a) (j:=p) (by omega) (by omega)
 have t0:=Qjo 0 db n cap (Mm enc H db l T) 0 a b p
 have t1:=Qjp 0 db n cap (Mm enc H db l T) 0 a b p (y11:=Ud) (y12:=Ud) (ixs (i:=p) rfl (by omega)) (S.ld l T _ hl (by omega)) (ixs (i:=a) rfl (by omega)) (S.ld l T _ hl (by omega)) (ixs (i:=a) rfl (by omega)) s1 (ixs (i:=p) rfl (by omega)) s2
 have sw0:Sw a b l (swp l a p):=Sw.one (by omega) (by omega) (by omega) (by omega)
 have e0:at_ (swp l a p) a=at_ l p:=by
  rw [Zz (by omega) (by omega)]
  by_cases c:a=p
  ·rw [if_pos c,c]
  ·rw [if_neg c,if_pos rfl]
 have hl0:=Ww sw0 hl
 have hD0:=hD.sw sw0 (by omega)
 generalize swp l a p=l0 at t1 sw0 hl0 hD0 s2 e0
 clear s2
 have t2:=Qjq 0 db n cap (Mm enc H db l0 T) 0 a b p (y11:=Ud) (y12:=Ud)
 rw [Qc (by omega),QJ (by omega) (by omega)] at t2
 have hI0:PE lt a b (a+1) (b-1) l0:=⟨by omega,fun k h1 h2=>by omega,fun k h1 h2=>by omega⟩
 obtain ⟨i,j,l1,r,w1,w0,w2,w3⟩:=Qe2 S (cap:=cap) (p:=p) hT hb _ (a+1) (b-1) l0 (qB _) hl0 hD0 hI0
 obtain ⟨w4,w5,w6⟩:=w2
 have z:=Qjw 0 db n cap (Mm enc H db l1 T) 0 a b p i j
 have t:=sq (t0) (sq (t1) (sq (t2) (sq (bke (c:=sn 30 WU) (r)) (z) (c:=sn 15 WU)) (c:=sn 7 WU)) (c:=sn 3 WU)) (c:=WU)
 have hc:=CallsTo.shared (P:=Tp) (pol:=polSo) (g:=102) (fn:=Try.f102) (cd:=WU) (args:=[.sl db 0 n cap n 3,.int .i64 (a:Int),.int .i64 (b:Int),.int .i64 (p:Int),.func 77 [] []]) (v:=.int .i64 (i:Int)) (by kernel_rfl) (by kernel_rfl) (by kernel_rfl) (by kernel_rfl) t (by kernel_rfl) (by simp) (by kernel_rfl)
 rw [gcM _ _ _ _ _ rfl] at hc
 refine ⟨i,l1,hc,sw0.trans w1,by omega,fun k h1 h2=>?_,fun k h1 h2=>?_⟩
 ·rw [← e0,← w0]
  by_cases c:k=a
  ·subst c;exact hL.rf _
  ·exact w5 k (by omega) h2
 ·rw [← e0,← w0];exact w6 k (by omega) h2
end
section
variable {α:Type} [Inhabited α] {enc:α→HV} {lt:α→α→Prop} {dom:α→Prop} {H:Heap} {db n:Nat} {cap:Option Nat}
theorem Uz {a:Nat} {l:List α}:Sorted lt a (a+1) l:=fun p q h1 h2 h3=>by omega
theorem Ck (hL:Lin lt) {a i:Nat} {l:List α} (h:Sorted lt a i l) (hc:¬lt (at_ l i) (at_ l (i-1))):Sorted lt a (i+1) l:=fun p q h1 h2 h3=>by
 by_cases e:q=i
 ·subst e
  by_cases e2:p=q-1
  ·rw [e2];exact hc
  ·exact hL.tr _ _ _ (h p (q-1) h1 (by omega) (by omega)) hc
 ·exact h p q h1 h2 (by omega)
theorem Qe3 (S:So enc lt dom H db n) (hL:Lin lt) {T:Heap} (hT:mxs T=0) {a b k:Nat} (hb:b≤n) {l:List α} (hl:l.length=n) (hD:Dm dom l):∀(d i:Nat),b-i≤d→a<i→i≤b→Sorted lt a i l →
  ∃i':Nat,RT polSo 101 (sn 3728 QA) (Zc (.sl db 0 n cap n 3) (.i (a:Int)) (.i (b:Int)) (.func 77 [] []) (.bool false) (.i (i:Int)) (.i (k:Int)) Ud Ud) (Mm enc H db l T) (.exit 2) (Zc (.sl db 0 n cap n 3) (.i (a:Int)) (.i (b:Int)) (.func 77 [] []) (.bool false) (.i (i':Int)) (.i (k:Int)) Ud Ud) (Mm enc H db l T)∧(a<i'∧i'≤b)∧Sorted lt a i' l∧(i'<b→lt (at_ l i') (at_ l (i'-1))):=by
 have hn:=S.nb
 intro d
 induction d with
 | zero =>
  intro i hd ha hi hS
  exact ⟨i,lpo (Qc4 0 db n cap (Mm enc H db l T) 0 a b i k (by omega)),by omega,hS,fun h=>by omega⟩
 | succ d ih =>
  intro i hd ha hi hS
  by_cases c0:i<b
  ·by_cases c:lt (at_ l i) (at_ l (i-1))
   ·obtain ⟨cc,N,hN,hc⟩:=S.ct (T:=T) hl hT (hD.at (i:=i) (by omega)) (hD.at (i:=i-1) (by omega)) c
    have st:=QjC N db n cap (Mm enc H db l T) 0 a b i k (y11:=Ud) (y12:=Ud) (by omega) (ixs (i:=i) rfl (by omega)) (S.ld l T _ hl (by omega)) (ixs (i:=i-1) (QJ (by omega) (by omega)) (by omega)) (S.ld l T _ hl (by omega)) hN hc
    exact ⟨i,lpo (st),by omega,hS,fun _=>c⟩
   ·obtain ⟨cc,N,hN,hc⟩:=S.cf (T:=T) hl hT (hD.at (i:=i) (by omega)) (hD.at (i:=i-1) (by omega)) c
    have st:=QjD N db n cap (Mm enc H db l T) 0 a b i k (y11:=Ud) (y12:=Ud) (by omega) (ixs (i:=i) rfl (by omega)) (S.ld l T _ hl (by omega)) (ixs (i:=i-1) (QJ (by omega) (by omega)) (by omega)) (S.ld l T _ hl (by omega)) hN hc
    rw [Qc (by omega)] at st
    obtain ⟨i',r,q⟩:=ih (i+1) (by omega) (by omega) (by omega) (Ck hL hS c)
    exact ⟨i',lop (st) (gcM _ _ _ _ _ rfl) (r),q⟩
  ·exact ⟨i,lpo (Qc4 0 db n cap (Mm enc H db l T) 0 a b i k (by omega)),by omega,hS,fun h=>by omega⟩
def Flo (lt:α→α→Prop) (a b:Nat) (l:List α):Prop:=0<a→∀k,a≤k→k<b→¬lt (at_ l k) (at_ l (a-1))
theorem Flo.sw {a b:Nat} {l l':List α} (h:Flo lt a b l) (hb:b≤l.length) (hs:Sw a b l l'):Flo lt a b l':=fun h0=>by
 rw [hs.out hb (k:=a-1) (by omega)]
 exact hs.all hb (Q:=fun x=>¬lt x (at_ l (a-1))) (qB _) (qB _) (h h0)
theorem Qe4 (S:So enc lt dom H db n) (hL:Lin lt) {T:Heap} (hT:mxs T=0) {a b i k:Nat} (hi:i<b) (hb:b≤n):∀(j:Nat) (l:List α),l.length=n→j<i→a≤j→Dm dom l→Flo lt a b l→Sp lt a i j l →
  ∃y l',RT polSo 101 (sn 477674 QA) (Zc (.sl db 0 n cap n 3) (.i (a:Int)) (.i (b:Int)) (.func 77 [] []) (.bool false) (.i (i:Int)) (.i (k:Int)) (.i (j:Int)) Ud) (Mm enc H db l T) (.exit 4) (Zc (.sl db 0 n cap n 3) (.i (a:Int)) (.i (b:Int)) (.func 77 [] []) (.bool false) (.i (i:Int)) (.i (k:Int)) y Ud) (Mm enc H db l' T)∧Sw a i l l'∧Sorted lt a i l':=by
 have hn:=S.nb
 intro j
 induction j with
 | zero =>
  intro l hl hj ha hD hF hS
  exact ⟨_,l,lpo (QjO 0 db n cap (Mm enc H db l T) 0 a b i k 0 (by omega)),.refl,K6 hL hS (.inl (qD _))⟩
 | succ j ih =>
  intro l hl hj ha hD hF hS
  have hw:qA.wrap (((j+1:Nat):Int)-1)=((j:Nat):Int):=QJ (j:=j+1) (by omega) (by omega)
  by_cases c2:lt (at_ l (j+1)) (at_ l j)
  ·have ha':a<j+1:=by
    rcases Nat.lt_or_ge a (j+1) with h | h
    ·exact h
    ·exfalso
     have e:a=j+1:=by omega
     have:=hF (by omega) (j+1) (by omega) (by omega)
     rw [show a-1=j by omega] at this
     exact this c2
   obtain ⟨cc,N,hN,hc⟩:=S.ct (T:=T) hl hT (hD.at (i:=j+1) (by omega)) (hD.at (i:=j) (by omega)) c2
   obtain ⟨s1,s2⟩:=S.st2 (T:=T) hl (i:=j+1) (j:=j) (by omega) (by omega)
   have sw:Sw a i l (swp l (j+1) j):=Sw.one (by omega) (by omega) (by omega) (by omega)
   have st:=QjM N db n cap (Mm enc H db l T) 0 a b i k (j+1) (y12:=Ud) (by omega) (ixs (i:=j+1) rfl (by omega)) (S.ld l T _ hl (by omega)) (ixs hw (by omega)) (S.ld l T _ hl (by omega)) hN hc
    (ixs hw (by omega)) (S.ld l T _ hl (by omega)) (ixs (i:=j+1) rfl (by omega)) (S.ld l T _ hl (by omega)) (ixs (i:=j+1) rfl (by omega)) s1 (ixs hw (by omega)) s2
   rw [hw] at st
   obtain ⟨y,l',r,q1,q2⟩:=ih (swp l (j+1) j) (by rw [Jk];exact hl) (by omega) (by omega) (hD.sw sw (by omega)) (hF.sw (by omega) (sw.mono (qB _) (by omega))) (Do hL (j:=j+1) (by omega) (by omega) ha' hS c2)
   exact ⟨y,l',lop (st) (gcM _ _ _ _ _ rfl) (r),sw.trans q1,q2⟩
  ·obtain ⟨cc,N,hN,hc⟩:=S.cf (T:=T) hl hT (hD.at (i:=j+1) (by omega)) (hD.at (i:=j) (by omega)) c2
   have st:=QjN N db n cap (Mm enc H db l T) 0 a b i k (j+1) (y12:=Ud) (by omega) (ixs (i:=j+1) rfl (by omega)) (S.ld l T _ hl (by omega)) (ixs hw (by omega)) (S.ld l T _ hl (by omega)) hN hc
   exact ⟨_,l,lpo (st),.refl,K6 hL hS (.inr c2)⟩
theorem Qc6 (S:So enc lt dom H db n) {T:Heap} (hT:mxs T=0) {a b i k:Nat} (hb:b≤n):∀(d w:Nat) (l:List α),b-w≤d→l.length=n→i<w→Dm dom l →
  ∃y l',RT polSo 101 (sn 477690 QA) (Zc (.sl db 0 n cap n 3) (.i (a:Int)) (.i (b:Int)) (.func 77 [] []) (.bool false) (.i (i:Int)) (.i (k:Int)) Ud (.i (w:Int))) (Mm enc H db l T) (.exit 6) (Zc (.sl db 0 n cap n 3) (.i (a:Int)) (.i (b:Int)) (.func 77 [] []) (.bool false) (.i (i:Int)) (.i (k:Int)) Ud y) (Mm enc H db l' T)∧Sw i b l l':=by
 have hn:=S.nb
 intro d
 induction d with
 | zero =>
  intro w l hd hl hw hD
  exact ⟨_,l,lpo (Qc5 0 db n cap (Mm enc H db l T) 0 a b i k w (by omega)),.refl⟩
 | succ d ih =>
  intro w l hd hl hi hD
  by_cases c0:w<b
  ·have hw:qA.wrap ((w:Int)-1)=((w-1:Nat):Int):=QJ (by omega) (by omega)
   by_cases c:lt (at_ l w) (at_ l (w-1))
   ·obtain ⟨cc,N,hN,hc⟩:=S.ct (T:=T) hl hT (hD.at (i:=w) (by omega)) (hD.at (i:=w-1) (by omega)) c
    obtain ⟨s1,s2⟩:=S.st2 (T:=T) hl (i:=w) (j:=w-1) (by omega) (by omega)
    have sw:Sw i b l (swp l w (w-1)):=Sw.one (by omega) (by omega) (by omega) (by omega)
    have st:=QjS N db n cap (Mm enc H db l T) 0 a b i k w (y11:=Ud) (by omega) (ixs (i:=w) rfl (by omega)) (S.ld l T _ hl (by omega)) (ixs hw (by omega)) (S.ld l T _ hl (by omega)) hN hc
     (ixs hw (by omega)) (S.ld l T _ hl (by omega)) (ixs (i:=w) rfl (by omega)) (S.ld l T _ hl (by omega)) (ixs (i:=w) rfl (by omega)) s1 (ixs hw (by omega)) s2
    rw [Qc (by omega)] at st
    obtain ⟨y,l',r,q1⟩:=ih (w+1) (swp l w (w-1)) (by omega) (by rw [Jk];exact hl) (by omega) (hD.sw sw (by omega))
    exact ⟨y,l',lop (st) (gcM _ _ _ _ _ rfl) (r),sw.trans q1⟩
   ·obtain ⟨cc,N,hN,hc⟩:=S.cf (T:=T) hl hT (hD.at (i:=w) (by omega)) (hD.at (i:=w-1) (by omega)) c
    have st:=QjT N db n cap (Mm enc H db l T) 0 a b i k w (y11:=Ud) (by omega) (ixs (i:=w) rfl (by omega)) (S.ld l T _ hl (by omega)) (ixs hw (by omega)) (S.ld l T _ hl (by omega)) hN hc
    exact ⟨_,l,lpo (st),.refl⟩
  ·exact ⟨_,l,lpo (Qc5 0 db n cap (Mm enc H db l T) 0 a b i k w (by omega)),.refl⟩
theorem QoR (S:So enc lt dom H db n) (hL:Lin lt) {T:Heap} (hT:mxs T=0) {a b i k:Nat} (hai:a<i) (hi:i<b) (hb:b≤n) {l:List α} (hl:l.length=n) (hD:Dm dom l) (hF:Flo lt a b l) (hS:Sorted lt a (i-1) l) :
  ∃y l',RT polSo 101 (sn 29854 QA) (Zc (.sl db 0 n cap n 3) (.i (a:Int)) (.i (b:Int)) (.func 77 [] []) (.bool false) (.i (i:Int)) (.i (k:Int)) Ud Ud) (Mm enc H db l T) .normal (Zc (.sl db 0 n cap n 3) (.i (a:Int)) (.i (b:Int)) (.func 77 [] []) (.bool false) (.i (i:Int)) (.i (k:Int)) y Ud) (Mm enc H db l' T)∧Sw a i l l'∧Sorted lt a i l':=by
 have hn:=S.nb
 have hw:qA.wrap ((i:Int)-(a:Int))=((i-a:Nat):Int):=(by rw [Qn (by omega) (by omega)];omega)
 by_cases c:2≤i-a
 ·have t0:=QjJ 0 db n cap (Mm enc H db l T) 0 a b i k (y11:=Ud) (y12:=Ud) (by rw [hw];omega)
  have t1:=QjL 0 db n cap (Mm enc H db l T) 0 a b i k (y11:=Ud) (y12:=Ud)
  rw [QJ (by omega) (by omega)] at t1
  have hk:Sp lt a i (i-1) l:=by
   have:=Ux (i:=i-1) hS
   rwa [show i-1+1=i by omega] at this
  obtain ⟨y,l',r,q1,q2⟩:=Qe4 S hL (cap:=cap) (k:=k) hT hi hb (i-1) l hl (by omega) (by omega) hD hF hk
  exact ⟨y,l',sq (t0) (RunsTo.cond (y:=.tmp 65) (t:=true) (c:=sn 59709 QA) (a:=sn 119418 QA) (b:=sn 119419 QA) (by kernel_rfl) rfl (sq (t1) (bke (c:=sn 238837 QA) (r)) (c:=sn 119418 QA))) (c:=sn 29854 QA),q1,q2⟩
 ·have t0:=QjK 0 db n cap (Mm enc H db l T) 0 a b i k (y11:=Ud) (y12:=Ud) (by rw [hw];omega)
  refine ⟨_,l,sq (t0) (RunsTo.cond (y:=.tmp 65) (t:=false) (c:=sn 59709 QA) (a:=sn 119418 QA) (b:=sn 119419 QA) (by kernel_rfl) rfl (RunsTo.skip (E:=(Zc (.sl db 0 n cap n 3) (.i (a:Int)) (.i (b:Int)) (.func 77 [] []) (.bool false) (.i (i:Int)) (.i (k:Int)) Ud Ud)) (by kernel_rfl) (by kernel_rfl))) (c:=sn 29854 QA),.refl,?_⟩
  rw [show i=a+1 by omega];exact Uz
theorem QoS (S:So enc lt dom H db n) {T:Heap} (hT:mxs T=0) {a b i k:Nat} {y0:HV} (hi:i<b) (hb:b≤n) {l:List α} (hl:l.length=n) (hD:Dm dom l) :
  ∃y y' l',RT polSo 101 (sn 29855 QA) (Zc (.sl db 0 n cap n 3) (.i (a:Int)) (.i (b:Int)) (.func 77 [] []) (.bool false) (.i (i:Int)) (.i (k:Int)) y0 Ud) (Mm enc H db l T) .normal (Zc (.sl db 0 n cap n 3) (.i (a:Int)) (.i (b:Int)) (.func 77 [] []) (.bool false) (.i (i:Int)) (.i (k:Int)) y y') (Mm enc H db l' T)∧Sw i b l l':=by
 have hn:=S.nb
 have hw:qA.wrap ((b:Int)-(i:Int))=((b-i:Nat):Int):=(by rw [Qn (by omega) (by omega)];omega)
 by_cases c:2≤b-i
 ·have t0:=QjP 0 db n cap (Mm enc H db l T) 0 a b i k (y11:=y0) (y12:=Ud) (by rw [hw];omega)
  have t1:=QjR 0 db n cap (Mm enc H db l T) 0 a b i k (y11:=y0) (y12:=Ud)
  rw [Qc (by omega)] at t1
  obtain ⟨y,l',r,q1⟩:=Qc6 S (cap:=cap) (a:=a) (i:=i) (k:=k) hT hb _ (i+1) l (qB _) hl (by omega) hD
  have r':=lpi (e0:=(Zc (.sl db 0 n cap n 3) (.i (a:Int)) (.i (b:Int)) (.func 77 [] []) (.bool false) (.i (i:Int)) (.i (k:Int)) y0 (.i ((i+1:Nat):Int)))) r (b:=sn 955380 QA)
  exact ⟨_,y,l',sq (t0) (RunsTo.cond (y:=.tmp 104) (t:=true) (c:=sn 59711 QA) (a:=sn 119422 QA) (b:=sn 119423 QA) (by kernel_rfl) rfl (sq (t1) (bke (c:=sn 238845 QA) (r')) (c:=sn 119422 QA))) (c:=sn 29855 QA),q1⟩
 ·have t0:=QjQ 0 db n cap (Mm enc H db l T) 0 a b i k (y11:=y0) (y12:=Ud) (by rw [hw];omega)
  exact ⟨_,_,l,sq (t0) (RunsTo.cond (y:=.tmp 104) (t:=false) (c:=sn 59711 QA) (a:=sn 119422 QA) (b:=sn 119423 QA) (by kernel_rfl) rfl (RunsTo.skip (E:=(Zc (.sl db 0 n cap n 3) (.i (a:Int)) (.i (b:Int)) (.func 77 [] []) (.bool false) (.i (i:Int)) (.i (k:Int)) y0 Ud)) (by kernel_rfl) (by kernel_rfl))) (c:=sn 29855 QA),.refl⟩
theorem Qe5 (S:So enc lt dom H db n) (hL:Lin lt) {T:Heap} (hT:mxs T=0) {a b:Nat} (hb:b≤n):∀(d k i:Nat) (l:List α),k+d=5→a<i→i≤b→l.length=n→Dm dom l→Flo lt a b l→Sorted lt a i l →
  ∃x E l',RT polSo 101 (sn 58 QA) (Zc (.sl db 0 n cap n 3) (.i (a:Int)) (.i (b:Int)) (.func 77 [] []) (.bool false) (.i (i:Int)) (.i (k:Int)) Ud Ud) (Mm enc H db l T) x E (Mm enc H db l' T)∧Sw a b l l'∧((x=.exit 0∧∃y5 y6:Nat,E=(Zc (.sl db 0 n cap n 3) (.i (a:Int)) (.i (b:Int)) (.func 77 [] []) (.bool false) (.i (y5:Int)) (.i (y6:Int)) Ud Ud))∨(x=.ret∧∃bb,Qf Tp Try.f101 E (Mm enc H db l' T)=some (.bool bb)∧(bb=true→Sorted lt a b l'))):=by
 have hn:=S.nb
 intro d
 induction d with
 | zero =>
  intro k i l hk ha hi hl hD hF hS
  exact ⟨_,_,l,lpo (sqo (QjB 0 db n cap (Mm enc H db l T) 0 a b i k (by omega) (y11:=Ud) (y12:=Ud)) (c:=sn 116 QA) (b:=sn 233 QA)),.refl,.inl ⟨rfl,_,_,rfl⟩⟩
 | succ d ih =>
  intro k i l hk ha hi hl hD hF hS
  have t0:=QjA 0 db n cap (Mm enc H db l T) 0 a b i k (by omega) (y11:=Ud) (y12:=Ud)
  obtain ⟨i',r,q1,q2,q3⟩:=Qe3 S hL (cap:=cap) (k:=k) hT hb hl hD _ i (qB _) ha hi hS
  by_cases c:i'=b
  ·have t1:=QjE 0 db n cap (Mm enc H db l T) 0 a b i' k (by omega) (y11:=Ud) (y12:=Ud)
   have st:=sq (t0) (sqo (RunsTo.block_ret (i:=1) (c:=sn 466 QA) (sq (bke (c:=sn 1864 QA) (r)) (sqo (t1) (c:=sn 1865 QA) (b:=sn 3731 QA)) (c:=sn 932 QA)) (by kernel_rfl)) (c:=sn 233 QA) (b:=sn 467 QA)) (c:=sn 116 QA)
   exact ⟨_,_,l,lpo (st),.refl,.inr ⟨rfl,true,by kernel_rfl,fun _=>c▸q2⟩⟩
  ·have t1:=QjF 0 db n cap (Mm enc H db l T) 0 a b i' k (by omega) (y11:=Ud) (y12:=Ud)
   have hw:qA.wrap ((b:Int)-(a:Int))=((b-a:Nat):Int):=(by rw [Qn (by omega) (by omega)];omega)
   by_cases c2:b-a<50
   ·have t2:=QjG 0 db n cap (Mm enc H db l T) 0 a b i' k (by rw [hw];omega) (y11:=Ud) (y12:=Ud)
    have st:=sq (t0) (sqo (RunsTo.block_ret (i:=1) (c:=sn 466 QA) (sq (bke (c:=sn 1864 QA) (r)) (sq (t1) (sqo (t2) (c:=sn 3731 QA) (b:=sn 7463 QA)) (c:=sn 1865 QA)) (c:=sn 932 QA)) (by kernel_rfl)) (c:=sn 233 QA) (b:=sn 467 QA)) (c:=sn 116 QA)
    exact ⟨_,_,l,lpo (st),.refl,.inr ⟨rfl,false,by kernel_rfl,fun h=>by cases h⟩⟩
   ·have t2:=QjH 0 db n cap (Mm enc H db l T) 0 a b i' k (by rw [hw];omega) (y11:=Ud) (y12:=Ud)
    have hp:qA.wrap ((i':Int)-1)=((i'-1:Nat):Int):=QJ (by omega) (by omega)
    obtain ⟨s1,s2⟩:=S.st2 (T:=T) hl (i:=i') (j:=i'-1) (by omega) (by omega)
    have t3:=QjI 0 db n cap (Mm enc H db l T) 0 a b i' k (y11:=Ud) (y12:=Ud) (ixs hp (by omega)) (S.ld l T _ hl (by omega)) (ixs (i:=i') rfl (by omega)) (S.ld l T _ hl (by omega)) (ixs (i:=i') rfl (by omega)) s1 (ixs hp (by omega)) s2
    have sw:Sw a b l (swp l i' (i'-1)):=Sw.one (by omega) (by omega) (by omega) (by omega)
    have hS1:Sorted lt a (i'-1) (swp l i' (i'-1)):=fun p q h1 h2 h3=>by
     rw [Uy (by omega) (by omega) (by omega) (by omega),Uy (by omega) (by omega) (by omega) (by omega)]
     exact q2 p q h1 h2 (by omega)
    have hl1:=Ww sw hl
    have hD1:=hD.sw sw (by omega)
    have hF1:=hF.sw (by omega) sw
    generalize swp l i' (i'-1)=l1 at t3 sw hS1 hl1 hD1 hF1 s2
    obtain ⟨y,l2,r2,w1,w2⟩:=QoR S hL (cap:=cap) (k:=k) hT q1.1 (by omega) hb hl1 hD1 hF1 hS1
    have hl2:=Ww w1 hl1
    have hD2:=hD1.sw w1 (by omega)
    have hF2:=hF1.sw (by omega) (w1.mono (qB _) (by omega))
    obtain ⟨y',y2,l3,r3,w3⟩:=QoS S (cap:=cap) (a:=a) (k:=k) (y0:=y) hT (i:=i') (by omega) hb hl2 hD2
    have hl3:=Ww w3 hl2
    have sw3:Sw a b l2 l3:=w3.mono (by omega) (qB _)
    have hS3:Sorted lt a i' l3:=fun p q h1 h2 h3=>by
     rw [w3.out (by omega) (k:=q) (by omega),w3.out (by omega) (k:=p) (by omega)]
     exact w2 p q h1 h2 h3
    have t6:=QjU 0 db n cap (Mm enc H db l3 T) 0 a b i' k (y11:=y') (y12:=y2)
    rw [Qc (by omega)] at t6
    have st:=sq (t0) (sq (RunsTo.block_normal (i:=1) (c:=sn 466 QA) (sq (bke (c:=sn 1864 QA) (r)) (sq (t1) (sq (t2) (sq (t3) (sq (r2) (r3) (c:=sn 14927 QA)) (c:=sn 7463 QA)) (c:=sn 3731 QA)) (c:=sn 1865 QA)) (c:=sn 932 QA)) (by kernel_rfl)) (t6) (c:=sn 233 QA)) (c:=sn 116 QA)
    obtain ⟨x,E,l',rr,z1,z2⟩:=ih (k+1) i' l3 (by omega) q1.1 q1.2 hl3 (hD2.sw w3 (by omega)) (hF2.sw (by omega) sw3) hS3
    exact ⟨x,E,l',lop (st) (gcM _ _ _ _ _ rfl) (rr),sw.trans ((w1.mono (qB _) (by omega)).trans (sw3.trans z1)),z2⟩
theorem QjX (S:So enc lt dom H db n) (hL:Lin lt) {T:Heap} (hT:mxs T=0) {a b:Nat} (hab:a<b) (hb:b≤n) {l:List α} (hl:l.length=n) (hD:Dm dom l) (hF:Flo lt a b l) :
  ∃bb l',ClS 101 [.sl db 0 n cap n 3,.int .i64 (a:Int),.int .i64 (b:Int),.func 77 [] []] (Mm enc H db l T) (.bool bb) (Mm enc H db l' T)∧Sw a b l l'∧(bb=true→Sorted lt a b l'):=by
 have hn:=S.nb
 have t0:=Qjx 0 db n cap (Mm enc H db l T) 0 a b
 have t1:=Qjy 0 db n cap (Mm enc H db l T) 0 a b (y9:=Ud) (y10:=Ud) (y11:=Ud) (y12:=Ud)
 rw [Qc (by omega)] at t1
 have t2:=Qjz 0 db n cap (Mm enc H db l T) 0 a b (a+1) (y10:=Ud) (y11:=Ud) (y12:=Ud)
 obtain ⟨x,E,l',r,q1,q2⟩:=Qe5 S hL (cap:=cap) hT hb 5 0 (a+1) l rfl (by omega) (by omega) hl hD hF Uz
 rcases q2 with ⟨rfl,y5,y6,rfl⟩ | ⟨rfl,bb,hv,hs⟩
 ·have z:=QjV 0 db n cap (Mm enc H db l' T) 0 a b y5 y6 (y11:=Ud) (y12:=Ud)
  have t:=sq (t0) (sq (t1) (sq (sq (t2) (bke (c:=sn 29 QA) (r)) (c:=sn 14 QA)) (z) (c:=sn 7 QA)) (c:=sn 3 QA)) (c:=QA)
  have hc:=CallsTo.shared (P:=Tp) (pol:=polSo) (g:=101) (fn:=Try.f101) (cd:=QA) (args:=[.sl db 0 n cap n 3,.int .i64 (a:Int),.int .i64 (b:Int),.func 77 [] []]) (v:=.bool false) (by kernel_rfl) (by kernel_rfl) (by kernel_rfl) (by kernel_rfl) t (by kernel_rfl) (by simp) (by kernel_rfl)
  rw [gcM _ _ _ _ _ rfl] at hc
  exact ⟨false,l',hc,q1,fun h=>by cases h⟩
 ·have t:=sq (t0) (sq (t1) (sqo (sq (t2) (RunsTo.block_ret (i:=0) (c:=sn 29 QA) (r) (by kernel_rfl)) (c:=sn 14 QA)) (c:=sn 7 QA) (b:=sn 15 QA)) (c:=sn 3 QA)) (c:=QA)
  have hc:=CallsTo.shared (P:=Tp) (pol:=polSo) (g:=101) (fn:=Try.f101) (cd:=QA) (args:=[.sl db 0 n cap n 3,.int .i64 (a:Int),.int .i64 (b:Int),.func 77 [] []]) (by kernel_rfl) (by kernel_rfl) (by kernel_rfl) (by kernel_rfl) t (by kernel_rfl) (by simp) hv
  rw [gcM _ _ _ _ _ rfl] at hc
  exact ⟨bb,l',hc,q1,hs⟩
end
end Go.Proofs.Ytlendaofkmhgmaa
end
section
open Go Go.HL
namespace Go.Proofs.Ytlendaofkmhgmaa
set_option maxRecDepth 100000
set_option linter.unusedSectionVars false
open Go.Proofs.Try renaming prog → Tp
open Go.HL.HV renaming undef → Ud
noncomputable def Qe6:Code:=Try.f113.body.getD .skip
abbrev Qc7 (v0 v1 v2 v3 v4 v10 v11:HV):Env:=[(0,v0),(1,v1),(2,v2),(3,v3),(4,v4),(10,v10),(11,v11)]
theorem QjY (N:Nat) (db n:Nat) (cap:Option Nat) (H:Heap) (x:Nat) (a:Nat) (b:Nat) {a0:HV} {v0:HV} {a1:HV} {v1:HV} {c0:Int} {H0:Heap} {x0:Int} {H1:Heap} (g0:IX 88 (.sl db 0 n cap n 3) (.n b) (a0)) (g1:LD H 91 (a0) (v0)) (g2:IX 88 (.sl db 0 n cap n 3) (.n a) (a1)) (g3:LD H 91 (a1) (v1)) (g4:∀kf,N≤kf→Qa Tp polSo (kf+1) 77 [v0,v1] H=some (.i c0,H0)) (g5:c0<0) (g6:LD H0 3 (.q x) (.i x0)) (g7:ST H0 3 (.q x) (.i (qA.wrap (x0+1))) H1): RT polSo 113 (sub [] Qe6) [(0,.sl db 0 n cap n 3),(1,.n a),(2,.n b),(3,.q x),(4,.func 77 [] [])] H .ret (Qc7 (.sl db 0 n cap n 3) (.n a) (.n b) (.q x) (.func 77 [] []) (.n b) (.n a)) H1 :=
 hx N 60 [jO 1 3 H g0,jO 1 4 H g1,jO 1 7 H g2,jO 1 8 H g3,jC 1 9 g4,jT 1 10 H0 g5,jO 2 2 H0 g6,jS 2 5 g7]
theorem QjZ (N:Nat) (db n:Nat) (cap:Option Nat) (H:Heap) (x:Nat) (a:Nat) (b:Nat) {a0:HV} {v0:HV} {a1:HV} {v1:HV} {c0:Int} {H0:Heap} (g0:IX 88 (.sl db 0 n cap n 3) (.n b) (a0)) (g1:LD H 91 (a0) (v0)) (g2:IX 88 (.sl db 0 n cap n 3) (.n a) (a1)) (g3:LD H 91 (a1) (v1)) (g4:∀kf,N≤kf→Qa Tp polSo (kf+1) 77 [v0,v1] H=some (.i c0,H0)) (g5:¬(c0<0)): RT polSo 113 (sub [] Qe6) [(0,.sl db 0 n cap n 3),(1,.n a),(2,.n b),(3,.q x),(4,.func 77 [] [])] H .ret (Qc7 (.sl db 0 n cap n 3) (.n a) (.n b) (.q x) (.func 77 [] []) (.n a) (.n b)) H0 :=
 hx N 60 [jO 1 3 H g0,jO 1 4 H g1,jO 1 7 H g2,jO 1 8 H g3,jC 1 9 g4,jF 1 10 H0 g5]
noncomputable def Qn1:Code:=Try.f111.body.getD .skip
abbrev Qj0 (v0 v1 v2 v3 v4 v5 v12:HV):Env:=[(0,v0),(1,v1),(2,v2),(3,v3),(4,v4),(5,v5),(12,v12)]
theorem Qj1 (N:Nat) (db n:Nat) (cap:Option Nat) (H:Heap) (x:Nat) (a:Nat) (b:Nat) (q:Nat) {p0:Int} {p1:Int} {H0:Heap} {p2:Int} {p3:Int} {H1:Heap} {p4:Int} {p5:Int} {H2:Heap} (g0:∀kf,N≤kf→Qa Tp polSo (kf+1) 113 [.sl db 0 n cap n 3,.n a,.n b,.q x,.func 77 [] []] H=some (.tuple [.i p0,.i p1],H0)) (g1:∀kf,N≤kf→Qa Tp polSo (kf+1) 113 [.sl db 0 n cap n 3,.i p1,.n q,.q x,.func 77 [] []] H0=some (.tuple [.i p2,.i p3],H1)) (g2:∀kf,N≤kf→Qa Tp polSo (kf+1) 113 [.sl db 0 n cap n 3,.i p0,.i p2,.q x,.func 77 [] []] H1=some (.tuple [.i p4,.i p5],H2)): RT polSo 111 (sub [] Qn1) [(0,.sl db 0 n cap n 3),(1,.n a),(2,.n b),(3,.n q),(4,.q x),(5,.func 77 [] [])] H .ret (Qj0 (.sl db 0 n cap n 3) (.i p4) (.i p5) (.i p3) (.q x) (.func 77 [] []) (.i p5)) H2 :=
 hx N 60 [jC 1 5 g0,jC 2 5 g1,jC 3 5 g2]
noncomputable def Qn2:Code:=Try.f110.body.getD .skip
abbrev Qj2 (v0 v1 v2 v3 v8:HV):Env:=[(0,v0),(1,v1),(2,v2),(3,v3),(8,v8)]
theorem Qj3 (N:Nat) (db n:Nat) (cap:Option Nat) (H:Heap) (x:Nat) (a:Nat) {p0:Int} {H0:Heap} (g0:∀kf,N≤kf→Qa Tp polSo (kf+1) 111 [.sl db 0 n cap n 3,.i (qA.wrap ((a:Int)-1)),.n a,.i (qA.wrap ((a:Int)+1)),.q x,.func 77 [] []] H=some (.i p0,H0)): RT polSo 110 (sub [] Qn2) [(0,.sl db 0 n cap n 3),(1,.n a),(2,.q x),(3,.func 77 [] [])] H .ret (Qj2 (.sl db 0 n cap n 3) (.n a) (.q x) (.func 77 [] []) (.i p0)) H0 :=
 hx N 60 [jC 1 8 g0]
noncomputable def B99:Code:=Try.f99.body.getD .skip
abbrev Qn3 (v0 v1 v2 v3 v8 v9 v10 v11 v12 v13 v14 v55:HV):Env:=[(0,v0),(1,v1),(2,v2),(3,v3),(8,v8),(9,v9),(10,v10),(11,v11),(12,v12),(13,v13),(14,v14),(55,v55)]
abbrev e99 (db:Nat) (n:Nat) (cap:Option Nat) (a:Nat) (b:Nat) (x:Nat) (u4 u5 u6 u8 u9 u10 u11:HV):Env:=Qn3 (.sl db 0 n cap n 3) (.n a) (.n b) (.func 77 [] []) u4 u5 u6 (.q x) u8 u9 u10 u11
section
variable (N:Nat) (db n:Nat) (cap:Option Nat) (H:Heap) (x:Nat) (a:Nat) (b:Nat)
include N db n cap H x a b
theorem Qj4 {H0:Heap} {p0:Int} {H1:Heap} {p1:Int} {H2:Heap} {p2:Int} {H3:Heap} {p3:Int} {H4:Heap} {x0:Int} (g0:some (Wm (.i 0) H)=some (.q x,H0)) (g1:8≤qA.wrap ((b:Int)-(a:Int))) (g2:50≤qA.wrap ((b:Int)-(a:Int))) (g3:∀kf,N≤kf→Qa Tp polSo (kf+1) 110 [.sl db 0 n cap n 3,.i (qA.wrap ((a:Int)+qA.wrap (qA.wrap ((qA.wrap ((b:Int)-(a:Int)):Int).tdiv 4)*1))),.q x,.func 77 [] []] H0=some (.i p0,H1)) (g4:∀kf,N≤kf→Qa Tp polSo (kf+1) 110 [.sl db 0 n cap n 3,.i (qA.wrap ((a:Int)+qA.wrap (qA.wrap ((qA.wrap ((b:Int)-(a:Int)):Int).tdiv 4)*2))),.q x,.func 77 [] []] H1=some (.i p1,H2)) (g5:∀kf,N≤kf→Qa Tp polSo (kf+1) 110 [.sl db 0 n cap n 3,.i (qA.wrap ((a:Int)+qA.wrap (qA.wrap ((qA.wrap ((b:Int)-(a:Int)):Int).tdiv 4)*3))),.q x,.func 77 [] []] H2=some (.i p2,H3)) (g6:∀kf,N≤kf→Qa Tp polSo (kf+1) 111 [.sl db 0 n cap n 3,.i p0,.i p1,.i p2,.q x,.func 77 [] []] H3=some (.i p3,H4)) (g7:LD H4 3 (.q x) (.i x0)) (g8:x0=0): RT polSo 99 (sub [] B99) [(0,.sl db 0 n cap n 3),(1,.n a),(2,.n b),(3,.func 77 [] [])] H .ret (e99 db n cap a b x (.i p3) (.i 1) (.i (qA.wrap ((b:Int)-(a:Int)))) (.i p0) (.i p3) (.i p2) (.i x0)) H4 :=
 hx N 60 [jR 2 0 g0,jT 6 1 H0 g1,jT 7 1 H0 g2,jC 8 3 g3,jC 9 3 g4,jC 10 3 g5,jC 11 5 g6,jO 12 0 H4 g7,jT 14 0 H4 g8]
end
section
variable (N:Nat) (db n:Nat) (cap:Option Nat) (H:Heap) (x:Nat) (a:Nat) (b:Nat)
include N db n cap H x a b
theorem Qj5 {H0:Heap} {p0:Int} {H1:Heap} {p1:Int} {H2:Heap} {p2:Int} {H3:Heap} {p3:Int} {H4:Heap} {x0:Int} (g0:some (Wm (.i 0) H)=some (.q x,H0)) (g1:8≤qA.wrap ((b:Int)-(a:Int))) (g2:50≤qA.wrap ((b:Int)-(a:Int))) (g3:∀kf,N≤kf→Qa Tp polSo (kf+1) 110 [.sl db 0 n cap n 3,.i (qA.wrap ((a:Int)+qA.wrap (qA.wrap ((qA.wrap ((b:Int)-(a:Int)):Int).tdiv 4)*1))),.q x,.func 77 [] []] H0=some (.i p0,H1)) (g4:∀kf,N≤kf→Qa Tp polSo (kf+1) 110 [.sl db 0 n cap n 3,.i (qA.wrap ((a:Int)+qA.wrap (qA.wrap ((qA.wrap ((b:Int)-(a:Int)):Int).tdiv 4)*2))),.q x,.func 77 [] []] H1=some (.i p1,H2)) (g5:∀kf,N≤kf→Qa Tp polSo (kf+1) 110 [.sl db 0 n cap n 3,.i (qA.wrap ((a:Int)+qA.wrap (qA.wrap ((qA.wrap ((b:Int)-(a:Int)):Int).tdiv 4)*3))),.q x,.func 77 [] []] H2=some (.i p2,H3)) (g6:∀kf,N≤kf→Qa Tp polSo (kf+1) 111 [.sl db 0 n cap n 3,.i p0,.i p1,.i p2,.q x,.func 77 [] []] H3=some (.i p3,H4)) (g7:LD H4 3 (.q x) (.i x0)) (g8:¬(x0=0)) (g9:x0=12): RT polSo 99 (sub [] B99) [(0,.sl db 0 n cap n 3),(1,.n a),(2,.n b),(3,.func 77 [] [])] H .ret (e99 db n cap a b x (.i p3) (.i 2) (.i (qA.wrap ((b:Int)-(a:Int)))) (.i p0) (.i p3) (.i p2) (.i x0)) H4 :=
 hx N 60 [jR 2 0 g0,jT 6 1 H0 g1,jT 7 1 H0 g2,jC 8 3 g3,jC 9 3 g4,jC 10 3 g5,jC 11 5 g6,jO 12 0 H4 g7,jF 14 0 H4 g8,jT 16 0 H4 g9]
theorem Qj6 {H0:Heap} {p0:Int} {H1:Heap} {p1:Int} {H2:Heap} {p2:Int} {H3:Heap} {p3:Int} {H4:Heap} {x0:Int} (g0:some (Wm (.i 0) H)=some (.q x,H0)) (g1:8≤qA.wrap ((b:Int)-(a:Int))) (g2:50≤qA.wrap ((b:Int)-(a:Int))) (g3:∀kf,N≤kf→Qa Tp polSo (kf+1) 110 [.sl db 0 n cap n 3,.i (qA.wrap ((a:Int)+qA.wrap (qA.wrap ((qA.wrap ((b:Int)-(a:Int)):Int).tdiv 4)*1))),.q x,.func 77 [] []] H0=some (.i p0,H1)) (g4:∀kf,N≤kf→Qa Tp polSo (kf+1) 110 [.sl db 0 n cap n 3,.i (qA.wrap ((a:Int)+qA.wrap (qA.wrap ((qA.wrap ((b:Int)-(a:Int)):Int).tdiv 4)*2))),.q x,.func 77 [] []] H1=some (.i p1,H2)) (g5:∀kf,N≤kf→Qa Tp polSo (kf+1) 110 [.sl db 0 n cap n 3,.i (qA.wrap ((a:Int)+qA.wrap (qA.wrap ((qA.wrap ((b:Int)-(a:Int)):Int).tdiv 4)*3))),.q x,.func 77 [] []] H2=some (.i p2,H3)) (g6:∀kf,N≤kf→Qa Tp polSo (kf+1) 111 [.sl db 0 n cap n 3,.i p0,.i p1,.i p2,.q x,.func 77 [] []] H3=some (.i p3,H4)) (g7:LD H4 3 (.q x) (.i x0)) (g8:¬(x0=0)) (g9:¬(x0=12)): RT polSo 99 (sub [] B99) [(0,.sl db 0 n cap n 3),(1,.n a),(2,.n b),(3,.func 77 [] [])] H .ret (e99 db n cap a b x (.i p3) (.i 0) (.i (qA.wrap ((b:Int)-(a:Int)))) (.i p0) (.i p3) (.i p2) (.i x0)) H4 :=
 hx N 60 [jR 2 0 g0,jT 6 1 H0 g1,jT 7 1 H0 g2,jC 8 3 g3,jC 9 3 g4,jC 10 3 g5,jC 11 5 g6,jO 12 0 H4 g7,jF 14 0 H4 g8,jF 16 0 H4 g9]
theorem Qj7 {H0:Heap} {p0:Int} {H1:Heap} {x0:Int} (g0:some (Wm (.i 0) H)=some (.q x,H0)) (g1:8≤qA.wrap ((b:Int)-(a:Int))) (g2:¬(50≤qA.wrap ((b:Int)-(a:Int)))) (g3:∀kf,N≤kf→Qa Tp polSo (kf+1) 111 [.sl db 0 n cap n 3,.i (qA.wrap ((a:Int)+qA.wrap (qA.wrap ((qA.wrap ((b:Int)-(a:Int)):Int).tdiv 4)*1))),.i (qA.wrap ((a:Int)+qA.wrap (qA.wrap ((qA.wrap ((b:Int)-(a:Int)):Int).tdiv 4)*2))),.i (qA.wrap ((a:Int)+qA.wrap (qA.wrap ((qA.wrap ((b:Int)-(a:Int)):Int).tdiv 4)*3))),.q x,.func 77 [] []] H0=some (.i p0,H1)) (g4:LD H1 3 (.q x) (.i x0)) (g5:x0=0): RT polSo 99 (sub [] B99) [(0,.sl db 0 n cap n 3),(1,.n a),(2,.n b),(3,.func 77 [] [])] H .ret (e99 db n cap a b x (.i p0) (.i 1) (.i (qA.wrap ((b:Int)-(a:Int)))) (.i (qA.wrap ((a:Int)+qA.wrap (qA.wrap ((qA.wrap ((b:Int)-(a:Int)):Int).tdiv 4)*1)))) (.i p0) (.i (qA.wrap ((a:Int)+qA.wrap (qA.wrap ((qA.wrap ((b:Int)-(a:Int)):Int).tdiv 4)*3)))) (.i x0)) H1 :=
 hx N 60 [jR 2 0 g0,jT 6 1 H0 g1,jF 7 1 H0 g2,jC 11 5 g3,jO 12 0 H1 g4,jT 14 0 H1 g5]
theorem Qj8 {H0:Heap} {p0:Int} {H1:Heap} {x0:Int} (g0:some (Wm (.i 0) H)=some (.q x,H0)) (g1:8≤qA.wrap ((b:Int)-(a:Int))) (g2:¬(50≤qA.wrap ((b:Int)-(a:Int)))) (g3:∀kf,N≤kf→Qa Tp polSo (kf+1) 111 [.sl db 0 n cap n 3,.i (qA.wrap ((a:Int)+qA.wrap (qA.wrap ((qA.wrap ((b:Int)-(a:Int)):Int).tdiv 4)*1))),.i (qA.wrap ((a:Int)+qA.wrap (qA.wrap ((qA.wrap ((b:Int)-(a:Int)):Int).tdiv 4)*2))),.i (qA.wrap ((a:Int)+qA.wrap (qA.wrap ((qA.wrap ((b:Int)-(a:Int)):Int).tdiv 4)*3))),.q x,.func 77 [] []] H0=some (.i p0,H1)) (g4:LD H1 3 (.q x) (.i x0)) (g5:¬(x0=0)) (g6:x0=12): RT polSo 99 (sub [] B99) [(0,.sl db 0 n cap n 3),(1,.n a),(2,.n b),(3,.func 77 [] [])] H .ret (e99 db n cap a b x (.i p0) (.i 2) (.i (qA.wrap ((b:Int)-(a:Int)))) (.i (qA.wrap ((a:Int)+qA.wrap (qA.wrap ((qA.wrap ((b:Int)-(a:Int)):Int).tdiv 4)*1)))) (.i p0) (.i (qA.wrap ((a:Int)+qA.wrap (qA.wrap ((qA.wrap ((b:Int)-(a:Int)):Int).tdiv 4)*3)))) (.i x0)) H1 :=
 hx N 60 [jR 2 0 g0,jT 6 1 H0 g1,jF 7 1 H0 g2,jC 11 5 g3,jO 12 0 H1 g4,jF 14 0 H1 g5,jT 16 0 H1 g6]
theorem Qj9 {H0:Heap} {p0:Int} {H1:Heap} {x0:Int} (g0:some (Wm (.i 0) H)=some (.q x,H0)) (g1:8≤qA.wrap ((b:Int)-(a:Int))) (g2:¬(50≤qA.wrap ((b:Int)-(a:Int)))) (g3:∀kf,N≤kf→Qa Tp polSo (kf+1) 111 [.sl db 0 n cap n 3,.i (qA.wrap ((a:Int)+qA.wrap (qA.wrap ((qA.wrap ((b:Int)-(a:Int)):Int).tdiv 4)*1))),.i (qA.wrap ((a:Int)+qA.wrap (qA.wrap ((qA.wrap ((b:Int)-(a:Int)):Int).tdiv 4)*2))),.i (qA.wrap ((a:Int)+qA.wrap (qA.wrap ((qA.wrap ((b:Int)-(a:Int)):Int).tdiv 4)*3))),.q x,.func 77 [] []] H0=some (.i p0,H1)) (g4:LD H1 3 (.q x) (.i x0)) (g5:¬(x0=0)) (g6:¬(x0=12)): RT polSo 99 (sub [] B99) [(0,.sl db 0 n cap n 3),(1,.n a),(2,.n b),(3,.func 77 [] [])] H .ret (e99 db n cap a b x (.i p0) (.i 0) (.i (qA.wrap ((b:Int)-(a:Int)))) (.i (qA.wrap ((a:Int)+qA.wrap (qA.wrap ((qA.wrap ((b:Int)-(a:Int)):Int).tdiv 4)*1)))) (.i p0) (.i (qA.wrap ((a:Int)+qA.wrap (qA.wrap ((qA.wrap ((b:Int)-(a:Int)):Int).tdiv 4)*3)))) (.i x0)) H1 :=
 hx N 60 [jR 2 0 g0,jT 6 1 H0 g1,jF 7 1 H0 g2,jC 11 5 g3,jO 12 0 H1 g4,jF 14 0 H1 g5,jF 16 0 H1 g6]
end
noncomputable def Qn4:Code:=Try.f106.body.getD .skip
abbrev Qka (v0 v2:HV):Env:=[(0,v0),(2,v2)]
theorem Qkb (N:Nat) (db n:Nat) (cap:Option Nat) (H:Heap) (x:Nat) {x0:Int} {x1:Int} {h0:Int} {h1:Int} {H0:Heap} {x2:Int} {x3:Int} {h2:Int} {h3:Int} {H1:Heap} {x4:Int} {x5:Int} {h4:Int} {h5:Int} {H2:Heap} {x6:Int} (g0:LD H 128 (.q x) (.int .u64 x0)) (g1:LD H 128 (.q x) (.int .u64 x1)) (g2:BV .shl 128 (.int .u64 x1) (.int .u64 13) (.int .u64 h0)) (g3:BV .xor 128 (.int .u64 x0) (.int .u64 h0) (.int .u64 h1)) (g4:ST H 128 (.q x) (.int .u64 h1) H0) (g5:LD H0 128 (.q x) (.int .u64 x2)) (g6:LD H0 128 (.q x) (.int .u64 x3)) (g7:BV .shr 128 (.int .u64 x3) (.int .u64 7) (.int .u64 h2)) (g8:BV .xor 128 (.int .u64 x2) (.int .u64 h2) (.int .u64 h3)) (g9:ST H0 128 (.q x) (.int .u64 h3) H1) (g10:LD H1 128 (.q x) (.int .u64 x4)) (g11:LD H1 128 (.q x) (.int .u64 x5)) (g12:BV .shl 128 (.int .u64 x5) (.int .u64 17) (.int .u64 h4)) (g13:BV .xor 128 (.int .u64 x4) (.int .u64 h4) (.int .u64 h5)) (g14:ST H1 128 (.q x) (.int .u64 h5) H2) (g15:LD H2 128 (.q x) (.int .u64 x6)): RT polSo 106 (sub [] Qn4) [(0,.q x)] H .ret (Qka (.q x) (.int .u64 x6)) H2 :=
 hx N 60 [jO 1 2 H g0,jO 1 5 H g1,jO 1 6 H g2,jO 1 7 H g3,jS 1 9 g4,jO 2 2 H0 g5,jO 2 5 H0 g6,jO 2 6 H0 g7,jO 2 7 H0 g8,jS 2 9 g9,jO 3 2 H1 g10,jO 3 5 H1 g11,jO 3 6 H1 g12,jO 3 7 H1 g13,jS 3 9 g14,jO 4 2 H2 g15]
noncomputable def B98:Code:=Try.f98.body.getD .skip
abbrev Yy (v0 v1 v2 v8 v9 v10 v11 v12:HV):Env:=[(0,v0),(1,v1),(2,v2),(8,v8),(9,v9),(10,v10),(11,v11),(12,v12)]
abbrev e98 (db:Nat) (n:Nat) (cap:Option Nat) (a:Nat) (b:Nat) (k:Nat) (u4 u5 u6 u7:HV):Env:=Yy (.sl db 0 n cap n 3) (.n a) (.n b) (.n k) u4 u5 u6 u7
section
variable (N:Nat) (db n:Nat) (cap:Option Nat) (H:Heap) (x:Nat) (a:Nat) (b:Nat)
include N db n cap H x a b
theorem Qkc:RT polSo 98 (sn 2 B98) [(0,.sl db 0 n cap n 3),(1,.n a),(2,.n b),(3,.func 77 [] [])] H .normal (Yy (.sl db 0 n cap n 3) (.n a) (.n b) (.i (qA.wrap ((b:Int)-(a:Int)))) Ud Ud Ud Ud) H :=
 hx N 60 []
end
section
variable (N:Nat) (db n:Nat) (cap:Option Nat) (H:Heap) (x:Nat) (a:Nat) (b:Nat)
include N db n cap H x a b
theorem Qkd (k:Nat) {y9 y10 y11 y12:HV} (g0:8≤(k:Int)): RunsTo Tp polSo 98 (sn 6 B98) (e98 db n cap a b k y9 y10 y11 y12) H .normal [0,1,2,8,9,10,11,12,17] [(0,.sl db 0 n cap n 3),(1,.n a),(2,.n b),(8,.n k),(9,y9),(10,y10),(11,y11),(12,y12),(17,.bool true)] H :=
 hx N 60 [jT 1 1 H g0]
theorem Qke (k:Nat) {y9 y10 y11 y12:HV} {H0:Heap} {H1:Heap} (g0:some (Wm (.int .u64 0) H)=some (.q x,H0)) (g1:ST H0 128 (.q x) (.int .u64 (IntKind.u64.wrap (k:Int))) H1): RT polSo 98 (sn 28 B98) (e98 db n cap a b k y9 y10 y11 y12) H .normal (e98 db n cap a b k (.q x) y10 y11 y12) H1 :=
 hx N 60 [jR 2 2 g0,jS 2 3 g1]
theorem Qkf (k:Nat) {y10 y11 y12:HV} {u0:Int} {H0:Heap} (g0:∀kf,N≤kf→Qa Tp polSo (kf+1) 105 [.n k] H=some (.int .u64 u0,H0)): RT polSo 98 (sn 58 B98) (e98 db n cap a b k (.q x) y10 y11 y12) H .normal (e98 db n cap a b k (.q x) (.int .u64 u0) y11 y12) H0 :=
 hx N 60 [jC 3 1 g0]
theorem Qkg (k:Nat) (mo:Int) {y11 y12:HV}: RT polSo 98 (sn 118 B98) (e98 db n cap a b k (.q x) (.int .u64 mo) y11 y12) H .normal (e98 db n cap a b k (.q x) (.int .u64 mo) (.i (qA.wrap (qA.wrap ((a:Int)+qA.wrap (qA.wrap (((k:Int):Int).tdiv 4)*2))-1))) y12) H :=
 hx N 60 []
theorem Qkh (k:Nat) (mo:Int) (i:Nat) {y12:HV} {u0:Int} {H0:Heap} {h0:Int} {a0:HV} {v0:HV} {a1:HV} {v1:HV} {a2:HV} {H1:Heap} {a3:HV} {H2:Heap} (g0:(i:Int)≤qA.wrap (qA.wrap ((a:Int)+qA.wrap (qA.wrap (((k:Int):Int).tdiv 4)*2))+1)) (g1:∀kf,N≤kf→Qa Tp polSo (kf+1) 106 [.q x] H=some (.int .u64 u0,H0)) (g2:BV .and 81 (.int .u64 u0) (.int .u64 (IntKind.u64.wrap (mo-1))) (.int .u64 h0)) (g3:(k:Int)≤qA.wrap h0) (g4:IX 88 (.sl db 0 n cap n 3) (.i (qA.wrap ((a:Int)+qA.wrap (qA.wrap h0-(k:Int))))) (a0)) (g5:LD H0 91 (a0) (v0)) (g6:IX 88 (.sl db 0 n cap n 3) (.n i) (a1)) (g7:LD H0 91 (a1) (v1)) (g8:IX 88 (.sl db 0 n cap n 3) (.n i) (a2)) (g9:ST H0 91 (a2) (v0) H1) (g10:IX 88 (.sl db 0 n cap n 3) (.i (qA.wrap ((a:Int)+qA.wrap (qA.wrap h0-(k:Int))))) (a3)) (g11:ST H1 91 (a3) (v1) H2): RT polSo 98 (sn 476 B98) (e98 db n cap a b k (.q x) (.int .u64 mo) (.n i) y12) H .normal (e98 db n cap a b k (.q x) (.int .u64 mo) (.i (qA.wrap ((i:Int)+1))) (.i (qA.wrap (qA.wrap h0-(k:Int))))) H2 :=
 hx N 60 [jT 5 7 H g0,jC 7 0 g1,jO 7 3 H0 g2,jT 8 2 H0 g3,jO 10 10 H0 g4,jO 10 11 H0 g5,jO 10 14 H0 g6,jO 10 15 H0 g7,jO 10 16 H0 g8,jS 10 17 g9,jO 10 18 H1 g10,jS 10 19 g11]
theorem Qki (k:Nat) (mo:Int) (i:Nat) {y12:HV} {u0:Int} {H0:Heap} {h0:Int} {a0:HV} {v0:HV} {a1:HV} {v1:HV} {a2:HV} {H1:Heap} {a3:HV} {H2:Heap} (g0:(i:Int)≤qA.wrap (qA.wrap ((a:Int)+qA.wrap (qA.wrap (((k:Int):Int).tdiv 4)*2))+1)) (g1:∀kf,N≤kf→Qa Tp polSo (kf+1) 106 [.q x] H=some (.int .u64 u0,H0)) (g2:BV .and 81 (.int .u64 u0) (.int .u64 (IntKind.u64.wrap (mo-1))) (.int .u64 h0)) (g3:¬((k:Int)≤qA.wrap h0)) (g4:IX 88 (.sl db 0 n cap n 3) (.i (qA.wrap ((a:Int)+qA.wrap h0))) (a0)) (g5:LD H0 91 (a0) (v0)) (g6:IX 88 (.sl db 0 n cap n 3) (.n i) (a1)) (g7:LD H0 91 (a1) (v1)) (g8:IX 88 (.sl db 0 n cap n 3) (.n i) (a2)) (g9:ST H0 91 (a2) (v0) H1) (g10:IX 88 (.sl db 0 n cap n 3) (.i (qA.wrap ((a:Int)+qA.wrap h0))) (a3)) (g11:ST H1 91 (a3) (v1) H2): RT polSo 98 (sn 476 B98) (e98 db n cap a b k (.q x) (.int .u64 mo) (.n i) y12) H .normal (e98 db n cap a b k (.q x) (.int .u64 mo) (.i (qA.wrap ((i:Int)+1))) (.i (qA.wrap h0))) H2 :=
 hx N 60 [jT 5 7 H g0,jC 7 0 g1,jO 7 3 H0 g2,jF 8 2 H0 g3,jO 10 10 H0 g4,jO 10 11 H0 g5,jO 10 14 H0 g6,jO 10 15 H0 g7,jO 10 16 H0 g8,jS 10 17 g9,jO 10 18 H1 g10,jS 10 19 g11]
theorem Qkj (k:Nat) (mo:Int) (i:Nat) {y12:HV} (g0:¬((i:Int)≤qA.wrap (qA.wrap ((a:Int)+qA.wrap (qA.wrap (((k:Int):Int).tdiv 4)*2))+1))): RT polSo 98 (sn 476 B98) (e98 db n cap a b k (.q x) (.int .u64 mo) (.n i) y12) H (.exit 0) (e98 db n cap a b k (.q x) (.int .u64 mo) (.n i) y12) H :=
 hx N 60 [jF 5 7 H g0]
end
noncomputable def B83:Code:=Try.f83.body.getD .skip
abbrev WE (v0 v1 v2 v3 v4 v10 v11 v12 v13 v14 v15 v16 v17 v18 v19 v20:HV):Env:=[(0,v0),(1,v1),(2,v2),(3,v3),(4,v4),(10,v10),(11,v11),(12,v12),(13,v13),(14,v14),(15,v15),(16,v16),(17,v17),(18,v18),(19,v19),(20,v20)]
abbrev e83 (db:Nat) (n:Nat) (cap:Option Nat) (a:Nat) (b:Nat) (lim:Int) (u5 u6 u7 u8 u9 u10 u11 u12 u13 u14 u15:HV):Env:=WE (.sl db 0 n cap n 3) (.n a) (.n b) (.i lim) (.func 77 [] []) u5 u6 u7 u8 u9 u10 u11 u12 u13 u14 u15
section
variable (N:Nat) (db n:Nat) (cap:Option Nat) (H:Heap) (x:Nat) (a:Nat) (b:Nat) (lim:Int)
include N db n cap H x a b lim
theorem Qkk:RT polSo 83 (sn 2 B83) [(0,.sl db 0 n cap n 3),(1,.n a),(2,.n b),(3,.i lim),(4,.func 77 [] [])] H .normal (e83 db n cap a b lim (.bool true) Ud Ud Ud Ud Ud Ud Ud Ud Ud Ud) H :=
 hx N 60 []
end
section
variable (N:Nat) (db n:Nat) (cap:Option Nat) (H:Heap) (x:Nat) (a:Nat) (b:Nat) (lim:Int)
include N db n cap H x a b lim
theorem Qkl {y10 y11 y12 y13 y14 y15 y16 y17 y18 y19 y20:HV}: RT polSo 83 (sn 6 B83) (e83 db n cap a b lim y10 y11 y12 y13 y14 y15 y16 y17 y18 y19 y20) H .normal (e83 db n cap a b lim y10 (.bool true) y12 y13 y14 y15 y16 y17 y18 y19 y20) H :=
 hx N 60 []
theorem Qkm {y10 y11 y12 y13 y14 y15 y16 y17 y18 y19 y20:HV}: RT polSo 83 (sn 112 B83) (e83 db n cap a b lim y10 y11 y12 y13 y14 y15 y16 y17 y18 y19 y20) H .normal (e83 db n cap a b lim y10 y11 (.i (qA.wrap ((b:Int)-(a:Int)))) y13 y14 y15 y16 y17 y18 y19 y20) H :=
 hx N 60 []
theorem Qkn (k:Nat) {y10 y11 y13 y14 y15 y16 y17 y18 y19 y20:HV} {H0:Heap} (g0:(k:Int)≤12) (g1:∀kf,N≤kf→Qa Tp polSo (kf+1) 96 [.sl db 0 n cap n 3,.n a,.n b,.func 77 [] []] H=some (.tuple [],H0)): RT polSo 83 (sn 226 B83) (e83 db n cap a b lim y10 y11 (.n k) y13 y14 y15 y16 y17 y18 y19 y20) H .ret (e83 db n cap a b lim y10 y11 (.n k) y13 y14 y15 y16 y17 y18 y19 y20) H0 :=
 hx N 60 [jT 3 1 H g0,jC 4 4 g1]
theorem Qko (k:Nat) {y10 y11 y13 y14 y15 y16 y17 y18 y19 y20:HV} (g0:¬((k:Int)≤12)): RT polSo 83 (sn 226 B83) (e83 db n cap a b lim y10 y11 (.n k) y13 y14 y15 y16 y17 y18 y19 y20) H .normal (e83 db n cap a b lim y10 y11 (.n k) y13 y14 y15 y16 y17 y18 y19 y20) H :=
 hx N 60 [jF 3 1 H g0]
theorem Qkp {y10 y11 y12 y13 y14 y15 y16 y17 y18 y19 y20:HV} {H0:Heap} (g0:lim=0) (g1:∀kf,N≤kf→Qa Tp polSo (kf+1) 97 [.sl db 0 n cap n 3,.n a,.n b,.func 77 [] []] H=some (.tuple [],H0)): RT polSo 83 (sn 454 B83) (e83 db n cap a b lim y10 y11 y12 y13 y14 y15 y16 y17 y18 y19 y20) H .ret (e83 db n cap a b lim y10 y11 y12 y13 y14 y15 y16 y17 y18 y19 y20) H0 :=
 hx N 60 [jT 5 1 H g0,jC 6 4 g1]
theorem Qkq {y10 y11 y12 y13 y14 y15 y16 y17 y18 y19 y20:HV} (g0:¬(lim=0)): RT polSo 83 (sn 454 B83) (e83 db n cap a b lim y10 y11 y12 y13 y14 y15 y16 y17 y18 y19 y20) H .normal (e83 db n cap a b lim y10 y11 y12 y13 y14 y15 y16 y17 y18 y19 y20) H :=
 hx N 60 [jF 5 1 H g0]
theorem Qkr {y11 y12 y13 y14 y15 y16 y17 y18 y19 y20:HV}: RT polSo 83 (sn 910 B83) (e83 db n cap a b lim (.bool true) y11 y12 y13 y14 y15 y16 y17 y18 y19 y20) H .normal (e83 db n cap a b lim (.bool true) y11 y12 y13 y14 y15 y16 y17 y18 y19 y20) H :=
 hx N 60 []
theorem Qks {y11 y12 y13 y14 y15 y16 y17 y18 y19 y20:HV} {H0:Heap} (g0:∀kf,N≤kf→Qa Tp polSo (kf+1) 98 [.sl db 0 n cap n 3,.n a,.n b,.func 77 [] []] H=some (.tuple [],H0)): RT polSo 83 (sn 910 B83) (e83 db n cap a b lim (.bool false) y11 y12 y13 y14 y15 y16 y17 y18 y19 y20) H .normal (WE (.sl db 0 n cap n 3) (.n a) (.n b) (.i (qA.wrap (lim-1))) (.func 77 [] []) (.bool false) y11 y12 y13 y14 y15 y16 y17 y18 y19 y20) H0 :=
 hx N 60 [jC 8 4 g0]
theorem Qkt {y10 y11 y12 y13 y14 y15 y16 y17 y18 y19 y20:HV} {p0:Int} {p1:Int} {H0:Heap} (g0:∀kf,N≤kf→Qa Tp polSo (kf+1) 99 [.sl db 0 n cap n 3,.n a,.n b,.func 77 [] []] H=some (.tuple [.i p0,.i p1],H0)): RT polSo 83 (sn 1822 B83) (e83 db n cap a b lim y10 y11 y12 y13 y14 y15 y16 y17 y18 y19 y20) H .normal (e83 db n cap a b lim y10 y11 y12 (.i p0) (.i p1) y15 y16 y17 y18 y19 y20) H0 :=
 hx N 60 [jC 10 4 g0]
theorem Qku (p:Nat) (h:Int) {y10 y11 y12 y15 y16 y17 y18 y19 y20:HV} {H0:Heap} (g0:h=2) (g1:∀kf,N≤kf→Qa Tp polSo (kf+1) 100 [.sl db 0 n cap n 3,.n a,.n b,.func 77 [] []] H=some (.tuple [],H0)): RT polSo 83 (sn 3646 B83) (e83 db n cap a b lim y10 y11 y12 (.n p) (.i h) y15 y16 y17 y18 y19 y20) H .normal (e83 db n cap a b lim y10 y11 y12 (.i (qA.wrap (qA.wrap ((b:Int)-1)-qA.wrap ((p:Int)-(a:Int))))) (.i 1) y15 y16 y17 y18 y19 y20) H0 :=
 hx N 60 [jT 11 1 H g0,jC 12 4 g1]
theorem Qkv (p:Nat) (h:Int) {y10 y11 y12 y15 y16 y17 y18 y19 y20:HV} (g0:¬(h=2)): RT polSo 83 (sn 3646 B83) (e83 db n cap a b lim y10 y11 y12 (.n p) (.i h) y15 y16 y17 y18 y19 y20) H .normal (e83 db n cap a b lim y10 y11 y12 (.n p) (.i h) y15 y16 y17 y18 y19 y20) H :=
 hx N 60 [jF 11 1 H g0]
theorem Qkw (h:Int) {y12 y13 y15 y16 y17 y18 y19 y20:HV} {H0:Heap} (g0:h=1) (g1:∀kf,N≤kf→Qa Tp polSo (kf+1) 101 [.sl db 0 n cap n 3,.n a,.n b,.func 77 [] []] H=some (.bool true,H0)): RT polSo 83 (sn 7294 B83) (e83 db n cap a b lim (.bool true) (.bool true) y12 y13 (.i h) y15 y16 y17 y18 y19 y20) H .ret (e83 db n cap a b lim (.bool true) (.bool true) y12 y13 (.i h) y15 y16 y17 y18 y19 y20) H0 :=
 hx N 60 [jT 15 6 H g0,jC 16 4 g1]
theorem Qkx (h:Int) {y12 y13 y15 y16 y17 y18 y19 y20:HV} {H0:Heap} (g0:h=1) (g1:∀kf,N≤kf→Qa Tp polSo (kf+1) 101 [.sl db 0 n cap n 3,.n a,.n b,.func 77 [] []] H=some (.bool false,H0)): RT polSo 83 (sn 7294 B83) (e83 db n cap a b lim (.bool true) (.bool true) y12 y13 (.i h) y15 y16 y17 y18 y19 y20) H .normal (e83 db n cap a b lim (.bool true) (.bool true) y12 y13 (.i h) y15 y16 y17 y18 y19 y20) H0 :=
 hx N 60 [jT 15 6 H g0,jC 16 4 g1]
theorem Qky (h:Int) {y12 y13 y15 y16 y17 y18 y19 y20:HV} (g0:¬(h=1)): RT polSo 83 (sn 7294 B83) (e83 db n cap a b lim (.bool true) (.bool true) y12 y13 (.i h) y15 y16 y17 y18 y19 y20) H .normal (e83 db n cap a b lim (.bool true) (.bool true) y12 y13 (.i h) y15 y16 y17 y18 y19 y20) H :=
 hx N 60 [jF 15 6 H g0]
theorem Qkz (h:Int) {y12 y13 y15 y16 y17 y18 y19 y20:HV}: RT polSo 83 (sn 7294 B83) (e83 db n cap a b lim (.bool true) (.bool false) y12 y13 (.i h) y15 y16 y17 y18 y19 y20) H .normal (e83 db n cap a b lim (.bool true) (.bool false) y12 y13 (.i h) y15 y16 y17 y18 y19 y20) H :=
 hx N 60 []
theorem QkA (h:Int) {y11 y12 y13 y15 y16 y17 y18 y19 y20:HV}: RT polSo 83 (sn 7294 B83) (e83 db n cap a b lim (.bool false) y11 y12 y13 (.i h) y15 y16 y17 y18 y19 y20) H .normal (e83 db n cap a b lim (.bool false) y11 y12 y13 (.i h) y15 y16 y17 y18 y19 y20) H :=
 hx N 60 []
theorem QkB (p:Nat) {y10 y11 y12 y14 y15 y16 y17 y18 y19 y20:HV} {a0:HV} {v0:HV} {a1:HV} {v1:HV} {c0:Int} {H0:Heap} (g0:0<(a:Int)) (g1:IX 88 (.sl db 0 n cap n 3) (.i (qA.wrap ((a:Int)-1))) (a0)) (g2:LD H 91 (a0) (v0)) (g3:IX 88 (.sl db 0 n cap n 3) (.n p) (a1)) (g4:LD H 91 (a1) (v1)) (g5:∀kf,N≤kf→Qa Tp polSo (kf+1) 77 [v0,v1] H=some (.i c0,H0)) (g6:c0<0): RT polSo 83 (sn 14590 B83) (e83 db n cap a b lim y10 y11 y12 (.n p) y14 y15 y16 y17 y18 y19 y20) H .normal (e83 db n cap a b lim y10 y11 y12 (.n p) y14 y15 y16 y17 y18 y19 y20) H0 :=
 hx N 60 [jT 17 1 H g0,jO 17 7 H g1,jO 17 8 H g2,jO 17 11 H g3,jO 17 12 H g4,jC 17 13 g5,jT 17 14 H0 g6]
theorem QkC (p:Nat) {y10 y11 y12 y14 y15 y16 y17 y18 y19 y20:HV} {a0:HV} {v0:HV} {a1:HV} {v1:HV} {c0:Int} {H0:Heap} {m0:Int} {H1:Heap} (g0:0<(a:Int)) (g1:IX 88 (.sl db 0 n cap n 3) (.i (qA.wrap ((a:Int)-1))) (a0)) (g2:LD H 91 (a0) (v0)) (g3:IX 88 (.sl db 0 n cap n 3) (.n p) (a1)) (g4:LD H 91 (a1) (v1)) (g5:∀kf,N≤kf→Qa Tp polSo (kf+1) 77 [v0,v1] H=some (.i c0,H0)) (g6:¬(c0<0)) (g7:∀kf,N≤kf→Qa Tp polSo (kf+1) 102 [.sl db 0 n cap n 3,.n a,.n b,.n p,.func 77 [] []] H0=some (.i m0,H1)): RT polSo 83 (sn 14590 B83) (e83 db n cap a b lim y10 y11 y12 (.n p) y14 y15 y16 y17 y18 y19 y20) H (.exit 1) (WE (.sl db 0 n cap n 3) (.i m0) (.n b) (.i lim) (.func 77 [] []) y10 y11 y12 (.n p) y14 (.i m0) y16 y17 y18 y19 y20) H1 :=
 hx N 60 [jT 17 1 H g0,jO 17 7 H g1,jO 17 8 H g2,jO 17 11 H g3,jO 17 12 H g4,jC 17 13 g5,jF 17 14 H0 g6,jC 18 5 g7]
theorem QkD (p:Nat) {y10 y11 y12 y14 y15 y16 y17 y18 y19 y20:HV} (g0:¬(0<(a:Int))): RT polSo 83 (sn 14590 B83) (e83 db n cap a b lim y10 y11 y12 (.n p) y14 y15 y16 y17 y18 y19 y20) H .normal (e83 db n cap a b lim y10 y11 y12 (.n p) y14 y15 y16 y17 y18 y19 y20) H :=
 hx N 60 [jF 17 1 H g0]
theorem QkE (p:Nat) {y10 y11 y12 y14 y15 y16 y17 y18 y19 y20:HV} {m0:Int} {bb0:Bool} {H0:Heap} (g0:∀kf,N≤kf→Qa Tp polSo (kf+1) 103 [.sl db 0 n cap n 3,.n a,.n b,.n p,.func 77 [] []] H=some (.tuple [.i m0,.bool bb0],H0)): RT polSo 83 (sn 29182 B83) (e83 db n cap a b lim y10 y11 y12 (.n p) y14 y15 y16 y17 y18 y19 y20) H .normal (e83 db n cap a b lim y10 y11 y12 (.n p) y14 y15 (.i m0) (.bool bb0) y18 y19 y20) H0 :=
 hx N 60 [jC 20 5 g0]
theorem QkF {y10 y11 y12 y13 y14 y15 y16 y17 y18 y19 y20:HV}: RT polSo 83 (sn 58366 B83) (e83 db n cap a b lim y10 y11 y12 y13 y14 y15 y16 y17 y18 y19 y20) H .normal (e83 db n cap a b lim y10 y17 y12 y13 y14 y15 y16 y17 y18 y19 y20) H :=
 hx N 60 []
theorem QkG (q:Nat) {y10 y11 y12 y13 y14 y15 y17 y18 y19 y20:HV}: RT polSo 83 (sn 116734 B83) (e83 db n cap a b lim y10 y11 y12 y13 y14 y15 (.n q) y17 y18 y19 y20) H .normal (e83 db n cap a b lim y10 y11 y12 y13 y14 y15 (.n q) y17 (.i (qA.wrap ((q:Int)-(a:Int)))) (.i (qA.wrap ((b:Int)-(q:Int)))) y20) H :=
 hx N 60 []
theorem QkH (k:Nat) {y10 y11 y13 y14 y15 y16 y17 y18 y19 y20:HV}: RT polSo 83 (sn 233470 B83) (e83 db n cap a b lim y10 y11 (.n k) y13 y14 y15 y16 y17 y18 y19 y20) H .normal (e83 db n cap a b lim y10 y11 (.n k) y13 y14 y15 y16 y17 y18 y19 (.i (qA.wrap (((k:Int):Int).tdiv 8)))) H :=
 hx N 60 []
theorem QkI (q:Nat) (u:Int) (v:Int) (w:Int) {y10 y11 y12 y13 y14 y15 y17:HV} {H0:Heap} (g0:u<v) (g1:w≤u) (g2:∀kf,N≤kf→Qa Tp polSo (kf+1) 83 [.sl db 0 n cap n 3,.n a,.n q,.i lim,.func 77 [] []] H=some (.tuple [],H0)): RT polSo 83 (sn 233471 B83) (e83 db n cap a b lim y10 y11 y12 y13 y14 y15 (.n q) y17 (.i u) (.i v) (.i w)) H .normal (WE (.sl db 0 n cap n 3) (.i (qA.wrap ((q:Int)+1))) (.n b) (.i lim) (.func 77 [] []) (.bool true) y11 y12 y13 y14 y15 (.n q) y17 (.i u) (.i v) (.i w)) H0 :=
 hx N 60 [jT 24 2 H g0,jT 25 2 H g1,jC 26 5 g2]
theorem QkJ (q:Nat) (u:Int) (v:Int) (w:Int) {y10 y11 y12 y13 y14 y15 y17:HV} {H0:Heap} (g0:u<v) (g1:¬(w≤u)) (g2:∀kf,N≤kf→Qa Tp polSo (kf+1) 83 [.sl db 0 n cap n 3,.n a,.n q,.i lim,.func 77 [] []] H=some (.tuple [],H0)): RT polSo 83 (sn 233471 B83) (e83 db n cap a b lim y10 y11 y12 y13 y14 y15 (.n q) y17 (.i u) (.i v) (.i w)) H .normal (WE (.sl db 0 n cap n 3) (.i (qA.wrap ((q:Int)+1))) (.n b) (.i lim) (.func 77 [] []) (.bool false) y11 y12 y13 y14 y15 (.n q) y17 (.i u) (.i v) (.i w)) H0 :=
 hx N 60 [jT 24 2 H g0,jF 25 2 H g1,jC 26 5 g2]
theorem QkK (q:Nat) (u:Int) (v:Int) (w:Int) {y10 y11 y12 y13 y14 y15 y17:HV} {H0:Heap} (g0:¬(u<v)) (g1:w≤v) (g2:∀kf,N≤kf→Qa Tp polSo (kf+1) 83 [.sl db 0 n cap n 3,.i (qA.wrap ((q:Int)+1)),.n b,.i lim,.func 77 [] []] H=some (.tuple [],H0)): RT polSo 83 (sn 233471 B83) (e83 db n cap a b lim y10 y11 y12 y13 y14 y15 (.n q) y17 (.i u) (.i v) (.i w)) H .normal (WE (.sl db 0 n cap n 3) (.n a) (.n q) (.i lim) (.func 77 [] []) (.bool true) y11 y12 y13 y14 y15 (.n q) y17 (.i u) (.i v) (.i w)) H0 :=
 hx N 60 [jF 24 2 H g0,jT 28 2 H g1,jC 29 6 g2]
theorem QkL (q:Nat) (u:Int) (v:Int) (w:Int) {y10 y11 y12 y13 y14 y15 y17:HV} {H0:Heap} (g0:¬(u<v)) (g1:¬(w≤v)) (g2:∀kf,N≤kf→Qa Tp polSo (kf+1) 83 [.sl db 0 n cap n 3,.i (qA.wrap ((q:Int)+1)),.n b,.i lim,.func 77 [] []] H=some (.tuple [],H0)): RT polSo 83 (sn 233471 B83) (e83 db n cap a b lim y10 y11 y12 y13 y14 y15 (.n q) y17 (.i u) (.i v) (.i w)) H .normal (WE (.sl db 0 n cap n 3) (.n a) (.n q) (.i lim) (.func 77 [] []) (.bool false) y11 y12 y13 y14 y15 (.n q) y17 (.i u) (.i v) (.i w)) H0 :=
 hx N 60 [jF 24 2 H g0,jF 28 2 H g1,jC 29 6 g2]
end
noncomputable def B76:Code:=Try.f76.body.getD .skip
abbrev Qn5 (v0 v1 v4:HV):Env:=[(0,v0),(1,v1),(4,v4)]
theorem QkM (N:Nat) (db n:Nat) (cap:Option Nat) (H:Heap) (x:Nat) {m0:Int} {H0:Heap} {H1:Heap} (g0:∀kf,N≤kf→Qa Tp polSo (kf+1) 82 [.int .u64 (IntKind.u64.wrap (n:Int))] H=some (.i m0,H0)) (g1:∀kf,N≤kf→Qa Tp polSo (kf+1) 83 [.sl db 0 n cap n 3,.i 0,.n n,.i m0,.func 77 [] []] H0=some (.tuple [],H1)): RT polSo 76 (sub [] B76) [(0,.sl db 0 n cap n 3),(1,.func 77 [] [])] H .normal (Qn5 (.sl db 0 n cap n 3) (.func 77 [] []) (.n n)) H1 :=
 hx N 60 [jC 1 4 g0,jC 1 6 g1]
end Go.Proofs.Ytlendaofkmhgmaa
end
section
open Go Go.HL Go.HL.So
namespace Go.Proofs.Ytlendaofkmhgmaa
set_option linter.unusedSectionVars false
open Go.Proofs.Try renaming prog → Tp
open Go.HL.HV renaming undef → Ud
section
variable {α:Type} [Inhabited α] {enc:α→HV} {lt:α→α→Prop} {dom:α→Prop} {H:Heap} {db n:Nat} {cap:Option Nat}
abbrev swB (s:Int):Blk:=.arr 1 [.int .i64 s] true 0
theorem YP (l:List α) (B:Blk):(Mm enc H db l [B])[H.length]?=some B:=by
 unfold Mm
 rw [List.getElem?_append_right (by simp)]
 simp
theorem Qc8 (l:List α) (B B':Blk):(Mm enc H db l [B]).set H.length B'=Mm enc H db l [B']:=by
 unfold Mm
 rw [List.set_append_right _ _ (by simp)]
 simp
theorem mxM (S:So enc lt dom H db n) (l:List α) (B:Blk) (hB:B.mx=0):mxs (Mm enc H db l [B])≤H.length:=by
 have h:=S.mx
 rw [mxs_le] at h ⊢
 intro C hC
 unfold Mm at hC
 rcases List.mem_append.1 hC with hC | hC
 ·rcases List.mem_or_eq_of_mem_set hC with hC | rfl
  ·exact h C hC
  ·exact qD _
 ·rw [List.mem_singleton.1 hC];omega
theorem gcT (S:So enc lt dom H db n) (l l':List α) (B:Blk) (hB:B.mx=0):gc (Mm enc H db l []).length 0 (Mm enc H db l' [B])=Mm enc H db l' []:=by
 have h:=mxM S l' B hB
 have e:(Mm enc H db l []).length=H.length:=by simp [Mm]
 unfold gc
 rw [e,show max H.length (max 0 (mxs (Mm enc H db l' [B])))=H.length by omega]
 unfold Mm
 rw [List.take_append_of_le_length (by simp),List.take_of_length_le (by simp),qH]
theorem gcB (l l':List α) (B B':Blk) (r:Nat):gc (Mm enc H db l [B]).length r (Mm enc H db l' [B'])=Mm enc H db l' [B']:=gcM l l' [B] [B'] r rfl
theorem UA (l:List α) (s:Int):Qh Tp (Mm enc H db l [swB s]) 3 (.ptr H.length 0 0 1)=some (.int .i64 s):=Qv (b:=H.length) (YP l (swB s)) rfl rfl rfl a3 i3
theorem Qn6 (l:List α) (s r:Int):QM Tp (Mm enc H db l [swB s]) 3 (.ptr H.length 0 0 1) (.int .i64 r)=some (Mm enc H db l [swB r]):=by
 have:=VZ (P:=Tp) (t:=3) (b:=H.length) (i:=0) (tot:=1) (old:=.int .i64 s) (v:=.int .i64 r) (YP (enc:=enc) (db:=db) l (swB s)) rfl rfl rfl (by intro cs h;cases h) z3 rfl rfl (by simp [bnd])
 rw [this,Qc8];rfl
theorem Qc9 (l:List α) (k:IntKind) (s:Int):Wm (.int k s) (Mm enc H db l [])=(.ptr H.length 0 0 1,Mm enc H db l [.arr 1 [.int k s] true 0]):=by
 simp only [Wm,cellsOf,bnd,Mm]
 simp
theorem Ge (S:So enc lt dom H db n) {a b:Nat} (ha:a<n) (hb:b<n) {l:List α} (hl:l.length=n) (hD:Dm dom l) (s:Int) :
  ∃(p q:Nat) (s':Int),ClS 113 [.sl db 0 n cap n 3,.int .i64 (a:Int),.int .i64 (b:Int),.ptr H.length 0 0 1,.func 77 [] []] (Mm enc H db l [swB s]) (.tuple [.int .i64 (p:Int),.int .i64 (q:Int)]) (Mm enc H db l [swB s'])∧((p=a∧q=b)∨(p=b∧q=a)):=by
 have hn:=S.nb
 by_cases c:lt (at_ l b) (at_ l a)
 ·obtain ⟨cc,N,hN,hc⟩:=S.ct (T:=[swB s]) hl rfl (hD.at (i:=b) (by omega)) (hD.at (i:=a) (by omega)) c
  have t:=QjY N db n cap (Mm enc H db l [swB s]) H.length a b (ixs (i:=b) rfl hb) (S.ld l _ _ hl hb) (ixs (i:=a) rfl ha) (S.ld l _ _ hl ha) hN hc (UA l s) (Qn6 l s _)
  have hc:=CallsTo.shared (P:=Tp) (pol:=polSo) (g:=113) (fn:=Try.f113) (cd:=Qe6) (args:=[.sl db 0 n cap n 3,.int .i64 (a:Int),.int .i64 (b:Int),.ptr H.length 0 0 1,.func 77 [] []]) (v:=.tuple [.int .i64 (b:Int),.int .i64 (a:Int)]) (by kernel_rfl) (by kernel_rfl) (by kernel_rfl) (by kernel_rfl) t (by kernel_rfl) (by simp) (by kernel_rfl)
  rw [gcB] at hc
  exact ⟨b,a,_,hc,.inr ⟨rfl,rfl⟩⟩
 ·obtain ⟨cc,N,hN,hc⟩:=S.cf (T:=[swB s]) hl rfl (hD.at (i:=b) (by omega)) (hD.at (i:=a) (by omega)) c
  have t:=QjZ N db n cap (Mm enc H db l [swB s]) H.length a b (ixs (i:=b) rfl hb) (S.ld l _ _ hl hb) (ixs (i:=a) rfl ha) (S.ld l _ _ hl ha) hN hc
  have hc:=CallsTo.shared (P:=Tp) (pol:=polSo) (g:=113) (fn:=Try.f113) (cd:=Qe6) (args:=[.sl db 0 n cap n 3,.int .i64 (a:Int),.int .i64 (b:Int),.ptr H.length 0 0 1,.func 77 [] []]) (v:=.tuple [.int .i64 (a:Int),.int .i64 (b:Int)]) (by kernel_rfl) (by kernel_rfl) (by kernel_rfl) (by kernel_rfl) t (by kernel_rfl) (by simp) (by kernel_rfl)
  rw [gcB] at hc
  exact ⟨a,b,_,hc,.inl ⟨rfl,rfl⟩⟩
theorem St (S:So enc lt dom H db n) {a b q:Nat} (ha:a<n) (hb:b<n) (hq:q<n) {l:List α} (hl:l.length=n) (hD:Dm dom l) (s:Int) :
  ∃(r:Nat) (s':Int),ClS 111 [.sl db 0 n cap n 3,.int .i64 (a:Int),.int .i64 (b:Int),.int .i64 (q:Int),.ptr H.length 0 0 1,.func 77 [] []] (Mm enc H db l [swB s]) (.int .i64 (r:Int)) (Mm enc H db l [swB s'])∧(r=a∨r=b∨r=q):=by
 obtain ⟨p1,q1,s1,h1,e1⟩:=Ge S (cap:=cap) ha hb hl hD s
 obtain ⟨p2,q2,s2,h2,e2⟩:=Ge S (cap:=cap) (a:=q1) (b:=q) (by omega) hq hl hD s1
 obtain ⟨p3,q3,s3,h3,e3⟩:=Ge S (cap:=cap) (a:=p1) (b:=p2) (by omega) (by omega) hl hD s2
 obtain ⟨N1,h1⟩:=h1.from
 obtain ⟨N2,h2⟩:=h2.from
 obtain ⟨N3,h3⟩:=h3.from
 have t:=Qj1 (N1+N2+N3) db n cap (Mm enc H db l [swB s]) H.length a b q (fun kf hk=>h1 kf (by omega)) (fun kf hk=>h2 kf (by omega)) (fun kf hk=>h3 kf (by omega))
 have hc:=CallsTo.shared (P:=Tp) (pol:=polSo) (g:=111) (fn:=Try.f111) (cd:=Qn1) (args:=[.sl db 0 n cap n 3,.int .i64 (a:Int),.int .i64 (b:Int),.int .i64 (q:Int),.ptr H.length 0 0 1,.func 77 [] []]) (v:=.int .i64 (q3:Int)) (by kernel_rfl) (by kernel_rfl) (by kernel_rfl) (by kernel_rfl) t (by kernel_rfl) (by simp) (by kernel_rfl)
 rw [gcB] at hc
 exact ⟨q3,s3,hc,by omega⟩
theorem Gf (S:So enc lt dom H db n) {a:Nat} {e:Int} (he:e=(a:Int)) (h1:1≤a) (h2:a+1<n) {l:List α} (hl:l.length=n) (hD:Dm dom l) (s:Int) :
  ∃(r:Nat) (s':Int),ClS 110 [.sl db 0 n cap n 3,.int .i64 e,.ptr H.length 0 0 1,.func 77 [] []] (Mm enc H db l [swB s]) (.int .i64 (r:Int)) (Mm enc H db l [swB s'])∧a-1≤r∧r≤a+1:=by
 subst he
 have hn:=S.nb
 obtain ⟨r,s',h,er⟩:=St S (cap:=cap) (a:=a-1) (b:=a) (q:=a+1) (by omega) (by omega) (by omega) hl hD s
 obtain ⟨N,h⟩:=h.from
 have t:=Qj3 N db n cap (Mm enc H db l [swB s]) H.length a (by rw [QJ (by omega) (by omega),Qc (by omega)];exact h)
 have hc:=CallsTo.shared (P:=Tp) (pol:=polSo) (g:=110) (fn:=Try.f110) (cd:=Qn2) (args:=[.sl db 0 n cap n 3,.int .i64 (a:Int),.ptr H.length 0 0 1,.func 77 [] []]) (v:=.int .i64 (r:Int)) (by kernel_rfl) (by kernel_rfl) (by kernel_rfl) (by kernel_rfl) t (by kernel_rfl) (by simp) (by kernel_rfl)
 rw [gcB] at hc
 exact ⟨r,s',hc,by omega⟩
theorem Su {a b m:Nat} (hab:a≤b) (hb:b≤60000) (hm:m≤3):qA.wrap ((a:Int)+qA.wrap (qA.wrap ((qA.wrap ((b:Int)-(a:Int)):Int).tdiv 4)*(m:Int)))=((a+(b-a)/4*m:Nat):Int):=by
 have h1:qA.wrap ((b:Int)-(a:Int))=((b-a:Nat):Int):=by rw [Qn (by omega) (by omega)];omega
 have h2:((b-a:Nat):Int).tdiv 4=(((b-a)/4:Nat):Int):=by rw [qF (by omega)];omega
 rw [h1,h2,Qn (n:=(((b-a)/4:Nat):Int)) (by omega) (by omega)]
 have h3:(((b-a)/4:Nat):Int)*(m:Int)=(((b-a)/4*m:Nat):Int):=by push_cast;rfl
 have h4:(b-a)/4*m≤60000:=by
  have h6:(b-a)/4*m≤(b-a)/4*3:=Nat.mul_le_mul_left _ hm
  omega
 rw [h3]
 generalize (b-a)/4*m=z at h4
 rw [Qn (n:=(z:Int)) (by omega) (by omega),Qn (by omega) (by omega)];omega
theorem QkN (S:So enc lt dom H db n) {a b:Nat} (hab:a+12<b) (hb:b≤n) {l:List α} (hl:l.length=n) (hD:Dm dom l) :
  ∃(p:Nat) (h:Int),ClS 99 [.sl db 0 n cap n 3,.int .i64 (a:Int),.int .i64 (b:Int),.func 77 [] []] (Mm enc H db l []) (.tuple [.int .i64 (p:Int),.int .i64 h]) (Mm enc H db l [])∧a≤p∧p<b:=by
 have hn:=S.nb
 have i1:=Su (a:=a) (b:=b) (m:=1) (by omega) (by omega) (by omega)
 have i2:=Su (a:=a) (b:=b) (m:=2) (by omega) (by omega) (by omega)
 have i3:=Su (a:=a) (b:=b) (m:=3) (by omega) (by omega) (by omega)
 have hw:qA.wrap ((b:Int)-(a:Int))=((b-a:Nat):Int):=(by rw [Qn (by omega) (by omega)];omega)
 have g0:some (Wm (.int .i64 0) (Mm enc H db l []))=some (.ptr H.length 0 0 1,Mm enc H db l [swB 0]):=congrArg some (Qc9 l .i64 0)
 have fin:∀(p:Nat) (h:Int) (E:Env) (s:Int),a≤p→p<b→RT polSo 99 B99 (ZS [.sl db 0 n cap n 3,.int .i64 (a:Int),.int .i64 (b:Int),.func 77 [] []]) (Mm enc H db l []) .ret E (Mm enc H db l [swB s])→Qf Tp Try.f99 E (Mm enc H db l [swB s])=some (.tuple [.int .i64 (p:Int),.int .i64 h]) →
   ∃(p:Nat) (h:Int),ClS 99 [.sl db 0 n cap n 3,.int .i64 (a:Int),.int .i64 (b:Int),.func 77 [] []] (Mm enc H db l []) (.tuple [.int .i64 (p:Int),.int .i64 h]) (Mm enc H db l [])∧a≤p∧p<b:=by
  intro p h E s h1 h2 t hv
  have hc:=CallsTo.shared (P:=Tp) (pol:=polSo) (g:=99) (fn:=Try.f99) (cd:=B99) (args:=[.sl db 0 n cap n 3,.int .i64 (a:Int),.int .i64 (b:Int),.func 77 [] []]) (by kernel_rfl) (by kernel_rfl) (by kernel_rfl) (by kernel_rfl) t (by kernel_rfl) (by simp) hv
  rw [show bnd (.tuple [.int .i64 (p:Int),.int .i64 h])=0 by simp [bnd,bndL],gcT S l l (swB s) rfl] at hc
  exact ⟨p,h,hc,h1,h2⟩
 by_cases c:50≤b-a
 ·obtain ⟨r1,s1,h1,e1⟩:=Gf S (cap:=cap) (a:=a+(b-a)/4*1) i1 (by omega) (by omega) hl hD 0
  obtain ⟨r2,s2,h2,e2⟩:=Gf S (cap:=cap) (a:=a+(b-a)/4*2) i2 (by omega) (by omega) hl hD s1
  obtain ⟨r3,s3,h3,e3⟩:=Gf S (cap:=cap) (a:=a+(b-a)/4*3) i3 (by omega) (by omega) hl hD s2
  obtain ⟨r,s,h4,e4⟩:=St S (cap:=cap) (a:=r1) (b:=r2) (q:=r3) (by omega) (by omega) (by omega) hl hD s3
  obtain ⟨N1,h1⟩:=h1.from
  obtain ⟨N2,h2⟩:=h2.from
  obtain ⟨N3,h3⟩:=h3.from
  obtain ⟨N4,h4⟩:=h4.from
  by_cases d1:s=0
  ·have t:=Qj4 (N1+N2+N3+N4) db n cap (Mm enc H db l []) H.length a b g0 (by rw [hw];omega) (by rw [hw];omega) (fun kf hk=>h1 kf (by omega)) (fun kf hk=>h2 kf (by omega)) (fun kf hk=>h3 kf (by omega)) (fun kf hk=>h4 kf (by omega)) (UA l s) d1
   exact fin r 1 _ s (by omega) (by omega) t (by kernel_rfl)
  ·by_cases d2:s=12
   ·have t:=Qj5 (N1+N2+N3+N4) db n cap (Mm enc H db l []) H.length a b g0 (by rw [hw];omega) (by rw [hw];omega) (fun kf hk=>h1 kf (by omega)) (fun kf hk=>h2 kf (by omega)) (fun kf hk=>h3 kf (by omega)) (fun kf hk=>h4 kf (by omega)) (UA l s) d1 d2
    exact fin r 2 _ s (by omega) (by omega) t (by kernel_rfl)
   ·have t:=Qj6 (N1+N2+N3+N4) db n cap (Mm enc H db l []) H.length a b g0 (by rw [hw];omega) (by rw [hw];omega) (fun kf hk=>h1 kf (by omega)) (fun kf hk=>h2 kf (by omega)) (fun kf hk=>h3 kf (by omega)) (fun kf hk=>h4 kf (by omega)) (UA l s) d1 d2
    exact fin r 0 _ s (by omega) (by omega) t (by kernel_rfl)
 ·obtain ⟨r,s,h4,e4⟩:=St S (cap:=cap) (a:=a+(b-a)/4*1) (b:=a+(b-a)/4*2) (q:=a+(b-a)/4*3) (by omega) (by omega) (by omega) hl hD 0
  obtain ⟨N4,h4⟩:=h4.from
  rw [← i1,← i2,← i3] at h4
  by_cases d1:s=0
  ·have t:=Qj7 N4 db n cap (Mm enc H db l []) H.length a b g0 (by rw [hw];omega) (by rw [hw];omega) h4 (UA l s) d1
   exact fin r 1 _ s (by omega) (by omega) t (by kernel_rfl)
  ·by_cases d2:s=12
   ·have t:=Qj8 N4 db n cap (Mm enc H db l []) H.length a b g0 (by rw [hw];omega) (by rw [hw];omega) h4 (UA l s) d1 d2
    exact fin r 2 _ s (by omega) (by omega) t (by kernel_rfl)
   ·have t:=Qj9 N4 db n cap (Mm enc H db l []) H.length a b g0 (by rw [hw];omega) (by rw [hw];omega) h4 (UA l s) d1 d2
    exact fin r 0 _ s (by omega) (by omega) t (by kernel_rfl)
abbrev uB (s:Int):Blk:=.arr 1 [.int .u64 s] true 0
theorem Qn7:Qm Tp 128=some 1:=by kernel_rfl
theorem Qn8:Qw Tp 128=false:=by kernel_rfl
theorem Qn9:(Tp.underlying 128).isSome=true:=by kernel_rfl
theorem Sv (l:List α) (s:Int):Qh Tp (Mm enc H db l [uB s]) 128 (.ptr H.length 0 0 1)=some (.int .u64 s):=Qv (b:=H.length) (YP l (uB s)) rfl rfl rfl Qn8 Qn9
theorem Qe7 (l:List α) (s r:Int):QM Tp (Mm enc H db l [uB s]) 128 (.ptr H.length 0 0 1) (.int .u64 r)=some (Mm enc H db l [uB r]):=by
 have:=VZ (P:=Tp) (t:=128) (b:=H.length) (i:=0) (tot:=1) (old:=.int .u64 s) (v:=.int .u64 r) (YP (enc:=enc) (db:=db) l (uB s)) rfl rfl rfl (by intro cs h;cases h) Qn7 rfl rfl (by simp [bnd])
 rw [this,Qc8];rfl
theorem bx (a b:Int):∃r,ZF Tp .xor 128 (.int .u64 a) (.int .u64 b)=some (.int .u64 r):=⟨_,rfl⟩
theorem QoT (a:Int):∃r,ZF Tp .shl 128 (.int .u64 a) (.int .u64 13)=some (.int .u64 r):=⟨_,rfl⟩
theorem QoU (a:Int):∃r,ZF Tp .shl 128 (.int .u64 a) (.int .u64 17)=some (.int .u64 r):=⟨_,rfl⟩
theorem br7 (a:Int):∃r,ZF Tp .shr 128 (.int .u64 a) (.int .u64 7)=some (.int .u64 r):=⟨_,rfl⟩
theorem QkO (l:List α) (s:Int):∃r,ClS 106 [.ptr H.length 0 0 1] (Mm enc H db l [uB s]) (.int .u64 r) (Mm enc H db l [uB r]):=by
 obtain ⟨h0,e0⟩:=QoT s
 obtain ⟨h1,e1⟩:=bx s h0
 obtain ⟨h2,e2⟩:=br7 h1
 obtain ⟨h3,e3⟩:=bx h1 h2
 obtain ⟨h4,e4⟩:=QoU h3
 obtain ⟨h5,e5⟩:=bx h3 h4
 have t:=Qkb 0 0 0 none (Mm enc H db l [uB s]) H.length (Sv l s) (Sv l s) e0 e1 (Qe7 l s h1) (Sv l h1) (Sv l h1) e2 e3 (Qe7 l h1 h3) (Sv l h3) (Sv l h3) e4 e5 (Qe7 l h3 h5) (Sv l h5)
 have hc:=CallsTo.shared (P:=Tp) (pol:=polSo) (g:=106) (fn:=Try.f106) (cd:=Qn4) (args:=[.ptr H.length 0 0 1]) (v:=.int .u64 h5) (by kernel_rfl) (by kernel_rfl) (by kernel_rfl) (by kernel_rfl) t (by kernel_rfl) (by simp) (by kernel_rfl)
 rw [gcB] at hc
 exact ⟨_,hc⟩
theorem Qoa {u:Int} {m:Nat} (hm:m<9223372036854775808):∃h:Nat,ZF Tp .and 81 (.int .u64 u) (.int .u64 (m:Int))=some (.int .u64 (h:Int))∧h≤m:=by
 have e:ZF Tp .and 81 (.int .u64 u) (.int .u64 (m:Int))=some (.int .u64 (IntKind.u64.wrap (BitVec.ofInt IntKind.u64.bits u &&& BitVec.ofInt IntKind.u64.bits (m:Int)).toNat)):=rfl
 have hle:(BitVec.ofInt IntKind.u64.bits u &&& BitVec.ofInt IntKind.u64.bits (m:Int)).toNat≤m:=by
  rw [BitVec.toNat_and]
  refine Nat.le_trans Nat.and_le_right ?_
  rw [BitVec.toNat_ofInt]
  show ((m:Int)%((2 ^ 64:Nat):Int)).toNat≤m
  omega
 refine ⟨_,?_,hle⟩
 rw [e]
 congr 2
 rw [JG]
 generalize (BitVec.ofInt IntKind.u64.bits u &&& BitVec.ofInt IntKind.u64.bits (m:Int)).toNat=h at hle
 omega
theorem Qe8 (S:So enc lt dom H db n) {a b k m:Nat} (hk:b=a+k) (hk8:8≤k) (hb:b≤n) (hm1:1≤m) (hm2:m≤2*k):∀(d i:Nat) (l:List α) (s:Int),i+d=a+k/4*2+2→a+k/4*2-1≤i→l.length=n →
  ∃y5 y6 l' s',RT polSo 98 (sn 238 B98) (Yy (.sl db 0 n cap n 3) (.i (a:Int)) (.i (b:Int)) (.i (k:Int)) (.ptr H.length 0 0 1) (.int .u64 (m:Int)) (.i (i:Int)) Ud) (Mm enc H db l [uB s]) (.exit 0) (Yy (.sl db 0 n cap n 3) (.i (a:Int)) (.i (b:Int)) (.i (k:Int)) (.ptr H.length 0 0 1) (.int .u64 (m:Int)) y5 y6) (Mm enc H db l' [uB s'])∧Sw a b l l':=by
 have hn:=S.nb
 have e0:qA.wrap (((k:Int):Int).tdiv 4)=((k/4:Nat):Int):=by
  rw [qF (by omega),Qn (by omega) (by omega)];omega
 have e1:qA.wrap ((a:Int)+qA.wrap (qA.wrap (((k:Int):Int).tdiv 4)*2))=((a+k/4*2:Nat):Int):=by
  rw [e0,Qn (n:=((k/4:Nat):Int)*2) (by omega) (by omega),Qn (by omega) (by omega)];omega
 have e2:qA.wrap (qA.wrap ((a:Int)+qA.wrap (qA.wrap (((k:Int):Int).tdiv 4)*2))+1)=((a+k/4*2+1:Nat):Int):=by
  rw [e1,Qn (by omega) (by omega)];omega
 intro d
 induction d with
 | zero =>
  intro i l s hi hi2 hl
  exact ⟨_,_,l,s,lpo (Qkj 0 db n cap (Mm enc H db l [uB s]) H.length a b k m i (y12:=Ud) (by rw [e2];omega)),.refl⟩
 | succ d ih =>
  intro i l s hi hi2 hl
  obtain ⟨u,hx⟩:=QkO (enc:=enc) (H:=H) (db:=db) l s
  obtain ⟨N,hN⟩:=hx.from
  have hu:IntKind.u64.wrap ((m:Int)-1)=((m-1:Nat):Int):=by rw [JG];omega
  obtain ⟨h,hand,hh⟩:=Qoa (u:=u) (m:=m-1) (by omega)
  rw [← hu] at hand
  have hwh:qA.wrap (h:Int)=(h:Int):=Qn (by omega) (by omega)
  have next:∀o:Nat,o<k→∀y,RT polSo 98 (sn 476 B98) (Yy (.sl db 0 n cap n 3) (.i (a:Int)) (.i (b:Int)) (.i (k:Int)) (.ptr H.length 0 0 1) (.int .u64 (m:Int)) (.i (i:Int)) Ud) (Mm enc H db l [uB s]) .normal (Yy (.sl db 0 n cap n 3) (.i (a:Int)) (.i (b:Int)) (.i (k:Int)) (.ptr H.length 0 0 1) (.int .u64 (m:Int)) (.i (qA.wrap ((i:Int)+1))) y) (Mm enc H db (swp l i (a+o)) [uB u]) →
    ∃y5 y6 l' s',RT polSo 98 (sn 238 B98) (Yy (.sl db 0 n cap n 3) (.i (a:Int)) (.i (b:Int)) (.i (k:Int)) (.ptr H.length 0 0 1) (.int .u64 (m:Int)) (.i (i:Int)) Ud) (Mm enc H db l [uB s]) (.exit 0) (Yy (.sl db 0 n cap n 3) (.i (a:Int)) (.i (b:Int)) (.i (k:Int)) (.ptr H.length 0 0 1) (.int .u64 (m:Int)) y5 y6) (Mm enc H db l' [uB s'])∧Sw a b l l':=by
   intro o ho y st
   rw [Qc (by omega)] at st
   have sw:Sw a b l (swp l i (a+o)):=Sw.one (by omega) (by omega) (by omega) (by omega)
   obtain ⟨y5,y6,l',s',r,q⟩:=ih (i+1) (swp l i (a+o)) u (by omega) (by omega) (by rw [Jk];exact hl)
   exact ⟨y5,y6,l',s',lop (st) (gcM _ _ _ _ _ rfl) (r),sw.trans q⟩
  by_cases c:k≤h
  ·have e3:qA.wrap (qA.wrap (h:Int)-(k:Int))=((h-k:Nat):Int):=by rw [hwh,Qn (by omega) (by omega)];omega
   have e4:qA.wrap ((a:Int)+qA.wrap (qA.wrap (h:Int)-(k:Int)))=((a+(h-k):Nat):Int):=by rw [e3,Qn (by omega) (by omega)];omega
   obtain ⟨s1,s2⟩:=S.st2 (T:=[uB u]) hl (i:=i) (j:=a+(h-k)) (by omega) (by omega)
   have st:=Qkh N db n cap (Mm enc H db l [uB s]) H.length a b k m i (y12:=Ud) (by rw [e2];omega) hN hand (by rw [hwh];omega) (ixs e4 (by omega)) (S.ld l _ _ hl (by omega)) (ixs (i:=i) rfl (by omega)) (S.ld l _ _ hl (by omega)) (ixs (i:=i) rfl (by omega)) s1 (ixs e4 (by omega)) s2
   exact next (h-k) (by omega) _ st
  ·have e4:qA.wrap ((a:Int)+qA.wrap (h:Int))=((a+h:Nat):Int):=by rw [hwh,Qn (by omega) (by omega)];omega
   obtain ⟨s1,s2⟩:=S.st2 (T:=[uB u]) hl (i:=i) (j:=a+h) (by omega) (by omega)
   have st:=Qki N db n cap (Mm enc H db l [uB s]) H.length a b k m i (y12:=Ud) (by rw [e2];omega) hN hand (by rw [hwh];omega) (ixs e4 (by omega)) (S.ld l _ _ hl (by omega)) (ixs (i:=i) rfl (by omega)) (S.ld l _ _ hl (by omega)) (ixs (i:=i) rfl (by omega)) s1 (ixs e4 (by omega)) s2
   exact next h (by omega) _ st
theorem QkP (S:So enc lt dom H db n) {a b:Nat} (hab:a+8≤b) (hb:b≤n) {l:List α} (hl:l.length=n) :
  ∃l',ClS 98 [.sl db 0 n cap n 3,.int .i64 (a:Int),.int .i64 (b:Int),.func 77 [] []] (Mm enc H db l []) (.tuple []) (Mm enc H db l' [])∧Sw a b l l':=by
 have hn:=S.nb
 obtain ⟨k,rfl⟩:∃k,b=a+k:=⟨b-a,by omega⟩
 have hw:qA.wrap (((a+k:Nat):Int)-(a:Int))=(k:Int):=by rw [Qn (by omega) (by omega)];omega
 have t0:=Qkc 0 db n cap (Mm enc H db l []) H.length a (a+k)
 rw [hw] at t0
 have t1:=Qkd 0 db n cap (Mm enc H db l []) H.length a (a+k) k (y9:=Ud) (y10:=Ud) (y11:=Ud) (y12:=Ud) (by omega)
 have g0:some (Wm (.int .u64 0) (Mm enc H db l []))=some (.ptr H.length 0 0 1,Mm enc H db l [uB 0]):=congrArg some (Qc9 l .u64 0)
 have t2:=Qke 0 db n cap (Mm enc H db l []) H.length a (a+k) k (y9:=Ud) (y10:=Ud) (y11:=Ud) (y12:=Ud) g0 (Qe7 l 0 _)
 have hl2:=(Gb (x:=k) (by omega)).1 (by omega)
 have t3:=Qkf 0 db n cap (Mm enc H db l [uB (IntKind.u64.wrap (k:Int))]) H.length a (a+k) k (y10:=Ud) (y11:=Ud) (y12:=Ud) (u0:=((2 ^ ZP k:Nat):Int)) (fun kf _=>by
  rw [Qt (pol:=polSo) (g:=105) (F:=XB) (by kernel_rfl) (rs:=[.int .i64 (k:Int)]) rfl (res:=.int .u64 ((2 ^ ZP k:Nat):Int)) (by simp only [XB];rw [if_pos (by omega),qG])];rfl)
 generalize 2 ^ ZP k=m at hl2 t3
 have t4:=Qkg 0 db n cap (Mm enc H db l [uB (IntKind.u64.wrap (k:Int))]) H.length a (a+k) k (m:Int) (y11:=Ud) (y12:=Ud)
 have e0:qA.wrap (((k:Int):Int).tdiv 4)=((k/4:Nat):Int):=by
  rw [qF (by omega),Qn (by omega) (by omega)];omega
 have e1:qA.wrap (qA.wrap ((a:Int)+qA.wrap (qA.wrap (((k:Int):Int).tdiv 4)*2))-1)=((a+k/4*2-1:Nat):Int):=by
  rw [e0,Qn (n:=((k/4:Nat):Int)*2) (by omega) (by omega),Qn (n:=(a:Int)+((k/4:Nat):Int)*2) (by omega) (by omega),Qn (by omega) (by omega)];omega
 rw [e1] at t4
 obtain ⟨y5,y6,l',s',r,q⟩:=Qe8 S (cap:=cap) (m:=m) rfl (by omega) hb (by omega) (by omega) 3 (a+k/4*2-1) l (IntKind.u64.wrap (k:Int)) (by omega) (qB _) hl
 have t:=sq (t0) (sq (t1) (RunsTo.cond (y:=.tmp 17) (t:=true) (c:=sn 7 B98) (a:=sn 14 B98) (b:=sn 15 B98) (by kernel_rfl) rfl (sq (t2) (sq (t3) (sq (t4) (bke (c:=sn 119 B98) (r)) (c:=sn 59 B98)) (c:=sn 29 B98)) (c:=sn 14 B98))) (c:=sn 3 B98)) (c:=B98)
 have hc:=CallsTo.shared (P:=Tp) (pol:=polSo) (g:=98) (fn:=Try.f98) (cd:=B98) (args:=[.sl db 0 n cap n 3,.int .i64 (a:Int),.int .i64 ((a+k:Nat):Int),.func 77 [] []]) (v:=.tuple []) (by kernel_rfl) (by kernel_rfl) (by kernel_rfl) (by kernel_rfl) t (by kernel_rfl) (by simp) (by kernel_rfl)
 rw [show bnd (.tuple [])=0 by rfl,gcT S l l' (uB s') rfl] at hc
 exact ⟨l',hc,q⟩
end
section
variable {α:Type} [Inhabited α] {enc:α→HV} {lt:α→α→Prop} {dom:α→Prop} {H:Heap} {db n:Nat} {cap:Option Nat}
def Yz (enc:α→HV) (lt:α→α→Prop) (dom:α→Prop) (H:Heap) (db n:Nat) (cap:Option Nat) (d:Nat):Prop:=∀(a b:Nat) (lim:Int) (l:List α),b-a<d→a≤b→b≤n→0≤lim→lim≤1000→l.length=n→Dm dom l→Flo lt a b l →
 ∃l',ClS 83 [.sl db 0 n cap n 3,.int .i64 (a:Int),.int .i64 (b:Int),.int .i64 lim,.func 77 [] []] (Mm enc H db l []) (.tuple []) (Mm enc H db l' [])∧Sw a b l l'∧Sorted lt a b l'
def Out (enc:α→HV) (lt:α→α→Prop) (dom:α→Prop) (H:Heap) (db n:Nat) (cap:Option Nat) (a b:Nat) (l:List α) (x:X) (E:Env) (l':List α):Prop :=
 Sw a b l l'∧((x=.ret∧Sorted lt a b l')∨((x=.normal∨x=.exit 1)∧∃(a' b':Nat) (lim':Int) (bal' par':Bool) (y2 y3 y4 y5 y6 y7 y8 y9 y10:HV),E=(WE (.sl db 0 n cap n 3) (.i (a':Int)) (.i (b':Int)) (.i lim') (.func 77 [] []) (.bool bal') (.bool par') y2 y3 y4 y5 y6 y7 y8 y9 y10) ∧
  b'-a'<b-a∧a≤a'∧a'≤b'∧b'≤b∧0≤lim'∧lim'≤1000∧Flo lt a' b' l'∧∀l'',Sw a' b' l' l''→Sorted lt a' b' l''→Sorted lt a b l''))
theorem Out.pre {a b:Nat} {l l1 l':List α} {x:X} {E:Env} (h:Sw a b l l1) (ho:Out enc lt dom H db n cap a b l1 x E l'):Out enc lt dom H db n cap a b l x E l':=⟨h.trans ho.1,ho.2⟩
theorem Flo.part {a b a' b':Nat} {l:List α} (h:Flo lt a b l) (h1:a'=a) (h2:b'≤b):Flo lt a' b' l:=by
 subst h1
 exact fun h0 k h3 h4=>h h0 k h3 (by omega)
theorem Qob (hL:Lin lt) {a b m:Nat} {l:List α} (h1:Sorted lt a m l) (h2:Sorted lt (m+1) b l) (h3:∀k,a≤k→k<m→lt (at_ l k) (at_ l m)) (h4:∀k,m<k→k<b→¬lt (at_ l k) (at_ l m)):Sorted lt a b l:=by
 intro i j q1 q2 q3
 by_cases c1:j<m
 ·exact h1 i j q1 q2 c1
 ·by_cases c2:j=m
  ·subst c2;exact hL.asy _ _ (h3 i q1 q2)
  ·by_cases c3:i<m
   ·exact hL.tr _ _ _ (hL.asy _ _ (h3 i q1 c3)) (h4 j (by omega) q3)
   ·by_cases c4:i=m
    ·subst c4;exact h4 j (by omega) q3
    ·exact h2 i j (by omega) q2 q3
theorem Qoc (S:So enc lt dom H db n) (hL:Lin lt) {a b k p:Nat} {lim:Int} {bal par:Bool} {h:HV} (hd:Yz enc lt dom H db n cap (b-a)) (hp1:a≤p) (hp2:p<b) (hb:b≤n) (hk:k≤n) (hl0:0≤lim) (hl1:lim≤1000) {l:List α} (hl:l.length=n) (hD:Dm dom l) (hF:Flo lt a b l) :
  ∃x E l',RT polSo 83 (sn 14591 B83) (WE (.sl db 0 n cap n 3) (.i (a:Int)) (.i (b:Int)) (.i lim) (.func 77 [] []) (.bool bal) (.bool par) (.i (k:Int)) (.i (p:Int)) h Ud Ud Ud Ud Ud Ud) (Mm enc H db l []) x E (Mm enc H db l' [])∧Out enc lt dom H db n cap a b l x E l':=by
 have hn:=S.nb
 obtain ⟨m,bb,l4,hc,w1,w2,w3,w4⟩:=Qe1 S (cap:=cap) (T:=[]) rfl hb hp1 hp2 hl hD
 obtain ⟨N,hN⟩:=hc.from
 have t1:=QkE N db n cap (Mm enc H db l []) 0 a b lim p (y10:=.bool bal) (y11:=.bool par) (y12:=.i (k:Int)) (y14:=h) (y15:=Ud) (y16:=Ud) (y17:=Ud) (y18:=Ud) (y19:=Ud) (y20:=Ud) hN
 have hl4:=Ww w1 hl
 have hD4:=hD.sw w1 (by omega)
 have hF4:=hF.sw (by omega) w1
 have t2:=QkF 0 db n cap (Mm enc H db l4 []) 0 a b lim (y10:=.bool bal) (y11:=.bool par) (y12:=.i (k:Int)) (y13:=.i (p:Int)) (y14:=h) (y15:=Ud) (y16:=.i (m:Int)) (y17:=.bool bb) (y18:=Ud) (y19:=Ud) (y20:=Ud)
 have t3:=QkG 0 db n cap (Mm enc H db l4 []) 0 a b lim m (y10:=.bool bal) (y11:=.bool bb) (y12:=.i (k:Int)) (y13:=.i (p:Int)) (y14:=h) (y15:=Ud) (y17:=.bool bb) (y18:=Ud) (y19:=Ud) (y20:=Ud)
 have e1:qA.wrap ((m:Int)-(a:Int))=((m-a:Nat):Int):=(by rw [Qn (by omega) (by omega)];omega)
 have e2:qA.wrap ((b:Int)-(m:Int))=((b-m:Nat):Int):=(by rw [Qn (by omega) (by omega)];omega)
 rw [e1,e2] at t3
 have t4:=QkH 0 db n cap (Mm enc H db l4 []) 0 a b lim k (y10:=.bool bal) (y11:=.bool bb) (y13:=.i (p:Int)) (y14:=h) (y15:=Ud) (y16:=.i (m:Int)) (y17:=.bool bb) (y18:=.i ((m-a:Nat):Int)) (y19:=.i ((b-m:Nat):Int)) (y20:=Ud)
 generalize qA.wrap (((k:Int):Int).tdiv 8)=th at t4
 have up:∀(x:X) (E:Env) (l':List α),RT polSo 83 (sn 233471 B83) (WE (.sl db 0 n cap n 3) (.i (a:Int)) (.i (b:Int)) (.i lim) (.func 77 [] []) (.bool bal) (.bool bb) (.i (k:Int)) (.i (p:Int)) h Ud (.i (m:Int)) (.bool bb) (.i ((m-a:Nat):Int)) (.i ((b-m:Nat):Int)) (.i th)) (Mm enc H db l4 []) .normal E (Mm enc H db l' [])→Out enc lt dom H db n cap a b l4 .normal E l' →
   ∃x E l',RT polSo 83 (sn 14591 B83) (WE (.sl db 0 n cap n 3) (.i (a:Int)) (.i (b:Int)) (.i lim) (.func 77 [] []) (.bool bal) (.bool par) (.i (k:Int)) (.i (p:Int)) h Ud Ud Ud Ud Ud Ud) (Mm enc H db l []) x E (Mm enc H db l' [])∧Out enc lt dom H db n cap a b l x E l':=fun x E l' t ho =>
  ⟨_,E,l',sq (t1) (sq (t2) (sq (t3) (sq (t4) (t) (c:=sn 116735 B83)) (c:=sn 58367 B83)) (c:=sn 29183 B83)) (c:=sn 14591 B83),Out.pre w1 ho⟩
 by_cases c:((m-a:Nat):Int)<((b-m:Nat):Int)
 ·obtain ⟨l5,hc5,v1,v2⟩:=hd a m lim l4 (by omega) (by omega) (by omega) hl0 hl1 hl4 hD4 (hF4.part rfl (by omega))
  obtain ⟨N5,hN5⟩:=hc5.from
  have hl5:=Ww v1 hl4
  have e3:qA.wrap ((m:Int)+1)=((m+1:Nat):Int):=Qc (by omega)
  have ho:∀(bl:Bool),Out enc lt dom H db n cap a b l4 .normal (WE (.sl db 0 n cap n 3) (.i ((m+1:Nat):Int)) (.i (b:Int)) (.i lim) (.func 77 [] []) (.bool bl) (.bool bb) (.i (k:Int)) (.i (p:Int)) h Ud (.i (m:Int)) (.bool bb) (.i ((m-a:Nat):Int)) (.i ((b-m:Nat):Int)) (.i th)) l5:=fun bl=>by
   refine ⟨v1.mono (qB _) (by omega),.inr ⟨.inl rfl,m+1,b,lim,bl,bb,_,_,_,_,_,_,_,_,_,rfl,by omega,by omega,by omega,qB _,hl0,hl1,fun _ k h1 h2=>?_,fun l6 u1 u2=>?_⟩⟩
   ·rw [show m+1-1=m by omega,v1.out (by omega) (k:=k) (by omega),v1.out (by omega) (k:=m) (by omega)]
    exact w4 k (by omega) h2
   ·have em:at_ l6 m=at_ l4 m:=(u1.out (by omega) (k:=m) (by omega)).trans (v1.out (by omega) (k:=m) (by omega))
    refine Qob hL (m:=m) (fun i j q1 q2 q3=>?_) u2 (fun k q1 q2=>?_) (fun k q1 q2=>?_)
    ·rw [u1.out (by omega) (k:=i) (by omega),u1.out (by omega) (k:=j) (by omega)]
     exact v2 i j q1 q2 q3
    ·rw [em,u1.out (by omega) (k:=k) (by omega)]
     exact v1.all (by omega) (Q:=fun x=>lt x (at_ l4 m)) (qB _) (qB _) w3 k q1 q2
    ·rw [em]
     exact u1.all (by omega) (Q:=fun x=>¬lt x (at_ l4 m)) (lo:=m+1) (hi:=b) (qB _) (qB _) (fun i h1 h2=>by
      rw [v1.out (by omega) (k:=i) (by omega)];exact w4 i (by omega) h2) k (by omega) q2
  by_cases c2:th≤((m-a:Nat):Int)
  ·have t:=QkI N5 db n cap (Mm enc H db l4 []) 0 a b lim m _ _ th (y10:=.bool bal) (y11:=.bool bb) (y12:=.i (k:Int)) (y13:=.i (p:Int)) (y14:=h) (y15:=Ud) (y17:=.bool bb) c c2 hN5
   rw [e3] at t
   exact up .normal _ l5 t (ho true)
  ·have t:=QkJ N5 db n cap (Mm enc H db l4 []) 0 a b lim m _ _ th (y10:=.bool bal) (y11:=.bool bb) (y12:=.i (k:Int)) (y13:=.i (p:Int)) (y14:=h) (y15:=Ud) (y17:=.bool bb) c c2 hN5
   rw [e3] at t
   exact up .normal _ l5 t (ho false)
 ·have hF5:Flo lt (m+1) b l4:=fun _ k h1 h2=>by rw [show m+1-1=m by omega];exact w4 k (by omega) h2
  obtain ⟨l5,hc5,v1,v2⟩:=hd (m+1) b lim l4 (by omega) (by omega) hb hl0 hl1 hl4 hD4 hF5
  obtain ⟨N5,hN5⟩:=hc5.from
  have hl5:=Ww v1 hl4
  have e3:qA.wrap ((m:Int)+1)=((m+1:Nat):Int):=Qc (by omega)
  rw [← e3] at hN5
  have ho:∀(bl:Bool),Out enc lt dom H db n cap a b l4 .normal (WE (.sl db 0 n cap n 3) (.i (a:Int)) (.i (m:Int)) (.i lim) (.func 77 [] []) (.bool bl) (.bool bb) (.i (k:Int)) (.i (p:Int)) h Ud (.i (m:Int)) (.bool bb) (.i ((m-a:Nat):Int)) (.i ((b-m:Nat):Int)) (.i th)) l5:=fun bl=>by
   have hF6:=(hF4.sw (by omega) (v1.mono (a':=a) (by omega) (qB _))).part (b':=m) rfl (by omega)
   refine ⟨v1.mono (by omega) (qB _),.inr ⟨.inl rfl,a,m,lim,bl,bb,_,_,_,_,_,_,_,_,_,rfl,by omega,qB _,by omega,by omega,hl0,hl1,hF6,fun l6 u1 u2=>?_⟩⟩
   have em:at_ l6 m=at_ l4 m:=(u1.out (by omega) (k:=m) (by omega)).trans (v1.out (by omega) (k:=m) (by omega))
   refine Qob hL (m:=m) u2 (fun i j q1 q2 q3=>?_) (fun k q1 q2=>?_) (fun k q1 q2=>?_)
   ·rw [u1.out (by omega) (k:=i) (by omega),u1.out (by omega) (k:=j) (by omega)]
    exact v2 i j q1 q2 q3
   ·rw [em]
    exact u1.all (by omega) (Q:=fun x=>lt x (at_ l4 m)) (lo:=a) (hi:=m) (qB _) (qB _) (fun i h1 h2=>by
      rw [v1.out (by omega) (k:=i) (by omega)];exact w3 i h1 h2) k q1 q2
   ·rw [em,u1.out (by omega) (k:=k) (by omega)]
    exact v1.all (by omega) (Q:=fun x=>¬lt x (at_ l4 m)) (qB _) (qB _) (fun i h1 h2=>w4 i (by omega) h2) k (by omega) q2
  by_cases c2:th≤((b-m:Nat):Int)
  ·have t:=QkK N5 db n cap (Mm enc H db l4 []) 0 a b lim m _ _ th (y10:=.bool bal) (y11:=.bool bb) (y12:=.i (k:Int)) (y13:=.i (p:Int)) (y14:=h) (y15:=Ud) (y17:=.bool bb) c c2 hN5
   exact up .normal _ l5 t (ho true)
  ·have t:=QkL N5 db n cap (Mm enc H db l4 []) 0 a b lim m _ _ th (y10:=.bool bal) (y11:=.bool bb) (y12:=.i (k:Int)) (y13:=.i (p:Int)) (y14:=h) (y15:=Ud) (y17:=.bool bb) c c2 hN5
   exact up .normal _ l5 t (ho false)
theorem QoV (S:So enc lt dom H db n) (hL:Lin lt) {a b k p:Nat} {lim:Int} {bal par:Bool} {h:HV} (hd:Yz enc lt dom H db n cap (b-a)) (hp1:a≤p) (hp2:p<b) (hb:b≤n) (hk:k≤n) (hl0:0≤lim) (hl1:lim≤1000) {l:List α} (hl:l.length=n) (hD:Dm dom l) (hF:Flo lt a b l) :
  ∃x E l',RT polSo 83 (sn 7295 B83) (WE (.sl db 0 n cap n 3) (.i (a:Int)) (.i (b:Int)) (.i lim) (.func 77 [] []) (.bool bal) (.bool par) (.i (k:Int)) (.i (p:Int)) h Ud Ud Ud Ud Ud Ud) (Mm enc H db l []) x E (Mm enc H db l' [])∧Out enc lt dom H db n cap a b l x E l':=by
 have hn:=S.nb
 by_cases c0:0<a
 ·have hp:qA.wrap ((a:Int)-1)=((a-1:Nat):Int):=QJ (by omega) (by omega)
  by_cases c:lt (at_ l (a-1)) (at_ l p)
  ·obtain ⟨cc,N,hN,hc⟩:=S.ct (T:=[]) hl rfl (hD.at (i:=a-1) (by omega)) (hD.at (i:=p) (by omega)) c
   have t1:=QkB N db n cap (Mm enc H db l []) 0 a b lim p (y10:=.bool bal) (y11:=.bool par) (y12:=.i (k:Int)) (y14:=h) (y15:=Ud) (y16:=Ud) (y17:=Ud) (y18:=Ud) (y19:=Ud) (y20:=Ud) (by omega) (ixs hp (by omega)) (S.ld l _ _ hl (by omega)) (ixs (i:=p) rfl (by omega)) (S.ld l _ _ hl (by omega)) hN hc
   obtain ⟨x,E,l',t,ho⟩:=Qoc S hL (cap:=cap) (k:=k) (bal:=bal) (par:=par) (h:=h) hd hp1 hp2 hb hk hl0 hl1 hl hD hF
   exact ⟨x,E,l',sq t1 t (c:=sn 7295 B83),ho⟩
  ·obtain ⟨cc,N,hN,hc⟩:=S.cf (T:=[]) hl rfl (hD.at (i:=a-1) (by omega)) (hD.at (i:=p) (by omega)) c
   obtain ⟨m,l4,hc4,w1,w2,w3,w4⟩:=QjW S (cap:=cap) (T:=[]) hL rfl hb hp1 hp2 hl hD
   obtain ⟨N4,hN4⟩:=hc4.from
   have t1:=QkC (N+N4) db n cap (Mm enc H db l []) 0 a b lim p (y10:=.bool bal) (y11:=.bool par) (y12:=.i (k:Int)) (y14:=h) (y15:=Ud) (y16:=Ud) (y17:=Ud) (y18:=Ud) (y19:=Ud) (y20:=Ud) (by omega) (ixs hp (by omega)) (S.ld l _ _ hl (by omega)) (ixs (i:=p) rfl (by omega)) (S.ld l _ _ hl (by omega)) (fun kf hk=>hN kf (by omega)) hc (fun kf hk=>hN4 kf (by omega))
   have hlow:∀k,a≤k→k<b→¬lt (at_ l4 k) (at_ l (a-1)):=w1.all (by omega) (Q:=fun x=>¬lt x (at_ l (a-1))) (qB _) (qB _) (hF c0)
   refine ⟨_,_,l4,sqo t1 (c:=sn 7295 B83) (b:=sn 14591 B83),w1,.inr ⟨.inr rfl,m,b,lim,bal,par,_,_,_,_,_,_,_,_,_,rfl,by omega,by omega,by omega,qB _,hl0,hl1,fun _ k h1 h2=>?_,fun l5 u1 u2=>?_⟩⟩
   ·exact hL.tr _ _ _ (w3 (m-1) (by omega) (by omega)) (hL.asy _ _ (w4 k h1 h2))
   ·have hl4:=Ww w1 hl
    have hr:∀k,m≤k→k<b→lt (at_ l p) (at_ l5 k):=u1.all (by omega) (Q:=fun x=>lt (at_ l p) x) (qB _) (qB _) w4
    intro i j q1 q2 q3
    by_cases c1:j<m
    ·rw [u1.out (by omega) (k:=i) (by omega),u1.out (by omega) (k:=j) (by omega)]
     exact hL.tr _ _ _ (hL.tr _ _ _ (w3 i q1 (by omega)) c) (hlow j (by omega) q3)
    ·by_cases c2:i<m
     ·rw [u1.out (by omega) (k:=i) (by omega)]
      exact hL.tr _ _ _ (w3 i q1 c2) (hL.asy _ _ (hr j (by omega) q3))
     ·exact u2 i j (by omega) q2 q3
 ·have t1:=QkD 0 db n cap (Mm enc H db l []) 0 a b lim p (y10:=.bool bal) (y11:=.bool par) (y12:=.i (k:Int)) (y14:=h) (y15:=Ud) (y16:=Ud) (y17:=Ud) (y18:=Ud) (y19:=Ud) (y20:=Ud) (by omega)
  obtain ⟨x,E,l',t,ho⟩:=Qoc S hL (cap:=cap) (k:=k) (bal:=bal) (par:=par) (h:=h) hd hp1 hp2 hb hk hl0 hl1 hl hD hF
  exact ⟨x,E,l',sq t1 t (c:=sn 7295 B83),ho⟩
theorem Qod (S:So enc lt dom H db n) (hL:Lin lt) {a b k p:Nat} {lim h:Int} {bal par:Bool} (hd:Yz enc lt dom H db n cap (b-a)) (hp1:a≤p) (hp2:p<b) (hb:b≤n) (hk:k≤n) (hl0:0≤lim) (hl1:lim≤1000) {l:List α} (hl:l.length=n) (hD:Dm dom l) (hF:Flo lt a b l) :
  ∃x E l',RT polSo 83 (sn 3647 B83) (WE (.sl db 0 n cap n 3) (.i (a:Int)) (.i (b:Int)) (.i lim) (.func 77 [] []) (.bool bal) (.bool par) (.i (k:Int)) (.i (p:Int)) (.i h) Ud Ud Ud Ud Ud Ud) (Mm enc H db l []) x E (Mm enc H db l' [])∧Out enc lt dom H db n cap a b l x E l':=by
 have hn:=S.nb
 have on:∀(l3:List α),Sw a b l l3→RT polSo 83 (sn 7294 B83) (WE (.sl db 0 n cap n 3) (.i (a:Int)) (.i (b:Int)) (.i lim) (.func 77 [] []) (.bool bal) (.bool par) (.i (k:Int)) (.i (p:Int)) (.i h) Ud Ud Ud Ud Ud Ud) (Mm enc H db l []) .normal (WE (.sl db 0 n cap n 3) (.i (a:Int)) (.i (b:Int)) (.i lim) (.func 77 [] []) (.bool bal) (.bool par) (.i (k:Int)) (.i (p:Int)) (.i h) Ud Ud Ud Ud Ud Ud) (Mm enc H db l3 []) →
   ∃x E l',RT polSo 83 (sn 3647 B83) (WE (.sl db 0 n cap n 3) (.i (a:Int)) (.i (b:Int)) (.i lim) (.func 77 [] []) (.bool bal) (.bool par) (.i (k:Int)) (.i (p:Int)) (.i h) Ud Ud Ud Ud Ud Ud) (Mm enc H db l []) x E (Mm enc H db l' [])∧Out enc lt dom H db n cap a b l x E l':=fun l3 w t1=>by
  obtain ⟨x,E,l',t,ho⟩:=QoV S hL (cap:=cap) (k:=k) (bal:=bal) (par:=par) (h:=.int .i64 h) hd hp1 hp2 hb hk hl0 hl1 (Ww w hl) (hD.sw w (by omega)) (hF.sw (by omega) w)
  exact ⟨x,E,l',sq t1 t (c:=sn 3647 B83),Out.pre w ho⟩
 cases bal with
 | false=>exact on l .refl (QkA 0 db n cap (Mm enc H db l []) 0 a b lim h)
 | true =>
  cases par with
  | false=>exact on l .refl (Qkz 0 db n cap (Mm enc H db l []) 0 a b lim h)
  | true =>
   by_cases c:h=1
   ·obtain ⟨bb,l3,hc3,w1,w2⟩:=QjX S hL (cap:=cap) (T:=[]) rfl (a:=a) (by omega) hb hl hD hF
    obtain ⟨N3,hN3⟩:=hc3.from
    cases bb with
    | true =>
     have t1:=Qkw N3 db n cap (Mm enc H db l []) 0 a b lim h (y12:=.i (k:Int)) (y13:=.i (p:Int)) (y15:=Ud) (y16:=Ud) (y17:=Ud) (y18:=Ud) (y19:=Ud) (y20:=Ud) c hN3
     exact ⟨_,_,l3,sqo t1 (c:=sn 3647 B83) (b:=sn 7295 B83),w1,.inl ⟨rfl,w2 rfl⟩⟩
    | false=>exact on l3 w1 (Qkx N3 db n cap (Mm enc H db l []) 0 a b lim h c hN3)
   ·exact on l .refl (Qky 0 db n cap (Mm enc H db l []) 0 a b lim h c)
theorem QoW (S:So enc lt dom H db n) (hL:Lin lt) {a b k p:Nat} {lim h:Int} {bal par:Bool} (hd:Yz enc lt dom H db n cap (b-a)) (hp1:a≤p) (hp2:p<b) (hb:b≤n) (hk:k≤n) (hl0:0≤lim) (hl1:lim≤1000) {l:List α} (hl:l.length=n) (hD:Dm dom l) (hF:Flo lt a b l) :
  ∃x E l',RT polSo 83 (sn 1823 B83) (WE (.sl db 0 n cap n 3) (.i (a:Int)) (.i (b:Int)) (.i lim) (.func 77 [] []) (.bool bal) (.bool par) (.i (k:Int)) (.i (p:Int)) (.i h) Ud Ud Ud Ud Ud Ud) (Mm enc H db l []) x E (Mm enc H db l' [])∧Out enc lt dom H db n cap a b l x E l':=by
 have hn:=S.nb
 by_cases c:h=2
 ·obtain ⟨l2,hc2,w⟩:=Qi5 S (cap:=cap) (T:=[]) (a:=a) (b:=b) (by omega) hb hl
  obtain ⟨N2,hN2⟩:=hc2.from
  have t1:=Qku N2 db n cap (Mm enc H db l []) 0 a b lim p h (y10:=.bool bal) (y11:=.bool par) (y12:=.i (k:Int)) (y15:=Ud) (y16:=Ud) (y17:=Ud) (y18:=Ud) (y19:=Ud) (y20:=Ud) c hN2
  have e1:qA.wrap ((b:Int)-1)=((b-1:Nat):Int):=QJ (by omega) (by omega)
  have e2:qA.wrap ((p:Int)-(a:Int))=((p-a:Nat):Int):=(by rw [Qn (by omega) (by omega)];omega)
  have e3:qA.wrap (((b-1:Nat):Int)-((p-a:Nat):Int))=((b-1-(p-a):Nat):Int):=(by rw [Qn (by omega) (by omega)];omega)
  rw [e1,e2,e3] at t1
  obtain ⟨x,E,l',t,ho⟩:=Qod S hL (cap:=cap) (k:=k) (p:=b-1-(p-a)) (bal:=bal) (par:=par) (h:=1) hd (by omega) (by omega) hb hk hl0 hl1 (Ww w hl) (hD.sw w (by omega)) (hF.sw (by omega) w)
  exact ⟨x,E,l',sq t1 t (c:=sn 1823 B83),Out.pre w ho⟩
 ·have t1:=Qkv 0 db n cap (Mm enc H db l []) 0 a b lim p h (y10:=.bool bal) (y11:=.bool par) (y12:=.i (k:Int)) (y15:=Ud) (y16:=Ud) (y17:=Ud) (y18:=Ud) (y19:=Ud) (y20:=Ud) c
  obtain ⟨x,E,l',t,ho⟩:=Qod S hL (cap:=cap) (k:=k) (p:=p) (bal:=bal) (par:=par) (h:=h) hd hp1 hp2 hb hk hl0 hl1 hl hD hF
  exact ⟨x,E,l',sq t1 t (c:=sn 1823 B83),ho⟩
theorem QoX (S:So enc lt dom H db n) (hL:Lin lt) {a b:Nat} {lim:Int} {bal par:Bool} (hd:Yz enc lt dom H db n cap (b-a)) (hab:a≤b) (hb:b≤n) (hl0:0≤lim) (hl1:lim≤1000) {l:List α} (hl:l.length=n) (hD:Dm dom l) (hF:Flo lt a b l) :
  ∃x E l',RT polSo 83 (sn 56 B83) (WE (.sl db 0 n cap n 3) (.i (a:Int)) (.i (b:Int)) (.i lim) (.func 77 [] []) (.bool bal) (.bool par) Ud Ud Ud Ud Ud Ud Ud Ud Ud) (Mm enc H db l []) x E (Mm enc H db l' [])∧Out enc lt dom H db n cap a b l x E l':=by
 have hn:=S.nb
 have t0:=Qkm 0 db n cap (Mm enc H db l []) 0 a b lim (y10:=.bool bal) (y11:=.bool par) (y12:=Ud) (y13:=Ud) (y14:=Ud) (y15:=Ud) (y16:=Ud) (y17:=Ud) (y18:=Ud) (y19:=Ud) (y20:=Ud)
 have e0:qA.wrap ((b:Int)-(a:Int))=((b-a:Nat):Int):=(by rw [Qn (by omega) (by omega)];omega)
 rw [e0] at t0
 by_cases c1:b-a≤12
 ·obtain ⟨l',hc,w1,w2⟩:=Qi4 S hL (cap:=cap) (T:=[]) rfl hab hb hl hD
  obtain ⟨N1,hN1⟩:=hc.from
  have t1:=Qkn N1 db n cap (Mm enc H db l []) 0 a b lim (b-a) (y10:=.bool bal) (y11:=.bool par) (y13:=Ud) (y14:=Ud) (y15:=Ud) (y16:=Ud) (y17:=Ud) (y18:=Ud) (y19:=Ud) (y20:=Ud) (by omega) hN1
  exact ⟨_,_,l',sq (t0) (sqo (t1) (c:=sn 113 B83) (b:=sn 227 B83)) (c:=sn 56 B83),w1,.inl ⟨rfl,w2⟩⟩
 have t1:=Qko 0 db n cap (Mm enc H db l []) 0 a b lim (b-a) (y10:=.bool bal) (y11:=.bool par) (y13:=Ud) (y14:=Ud) (y15:=Ud) (y16:=Ud) (y17:=Ud) (y18:=Ud) (y19:=Ud) (y20:=Ud) (by omega)
 by_cases c2:lim=0
 ·obtain ⟨l',hc,w1,w2⟩:=QeZ S hL (cap:=cap) (T:=[]) rfl (a:=a) (by omega) hb hl hD
  obtain ⟨N1,hN1⟩:=hc.from
  have t2:=Qkp N1 db n cap (Mm enc H db l []) 0 a b lim (y10:=.bool bal) (y11:=.bool par) (y12:=.i ((b-a:Nat):Int)) (y13:=Ud) (y14:=Ud) (y15:=Ud) (y16:=Ud) (y17:=Ud) (y18:=Ud) (y19:=Ud) (y20:=Ud) c2 hN1
  exact ⟨_,_,l',sq (t0) (sq (t1) (sqo (t2) (c:=sn 227 B83) (b:=sn 455 B83)) (c:=sn 113 B83)) (c:=sn 56 B83),w1,.inl ⟨rfl,w2⟩⟩
 have t2:=Qkq 0 db n cap (Mm enc H db l []) 0 a b lim (y10:=.bool bal) (y11:=.bool par) (y12:=.i ((b-a:Nat):Int)) (y13:=Ud) (y14:=Ud) (y15:=Ud) (y16:=Ud) (y17:=Ud) (y18:=Ud) (y19:=Ud) (y20:=Ud) c2
 have on:∀(lim1:Int) (l1:List α),0≤lim1→lim1≤1000→Sw a b l l1→RT polSo 83 (sn 910 B83) (WE (.sl db 0 n cap n 3) (.i (a:Int)) (.i (b:Int)) (.i lim) (.func 77 [] []) (.bool bal) (.bool par) (.i ((b-a:Nat):Int)) Ud Ud Ud Ud Ud Ud Ud Ud) (Mm enc H db l []) .normal (WE (.sl db 0 n cap n 3) (.i (a:Int)) (.i (b:Int)) (.i lim1) (.func 77 [] []) (.bool bal) (.bool par) (.i ((b-a:Nat):Int)) Ud Ud Ud Ud Ud Ud Ud Ud) (Mm enc H db l1 []) →
   ∃x E l',RT polSo 83 (sn 56 B83) (WE (.sl db 0 n cap n 3) (.i (a:Int)) (.i (b:Int)) (.i lim) (.func 77 [] []) (.bool bal) (.bool par) Ud Ud Ud Ud Ud Ud Ud Ud Ud) (Mm enc H db l []) x E (Mm enc H db l' [])∧Out enc lt dom H db n cap a b l x E l':=fun lim1 l1 hq0 hq1 w t3=>by
  have hl1':=Ww w hl
  have hD1:=hD.sw w (by omega)
  obtain ⟨p,h,hc,p1,p2⟩:=QkN S (cap:=cap) (a:=a) (b:=b) (by omega) hb hl1' hD1
  obtain ⟨N1,hN1⟩:=hc.from
  have t4:=Qkt N1 db n cap (Mm enc H db l1 []) 0 a b lim1 (y10:=.bool bal) (y11:=.bool par) (y12:=.i ((b-a:Nat):Int)) (y13:=Ud) (y14:=Ud) (y15:=Ud) (y16:=Ud) (y17:=Ud) (y18:=Ud) (y19:=Ud) (y20:=Ud) hN1
  obtain ⟨x,E,l',t,ho⟩:=QoW S hL (cap:=cap) (k:=b-a) (p:=p) (bal:=bal) (par:=par) (h:=h) hd p1 p2 hb (by omega) hq0 hq1 hl1' hD1 (hF.sw (by omega) w)
  have t5:=sq t4 t (c:=sn 911 B83)
  have t6:=sq t3 t5 (c:=sn 455 B83)
  have t7:=sq t2 t6 (c:=sn 227 B83)
  have t8:=sq t1 t7 (c:=sn 113 B83)
  exact ⟨x,E,l',sq t0 t8 (c:=sn 56 B83),Out.pre w ho⟩
 cases bal with
 | true=>exact on lim l hl0 hl1 .refl (Qkr 0 db n cap (Mm enc H db l []) 0 a b lim)
 | false =>
  obtain ⟨l1,hc,w⟩:=QkP S (cap:=cap) (a:=a) (b:=b) (by omega) hb hl
  obtain ⟨N1,hN1⟩:=hc.from
  have t3:=Qks N1 db n cap (Mm enc H db l []) 0 a b lim (y11:=.bool par) (y12:=.i ((b-a:Nat):Int)) (y13:=Ud) (y14:=Ud) (y15:=Ud) (y16:=Ud) (y17:=Ud) (y18:=Ud) (y19:=Ud) (y20:=Ud) hN1
  rw [Qn (n:=lim-1) (by omega) (by omega)] at t3
  exact on (lim-1) l1 (by omega) (by omega) w t3
theorem Qe9 (S:So enc lt dom H db n) (hL:Lin lt):∀(d:Nat) (a b:Nat) (lim:Int) (bal par:Bool) (l:List α),b-a<d→Yz enc lt dom H db n cap (b-a)→a≤b→b≤n→0≤lim→lim≤1000→l.length=n→Dm dom l→Flo lt a b l →
  ∃E l',RT polSo 83 (sn 14 B83) (WE (.sl db 0 n cap n 3) (.i (a:Int)) (.i (b:Int)) (.i lim) (.func 77 [] []) (.bool bal) (.bool par) Ud Ud Ud Ud Ud Ud Ud Ud Ud) (Mm enc H db l []) .ret E (Mm enc H db l' [])∧Sw a b l l'∧Sorted lt a b l':=by
 have hn:=S.nb
 intro d
 induction d with
 | zero=>intro a b lim bal par l hd;omega
 | succ d ih =>
  intro a b lim bal par l hd hP hab hb h0 h1 hl hD hF
  obtain ⟨x,E,l1,t,w,ho⟩:=QoX S hL (cap:=cap) (bal:=bal) (par:=par) hP hab hb h0 h1 hl hD hF
  rcases ho with ⟨rfl,hs⟩ | ⟨hx,a',b',lim',bal',par',y2,y3,y4,y5,y6,y7,y8,y9,y10,rfl,q1,q2,q3,q4,q5,q6,q7,q8⟩
  ·exact ⟨_,l1,lpo (RunsTo.block_ret (i:=1) (c:=sn 28 B83) t (by kernel_rfl)),w,hs⟩
  ·have st:RT polSo 83 (sn 28 B83) (WE (.sl db 0 n cap n 3) (.i (a:Int)) (.i (b:Int)) (.i lim) (.func 77 [] []) (.bool bal) (.bool par) Ud Ud Ud Ud Ud Ud Ud Ud Ud) (Mm enc H db l []) .normal (WE (.sl db 0 n cap n 3) (.i (a':Int)) (.i (b':Int)) (.i lim') (.func 77 [] []) (.bool bal') (.bool par') y2 y3 y4 y5 y6 y7 y8 y9 y10) (Mm enc H db l1 []):=by
    rcases hx with rfl | rfl
    ·exact RunsTo.block_normal (i:=1) t (by kernel_rfl)
    ·exact bke t
   have hl1:=Ww w hl
   obtain ⟨E,l2,r,v1,v2⟩:=ih a' b' lim' bal' par' l1 (by omega) (fun a2 b2 lim2 l2 g1=>hP a2 b2 lim2 l2 (by omega)) q3 (by omega) q5 q6 hl1 (hD.sw w (by omega)) q7
   exact ⟨E,l2,lop (st) (gcM _ _ _ _ _ rfl) (r),w.trans (v1.mono q2 q4),q8 l2 v1 v2⟩
theorem QkQ (S:So enc lt dom H db n) (hL:Lin lt) {a b:Nat} {lim:Int} {l:List α} (hP:Yz enc lt dom H db n cap (b-a)) (hab:a≤b) (hb:b≤n) (h0:0≤lim) (h1:lim≤1000) (hl:l.length=n) (hD:Dm dom l) (hF:Flo lt a b l) :
  ∃l',ClS 83 [.sl db 0 n cap n 3,.int .i64 (a:Int),.int .i64 (b:Int),.int .i64 lim,.func 77 [] []] (Mm enc H db l []) (.tuple []) (Mm enc H db l' [])∧Sw a b l l'∧Sorted lt a b l':=by
 obtain ⟨E,l',r,q⟩:=Qe9 S hL (cap:=cap) _ a b lim true true l (Nat.lt_succ_self _) hP hab hb h0 h1 hl hD hF
 have t0:=Qkk 0 db n cap (Mm enc H db l []) 0 a b lim
 have t1:=Qkl 0 db n cap (Mm enc H db l []) 0 a b lim (y10:=.bool true) (y11:=Ud) (y12:=Ud) (y13:=Ud) (y14:=Ud) (y15:=Ud) (y16:=Ud) (y17:=Ud) (y18:=Ud) (y19:=Ud) (y20:=Ud)
 have t:=sq (t0) (sq (t1) (RunsTo.block_ret (i:=0) (c:=sn 7 B83) (r) (by kernel_rfl)) (c:=sn 3 B83)) (c:=B83)
 have hc:=CallsTo.shared (P:=Tp) (pol:=polSo) (g:=83) (fn:=Try.f83) (cd:=B83) (args:=[.sl db 0 n cap n 3,.int .i64 (a:Int),.int .i64 (b:Int),.int .i64 lim,.func 77 [] []]) (v:=.tuple []) (by kernel_rfl) (by kernel_rfl) (by kernel_rfl) (by kernel_rfl) t (by kernel_rfl) (by simp) (by kernel_rfl)
 rw [gcM _ _ _ _ _ rfl] at hc
 exact ⟨l',hc,q⟩
theorem Qaj (S:So enc lt dom H db n) (hL:Lin lt):∀d,Yz enc lt dom H db n cap d
 | 0,_,_,_,_,h=>by omega
 | d+1,a,b,lim,l,h=>fun hab hb h0 h1 hl hD hF=>QkQ S hL (fun a2 b2 lim2 l2 g=>Qaj S hL d a2 b2 lim2 l2 (by omega)) hab hb h0 h1 hl hD hF
theorem QkR (S:So enc lt dom H db n) (hL:Lin lt) {lim:Int} (h0:0≤lim) (h1:lim≤1000) {l:List α} (hl:l.length=n) (hD:Dm dom l) :
  ∃l',ClS 83 [.sl db 0 n cap n 3,.int .i64 0,.int .i64 (n:Int),.int .i64 lim,.func 77 [] []] (Mm enc H db l []) (.tuple []) (Mm enc H db l' [])∧l'.Perm l∧Sorted lt 0 n l':=by
 obtain ⟨l',hc,w,hs⟩:=Qaj S hL (cap:=cap) (n+1) 0 n lim l (by omega) (qD _) (qB _) h0 h1 hl hD (fun h=>by omega)
 exact ⟨l',hc,w.perm (by omega),hs⟩
end
abbrev Ed:=Int×Int×Int
def Qs (e:Ed):HV:=.agg [.int .i64 e.1,.int .i64 e.2.1,.int .i64 e.2.2]
def QoY (e:Ed):HV:=.agg [.int .i64 e.2.1,.int .i64 e.2.2,.int .i64 e.1]
def ltE (x y:Ed):Prop:=x.1<y.1∨(x.1=y.1∧(x.2.1<y.2.1∨(x.2.1=y.2.1∧x.2.2<y.2.2)))
theorem ltE_lin:Lin ltE:=⟨fun x y z h1 h2=>by unfold ltE at *;omega,fun x y h=>by unfold ltE at *;omega⟩
theorem Qfa {x y:Ed} (h1:¬ltE x y) (h2:¬ltE y x):x=y:=by
 obtain ⟨a,b,c⟩:=x
 obtain ⟨d,e,f⟩:=y
 unfold ltE at h1 h2
 simp only at h1 h2
 have:a=d∧b=e∧c=f:=by omega
 obtain ⟨rfl,rfl,rfl⟩:=this
 rfl
theorem Qbk {x y z:Ed} (h1:ltE x y) (h2:ltE y z):ltE x z:=by unfold ltE at *;omega
theorem Qfb (x y:Ed):JC [ZO x.1 y.1,ZO x.2.1 y.2.1,ZO x.2.2 y.2.2]<0↔ltE x y:=by
 unfold ltE ZO JC JC JC JC
 split <;> rename_i h1 <;> (try split at h1) <;> (try split) <;> (try split) <;> (try split) <;> (try split) <;> omega
theorem X4:∀{l l':List Ed},l.Pairwise ltE→l'.Pairwise ltE→(∀e,e∈l↔e∈l')→l=l'
 | [],[],_,_,_=>rfl
 | [],y::l',_,_,h=>by have:=(h y).2 (by simp);cases this
 | x::l,[],_,_,h=>by have:=(h x).1 (by simp);cases this
 | x::l,y::l',h1,h2,h=>by
  have h1':=List.pairwise_cons.1 h1
  have h2':=List.pairwise_cons.1 h2
  have e:x=y:=by
   rcases List.mem_cons.1 ((h x).1 (by simp)) with e | hx
   ·exact e
   ·rcases List.mem_cons.1 ((h y).2 (by simp)) with e | hy
    ·exact e.symm
    ·exact absurd (h1'.1 y hy) (ltE_lin.asy _ _ (h2'.1 x hx))
  subst e
  have irr:¬ltE x x:=ltE_lin.rf x
  rw [X4 h1'.2 h2'.2 fun e=>?_]
  constructor
  ·intro he
   rcases List.mem_cons.1 ((h e).1 (by simp [he])) with rfl | h3
   ·exact absurd (h1'.1 _ he) irr
   ·exact h3
  ·intro he
   rcases List.mem_cons.1 ((h e).2 (by simp [he])) with rfl | h3
   ·exact absurd (h2'.1 _ he) irr
   ·exact h3
theorem Qbl {l:List Ed} (hs:Sorted ltE 0 l.length l) (hn:l.Nodup):l.Pairwise ltE:=by
 rw [List.pairwise_iff_getElem]
 intro i j hi hj hij
 have h1:=hs i j (qD _) hij hj
 have e1:at_ l i=l[i]:=by simp [at_,qE,qC hi]
 have e2:at_ l j=l[j]:=by simp [at_,qE,qC hj]
 rw [e1,e2] at h1
 refine Classical.byContradiction fun h2=>?_
 have e:=Qfa h2 h1
 have h3:l[i]?=l[j]?:=by rw [qC hi,qC hj,e]
 have:=(List.getElem?_inj hi hn).1 h3
 omega
def cst (d:List (List Int)) (p:List Int) (a b:Nat):Int:=at2 d a b+p.getD a 0+p.getD b 0
abbrev mkE (d:List (List Int)) (p:List Int) (a b:Nat):Ed:=(cst d p a b,(a:Int),(b:Int))
def ZE (d:List (List Int)) (p:List Int) (b:Nat):Nat→Nat→List Ed
 | 0,_=>[]
 | k+1,a=>mkE d p a b::ZE d p b k (a+1)
def WS (d:List (List Int)) (p:List Int) (f:Nat):Nat→Nat→List Ed
 | 0,_=>[]
 | k+1,b=>ZE d p b (b-f) f++WS d p f k (b+1)
def Gg (e:Ed):List Ed→List Ed
 | []=>[e]
 | x::l=>if x.1≤e.1 then x::Gg e l else e::x::l
def Cl (d:List (List Int)) (p:List Int) (a:Nat):Nat→Nat→List Ed→List Ed
 | 0,_,o=>o
 | k+1,b,o=>Cl d p a k (b+1) (Gg (mkE d p a b) o)
def Cm (d:List (List Int)) (p:List Int):Nat→Nat→List Ed→List Ed
 | 0,_,o=>o
 | k+1,a,o=>Cm d p k (a+1) (Cl d p a (d.length-(a+1)) (a+1) o)
def edg (d:List (List Int)) (p:List Int) (f:Nat):List Ed:=Cm d p (d.length-f) f []
section
variable {d:List (List Int)} {p:List Int}
theorem Vs {b:Nat} {e:Ed}:∀k a,e∈ZE d p b k a↔∃x,(a≤x∧x<a+k)∧e=mkE d p x b
 | 0,a=>by simp only [ZE,qI,false_iff];rintro ⟨x,h,_⟩;omega
 | k+1,a=>by
  rw [ZE,qJ,Vs k (a+1)]
  constructor
  ·rintro (h | ⟨x,h,e⟩)
   ·exact ⟨a,by omega,h⟩
   ·exact ⟨x,by omega,e⟩
  ·rintro ⟨x,h,e⟩
   by_cases c:x=a
   ·subst c;exact .inl e
   ·exact .inr ⟨x,by omega,e⟩
theorem Vt {f:Nat} {e:Ed}:∀k b,e∈WS d p f k b↔∃x y,(f≤x∧x<y∧b≤y∧y<b+k)∧e=mkE d p x y
 | 0,b=>by simp only [WS,qI,false_iff];rintro ⟨x,y,h,_⟩;omega
 | k+1,b=>by
  rw [WS,List.mem_append,Vs,Vt k (b+1)]
  constructor
  ·rintro (⟨x,h,e⟩ | ⟨x,y,h,e⟩)
   ·exact ⟨x,b,by omega,e⟩
   ·exact ⟨x,y,by omega,e⟩
  ·rintro ⟨x,y,h,e⟩
   by_cases c:y=b
   ·subst c;exact .inl ⟨x,by omega,e⟩
   ·exact .inr ⟨x,y,by omega,e⟩
theorem Qak {a b x y:Nat} (h:mkE d p a b=mkE d p x y):a=x∧b=y:=by
 simp only [mkE,Prod.mk.injEq] at h
 omega
theorem Cn {b:Nat}:∀k a,(ZE d p b k a).Nodup
 | 0,a=>List.nodup_nil
 | k+1,a=>by
  rw [ZE,List.nodup_cons]
  refine ⟨fun h=>?_,Cn k (a+1)⟩
  obtain ⟨x,h1,h2⟩:=(Vs _ _).1 h
  have:=Qak h2;omega
theorem Co {f:Nat}:∀k b,(WS d p f k b).Nodup
 | 0,b=>List.nodup_nil
 | k+1,b=>by
  rw [WS,List.nodup_append]
  refine ⟨Cn _ _,Co k (b+1),fun e h1 e' h2 he=>?_⟩
  subst he
  obtain ⟨x,q1,q2⟩:=(Vs _ _).1 h1
  obtain ⟨x',y',q3,q4⟩:=(Vt _ _).1 h2
  have:=Qak (q2.symm.trans q4);omega
theorem X5 {f:Nat}:∀k b,(WS d p f k b).length≤k*(b+k)
 | 0,b=>by simp [WS]
 | k+1,b=>by
  have h1:=X5 (f:=f) k (b+1)
  have h2:∀k a,(ZE d p b k a).length=k:=fun k=>by
   induction k with
   | zero=>intro a;rfl
   | succ k ih=>intro a;simp [ZE,ih]
  rw [WS,List.length_append,h2]
  have e1:(k+1)*(b+(k+1))=k*(b+1+k)+(b+(k+1)):=by
   rw [Nat.add_mul,Nat.one_mul];congr 1;congr 1;omega
  rw [e1];omega
theorem UB {e x:Ed}:∀l,x∈Gg e l↔x=e∨x∈l
 | []=>by simp [Gg]
 | y::l=>by
  rw [Gg]
  split
  ·rw [qJ,UB l,qJ]
   constructor
   ·rintro (h | h | h)
    ·exact .inr (.inl h)
    ·exact .inl h
    ·exact .inr (.inr h)
   ·rintro (h | h | h)
    ·exact .inr (.inl h)
    ·exact .inl h
    ·exact .inr (.inr h)
  ·simp
theorem YA {e:Ed}:∀l:List Ed,l.Pairwise ltE→(∀x∈l,x.1≤e.1→ltE x e)→(Gg e l).Pairwise ltE
 | [],_,_=>by simp [Gg]
 | y::l,h,hl=>by
  have h':=List.pairwise_cons.1 h
  rw [Gg]
  split
  ·rename_i c
   refine List.pairwise_cons.2 ⟨fun z hz=>?_,YA l h'.2 fun x hx=>hl x (by simp [hx])⟩
   rcases (UB l).1 hz with rfl | hz
   ·exact hl y (by simp) c
   ·exact h'.1 z hz
  ·rename_i c
   have hey:ltE e y:=.inl (by omega)
   refine List.pairwise_cons.2 ⟨fun z hz=>?_,h⟩
   rcases List.mem_cons.1 hz with rfl | hz
   ·exact hey
   ·exact Qbk hey (h'.1 z hz)
theorem Cq {a f:Nat} (hf:f≤a):∀k b o,a<b→(o:List Ed).Pairwise ltE→(∀e,e∈o↔∃x y,(f≤x∧x<y∧((x<a∧y<b+k)∨(x=a∧y<b)))∧e=mkE d p x y) →
  (Cl d p a k b o).Pairwise ltE∧∀e,e∈Cl d p a k b o↔∃x y,(f≤x∧x<y∧x≤a∧y<b+k)∧e=mkE d p x y
 | 0,b,o,_,h1,h2=>by
  refine ⟨h1,fun e=>(h2 e).trans ?_⟩
  constructor
  ·rintro ⟨x,y,h,e⟩;exact ⟨x,y,by omega,e⟩
  ·rintro ⟨x,y,h,e⟩;exact ⟨x,y,by omega,e⟩
 | k+1,b,o,hb,h1,h2=>by
  rw [Cl]
  have:=Cq hf k (b+1) (Gg (mkE d p a b) o) (by omega) (YA o h1 fun x hx hc=>?_) (fun e=>?_)
  ·refine ⟨this.1,fun e=>(this.2 e).trans ?_⟩
   rw [show b+1+k=b+(k+1) by omega]
  ·obtain ⟨u,v,h3,rfl⟩:=(h2 x).1 hx
   simp only [mkE] at hc
   unfold ltE
   simp only [mkE]
   omega
  ·rw [UB,h2]
   constructor
   ·rintro (h | ⟨x,y,h,e⟩)
    ·exact ⟨a,b,by omega,h⟩
    ·exact ⟨x,y,by omega,e⟩
   ·rintro ⟨x,y,h,e⟩
    by_cases c:x=a∧y=b
    ·obtain ⟨rfl,rfl⟩:=c;exact .inl e
    ·exact .inr ⟨x,y,by omega,e⟩
theorem Cr {f:Nat}:∀k a o,a+k=d.length→f≤a→(o:List Ed).Pairwise ltE→(∀e,e∈o↔∃x y,(f≤x∧x<y∧x<a∧y<d.length)∧e=mkE d p x y) →
  (Cm d p k a o).Pairwise ltE∧∀e,e∈Cm d p k a o↔∃x y,(f≤x∧x<y∧y<d.length)∧e=mkE d p x y
 | 0,a,o,ha,_,h1,h2=>by
  refine ⟨h1,fun e=>(h2 e).trans ?_⟩
  constructor
  ·rintro ⟨x,y,h,e⟩;exact ⟨x,y,by omega,e⟩
  ·rintro ⟨x,y,h,e⟩;exact ⟨x,y,by omega,e⟩
 | k+1,a,o,ha,hf,h1,h2=>by
  rw [Cm]
  obtain ⟨q1,q2⟩:=Cq (d:=d) (p:=p) hf (d.length-(a+1)) (a+1) o (by omega) h1 (fun e=>(h2 e).trans (by
   constructor
   ·rintro ⟨x,y,h,e⟩;exact ⟨x,y,by omega,e⟩
   ·rintro ⟨x,y,h,e⟩;exact ⟨x,y,by omega,e⟩))
  refine Cr k (a+1) _ (by omega) (by omega) q1 fun e=>(q2 e).trans ?_
  constructor
  ·rintro ⟨x,y,h,e⟩;exact ⟨x,y,by omega,e⟩
  ·rintro ⟨x,y,h,e⟩;exact ⟨x,y,by omega,e⟩
theorem JP {f:Nat} (hf:f≤d.length):(edg d p f).Pairwise ltE∧∀e,e∈edg d p f↔∃x y,(f≤x∧x<y∧y<d.length)∧e=mkE d p x y :=
 Cr _ f [] (by omega) (qB _) List.Pairwise.nil fun e=>by
  simp only [qI,false_iff];rintro ⟨x,y,h,_⟩;omega
theorem QkS {f:Nat} (hf:f≤d.length) {l:List Ed} (hp:l.Perm (WS d p f d.length 0)) (hs:Sorted ltE 0 l.length l):l=edg d p f:=by
 obtain ⟨h1,h2⟩:=JP (d:=d) (p:=p) hf
 refine X4 (Qbl hs (hp.nodup_iff.2 (Co _ _))) h1 fun e=>?_
 rw [hp.mem_iff,Vt,h2]
 constructor
 ·rintro ⟨x,y,h,e⟩;exact ⟨x,y,by omega,e⟩
 ·rintro ⟨x,y,h,e⟩;exact ⟨x,y,by omega,e⟩
end
theorem a91:Qw Tp 91=true:=by kernel_rfl
theorem s91:Qm Tp 91=some 3:=by kernel_rfl
theorem So.edge {H:Heap} {db n:Nat} (hn:n≤60000) (hd:db<H.length) (hx:mxs H≤H.length):So Qs ltE (fun _=>True) H db n:=by
 have hb:∀(l:List Ed) (T:Heap),(Mm Qs H db l T)[db]?=some (bE Qs l):=fun l T=>by
  unfold Mm
  rw [List.getElem?_append_left (by simpa using hd),List.getElem?_set_self hd]
 refine ⟨hn,hd,hx,fun l T i hl hi=>?_,fun l T i x hl hi=>?_,fun l T x y hl hT _ _=>?_⟩
 ·have hi':(l.map Qs)[i]?=some (Qs (at_ l i)):=by rw [List.getElem?_map,qC (by omega)];simp [at_,qE,qC (show i<l.length by omega)]
  exact Xq (b:=db) (hb l T) (by simpa using hl.symm) hi' a91 s91
 ·have hi':(l.map Qs)[i]?=some (Qs (at_ l i)):=by rw [List.getElem?_map,qC (by omega)];simp [at_,qE,qC (show i<l.length by omega)]
  have:=Vm (P:=Tp) (t:=91) (b:=db) (i:=i) (tot:=n) (new:=[.int .i64 x.1,.int .i64 x.2.1,.int .i64 x.2.2]) (hb l T) (by simpa using hl.symm) hi' s91 rfl (by simp) rfl rfl
  rw [show Qs x=.agg [.int .i64 x.1,.int .i64 x.2.1,.int .i64 x.2.2] from rfl,this]
  congr 1
  unfold Mm
  rw [List.set_append_left _ _ (by simpa using hd),List.set_set]
  congr 2
  unfold bE
  congr 1
  rw [List.map_set];rfl
 ·refine ⟨JC [ZO x.1 y.1,ZO x.2.1 y.2.1,ZO x.2.2 y.2.2],0,fun kf _=>?_,Qfb x y⟩
  rw [Qt (pol:=polSo) (g:=77) (F:=D9) (by kernel_rfl) (rs:=[Qs x,Qs y]) (by simp only [Qs];rfl) (res:=.int .i64 (JC [ZO x.1 y.1,ZO x.2.1 y.2.1,ZO x.2.2 y.2.2])) rfl];rfl
theorem Qfc {H:Heap} {db:Nat} {l:List Ed} (h:H[db]?=some (bE Qs l)):Mm Qs H db l []=H:=by
 unfold Mm
 rw [qH]
 apply List.ext_getElem?
 intro i
 rw [List.getElem?_set]
 split
 ·rename_i e
  subst e
  rw [if_pos (Qd h),h]
 ·rfl
theorem Qda {H:Heap} {db n:Nat} {l:List Ed} (hn:n≤60000) (hl:l.length=n) (hb:H[db]?=some (bE Qs l)) (hx:mxs H≤H.length) :
  ∃l',ClS 76 [.sl db 0 n none n 3,.func 77 [] []] H (.tuple []) (H.set db (bE Qs l'))∧l'.Perm l∧Sorted ltE 0 l'.length l':=by
 have hd:=Qd hb
 have S:=So.edge (n:=n) hn hd hx
 have hlen:=Gb (x:=n) (by omega)
 obtain ⟨l',hc,h1,h2⟩:=QkR S ltE_lin (cap:=none) (lim:=(ZP n:Int)) (by omega) (by omega) hl (fun _ _=>trivial)
 obtain ⟨N,hN⟩:=hc.from
 rw [Qfc hb] at hN
 have hu:IntKind.u64.wrap (n:Int)=(n:Int):=by rw [JG];omega
 have t:=QkM N db n none H 0 (m0:=(ZP n:Int)) (H0:=H) (fun kf _=>by
  rw [hu,Qt (pol:=polSo) (g:=82) (F:=KC) (by kernel_rfl) (rs:=[.int .u64 (n:Int)]) rfl (res:=.int .i64 (ZP n:Int)) (by simp only [KC];rw [if_pos (by omega),qG])];rfl) hN
 have hc2:=CallsTo.shared (P:=Tp) (pol:=polSo) (g:=76) (fn:=Try.f76) (cd:=B76) (args:=[.sl db 0 n none n 3,.func 77 [] []]) (v:=.tuple []) (by kernel_rfl) (by kernel_rfl) (by kernel_rfl) (by kernel_rfl) t (by kernel_rfl) (by simp) (by kernel_rfl)
 have e:Mm Qs H db l' []=H.set db (bE Qs l'):=by unfold Mm;rw [qH]
 rw [e,WN _ (by simp)] at hc2
 exact ⟨l',hc2,h1,by rw [h1.length_eq,hl];exact h2⟩
end Go.Proofs.Ytlendaofkmhgmaa
end
section
open Go Go.HL
namespace Go.Proofs.Ytlendaofkmhgmaa
set_option maxRecDepth 100000
set_option linter.unusedSectionVars false
open Go.Proofs.Try renaming prog → Tp
open Go.HL.HV renaming undef → Ud
noncomputable def B70:Code:=Try.f70.body.getD .skip
abbrev UC (v0 v1 v2 v5 v6 v7 v8 v9 v11 v12:HV):Env:=[(0,v0),(1,v1),(2,v2),(5,v5),(6,v6),(7,v7),(8,v8),(9,v9),(11,v11),(12,v12)]
abbrev e70 (rw:List HV) (f:Nat) (ps:List HV) (m:Nat) (u6 u7 u8 u9:HV):Env:=UC (.a rw) (.n f) (.agg ps) (.q 0) (.imm .lit 3 []) (.sl 1 0 m none m 3) u6 u7 u8 u9
section
variable (N:Nat) (rw ps:List HV) (f:Nat)
include N rw ps f
theorem QkT (g0:(if (cellsOf (.agg ps)).all Ql then some (Wm (.agg ps) []) else none)=some (.q 0,[.arr 11 [.agg ps] true 0])): RT polSo 70 (sn 2 B70) [(0,.a rw),(1,.n f),(2,.agg ps)] [] .normal (UC (.a rw) (.n f) (.agg ps) (.q 0) (.imm .lit 3 []) Ud Ud Ud Ud Ud) [.arr 11 [.agg ps] true 0] :=
 hx N 60 [jR 0 0 g0]
end
section
variable (N:Nat) (rw ps:List HV) (f:Nat)
include N rw ps f
theorem QkU {y7 y8 y9 y11 y12:HV}: RT polSo 70 (sn 6 B70) (UC (.a rw) (.n f) (.agg ps) (.q 0) (.imm .lit 3 []) y7 y8 y9 y11 y12) [.arr 11 [.agg ps] true 0] .normal (UC (.a rw) (.n f) (.agg ps) (.q 0) (.imm .lit 3 []) (.sl 1 0 0 none 0 3) y8 y9 y11 y12) [.arr 11 [.agg ps] true 0,.arr 3 [] true 0] :=
 hx N 60 []
theorem QkV (m:Nat) (es:List HV) {y8 y9 y11 y12:HV}: RT polSo 70 (sn 28 B70) (e70 rw f ps m y8 y9 y11 y12) [.arr 11 [.agg ps] true 0,.arr 3 es true 0] .normal (e70 rw f ps m y8 y9 (.i (rw.length:Int)) (.i 0)) [.arr 11 [.agg ps] true 0,.arr 3 es true 0] :=
 hx N 60 []
theorem QkW (m:Nat) (es:List HV) (i:Nat) {y8 y9:HV} (g0:(i:Int)<(rw.length:Int)): RunsTo Tp polSo 70 (sn 232 B70) (e70 rw f ps m y8 y9 (.i (rw.length:Int)) (.n i)) [.arr 11 [.agg ps] true 0,.arr 3 es true 0] .normal [0,1,2,5,6,7,8,9,11,12,13] [(0,.a rw),(1,.n f),(2,.agg ps),(5,.q 0),(6,.imm .lit 3 []),(7,.sl 1 0 m none m 3),(8,y8),(9,y9),(11,.i (rw.length:Int)),(12,.n i),(13,.bool true)] [.arr 11 [.agg ps] true 0,.arr 3 es true 0] :=
 hx N 60 [jT 3 0 [.arr 11 [.agg ps] true 0,.arr 3 es true 0] g0]
theorem QkX (m:Nat) (es:List HV) (i:Nat) {y8 y9:HV} (g0:¬((i:Int)<(rw.length:Int))): RunsTo Tp polSo 70 (sn 232 B70) (e70 rw f ps m y8 y9 (.i (rw.length:Int)) (.n i)) [.arr 11 [.agg ps] true 0,.arr 3 es true 0] .normal [0,1,2,5,6,7,8,9,11,12,13] [(0,.a rw),(1,.n f),(2,.agg ps),(5,.q 0),(6,.imm .lit 3 []),(7,.sl 1 0 m none m 3),(8,y8),(9,y9),(11,.i (rw.length:Int)),(12,.n i),(13,.bool false)] [.arr 11 [.agg ps] true 0,.arr 3 es true 0] :=
 hx N 60 [jF 3 0 [.arr 11 [.agg ps] true 0,.arr 3 es true 0] g0]
theorem Qfd (m:Nat) (es:List HV) (i:Nat) {y8 y9:HV}: RT polSo 70 (sn 466 B70) [(0,.a rw),(1,.n f),(2,.agg ps),(5,.q 0),(6,.imm .lit 3 []),(7,.sl 1 0 m none m 3),(8,y8),(9,y9),(11,.i (rw.length:Int)),(12,.n i),(13,.bool true)] [.arr 11 [.agg ps] true 0,.arr 3 es true 0] .normal (e70 rw f ps m y8 y9 (.i (rw.length:Int)) (.n i)) [.arr 11 [.agg ps] true 0,.arr 3 es true 0] :=
 hx N 60 []
theorem Qfe (m:Nat) (es:List HV) (i:Nat) {y8 y9:HV}: RT polSo 70 (sn 466 B70) [(0,.a rw),(1,.n f),(2,.agg ps),(5,.q 0),(6,.imm .lit 3 []),(7,.sl 1 0 m none m 3),(8,y8),(9,y9),(11,.i (rw.length:Int)),(12,.n i),(13,.bool false)] [.arr 11 [.agg ps] true 0,.arr 3 es true 0] (.exit 0) (e70 rw f ps m y8 y9 (.i (rw.length:Int)) (.n i)) [.arr 11 [.agg ps] true 0,.arr 3 es true 0] :=
 hx N 60 []
theorem QkY (m:Nat) (es:List HV) (i:Nat) {y8 y9:HV}: RT polSo 70 (sn 3736 B70) (e70 rw f ps m y8 y9 (.i (rw.length:Int)) (.n i)) [.arr 11 [.agg ps] true 0,.arr 3 es true 0] .normal (e70 rw f ps m (.n i) y9 (.i (rw.length:Int)) (.n i)) [.arr 11 [.agg ps] true 0,.arr 3 es true 0] :=
 hx N 60 []
theorem QkZ (m:Nat) (es:List HV) (i:Nat) {y9:HV}: RT polSo 70 (sn 7474 B70) (e70 rw f ps m (.n i) y9 (.i (rw.length:Int)) (.n i)) [.arr 11 [.agg ps] true 0,.arr 3 es true 0] .normal (e70 rw f ps m (.n i) (.n f) (.i (rw.length:Int)) (.n i)) [.arr 11 [.agg ps] true 0,.arr 3 es true 0] :=
 hx N 60 []
theorem Qk0 (m:Nat) (es:List HV) (i j:Nat) {l0:List HV} {x0:Int} {x1:Int} {x2:Int} (g0:(j:Int)<(i:Int)) (g1:IX 68 (.a rw) (.n j) (.vptr (.a l0))) (g2:IX 23 (.a l0) (.n i) (.vptr (.i x0))) (g3:IX 66 (.q 0) (.n j) (.ptr 0 0 j 1)) (g4:LD [.arr 11 [.agg ps] true 0,.arr 3 es true 0] 3 (.ptr 0 0 j 1) (.i x1)) (g5:IX 66 (.q 0) (.n i) (.ptr 0 0 i 1)) (g6:LD [.arr 11 [.agg ps] true 0,.arr 3 es true 0] 3 (.ptr 0 0 i 1) (.i x2)) (g7:WV [.arr 11 [.agg ps] true 0,.arr 3 es true 0] 3 24 (.sl 1 0 m none m 3) [.agg [.i (qA.wrap (qA.wrap (x0+x1)+x2)),.n j,.n i]]=some (.sl 1 0 (m+1) none (m+1) 3,[.arr 11 [.agg ps] true 0,.arr 3 (es++[.agg [.i (qA.wrap (qA.wrap (x0+x1)+x2)),.n j,.n i]]) true 0])): RT polSo 70 (sn 29900 B70) (e70 rw f ps m (.n i) (.n j) (.i (rw.length:Int)) (.n i)) [.arr 11 [.agg ps] true 0,.arr 3 es true 0] .normal (UC (.a rw) (.n f) (.agg ps) (.q 0) (.imm .lit 3 []) (.sl 1 0 (m+1) none (m+1) 3) (.n i) (.i (qA.wrap ((j:Int)+1))) (.i (rw.length:Int)) (.n i)) [.arr 11 [.agg ps] true 0,.arr 3 (es++[.agg [.i (qA.wrap (qA.wrap (x0+x1)+x2)),.n j,.n i]]) true 0] :=
 hx N 60 [jT 6 2 [.arr 11 [.agg ps] true 0,.arr 3 es true 0] g0,jO 8 3 [.arr 11 [.agg ps] true 0,.arr 3 es true 0] g1,jO 8 6 [.arr 11 [.agg ps] true 0,.arr 3 es true 0] g2,jO 8 9 [.arr 11 [.agg ps] true 0,.arr 3 es true 0] g3,jO 8 10 [.arr 11 [.agg ps] true 0,.arr 3 es true 0] g4,jO 8 13 [.arr 11 [.agg ps] true 0,.arr 3 es true 0] g5,jO 8 14 [.arr 11 [.agg ps] true 0,.arr 3 es true 0] g6,jR 8 20 g7]
theorem Qdb (m:Nat) (es:List HV) (i j:Nat) (g0:¬((j:Int)<(i:Int))): RT polSo 70 (sn 29900 B70) (e70 rw f ps m (.n i) (.n j) (.i (rw.length:Int)) (.n i)) [.arr 11 [.agg ps] true 0,.arr 3 es true 0] (.exit 2) (e70 rw f ps m (.n i) (.n j) (.i (rw.length:Int)) (.n i)) [.arr 11 [.agg ps] true 0,.arr 3 es true 0] :=
 hx N 60 [jF 6 2 [.arr 11 [.agg ps] true 0,.arr 3 es true 0] g0]
theorem Qdc (m:Nat) (es:List HV) (i:Nat) {y8 y9:HV}: RT polSo 70 (sn 935 B70) (e70 rw f ps m y8 y9 (.i (rw.length:Int)) (.n i)) [.arr 11 [.agg ps] true 0,.arr 3 es true 0] .normal (e70 rw f ps m y8 y9 (.i (rw.length:Int)) (.i (qA.wrap ((i:Int)+1)))) [.arr 11 [.agg ps] true 0,.arr 3 es true 0] :=
 hx N 60 []
theorem Qk1 (m:Nat) (es:List HV) {y8 y9 y11 y12:HV} {H0:Heap} (g0:∀kf,N≤kf→Qa Tp polSo (kf+1) 76 [.sl 1 0 m none m 3,.func 77 [] []] [.arr 11 [.agg ps] true 0,.arr 3 es true 0]=some (.tuple [],H0)): RT polSo 70 (sn 15 B70) (e70 rw f ps m y8 y9 y11 y12) [.arr 11 [.agg ps] true 0,.arr 3 es true 0] .ret (UC (.a rw) (.n f) (.agg ps) (.q 0) (.sl 1 0 m none m 3) (.sl 1 0 m none m 3) y8 y9 y11 y12) H0 :=
 hx N 60 [jC 10 1 g0]
end
end Go.Proofs.Ytlendaofkmhgmaa
end
