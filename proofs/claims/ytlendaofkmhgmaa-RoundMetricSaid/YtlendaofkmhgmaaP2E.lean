/- A part of the proof. -/
import Derived.Test.YtlendaofkmhgmaaP2D
set_option linter.unusedVariables false
set_option linter.unusedSimpArgs false
set_option linter.unnecessarySimpa false
open Go.IntKind renaming i64 → qA
open Int renaming toNat_natCast → qB
open List renaming range → qC, getElem?_map → qD, getElem?_eq_getElem → qE, length_map → qF, getD → qG, getElem?_range → qH, length_cons → qI, take_of_length_le → qJ, length_singleton → qK
section
open Go Go.HL
namespace Go.Proofs.Ytlendaofkmhgmaa
set_option maxRecDepth 100000
set_option linter.unusedSectionVars false
open Go.Proofs.Try renaming prog → Tp
open Go.HL.HV renaming undef → Ud
noncomputable def B14:Code:=Try.f14.body.getD .skip
abbrev Q8 (v0 v1 v3 v4 v5 v6 v7 v8 v10 v11 v13 v14 v15 v16 v17 v18 v20 v21 v22 v23 v24 v25 v26 v27 v28:HV):Env:=[(0,v0),(1,v1),(3,v3),(4,v4),(5,v5),(6,v6),(7,v7),(8,v8),(10,v10),(11,v11),(13,v13),(14,v14),(15,v15),(16,v16),(17,v17),(18,v18),(20,v20),(21,v21),(22,v22),(23,v23),(24,v24),(25,v25),(26,v26),(27,v27),(28,v28)]
abbrev e14 (rw:List HV) (pa:Int) (pb:Int) (p0:Nat) (u4 u5 u6 u7 u8 u9 u10 u11 u12 u13 u14 u15 u16 u17 u18 u19 u20 u21 u22 u23 u24:HV):Env:=Q8 (.a rw) (.agg [.i pa,.i pb]) (.q p0) (.bool false) u4 u5 u6 u7 u8 u9 u10 u11 u12 u13 u14 u15 u16 u17 u18 u19 u20 u21 u22 u23 u24
section
variable (N:Nat) (rw:List HV) (pa pb:Int) (H:Heap)
include N rw pa pb H
theorem Qgg (p0:Nat) {H0:Heap} (g0:some (Wm (.agg [.i pa,.i pb]) H)=some (.q p0,H0)): RT QF 14 (sn 2 B14) [(0,.a rw),(1,.agg [.i pa,.i pb])] H .normal (e14 rw pa pb p0 Ud Ud Ud Ud Ud Ud Ud Ud Ud Ud Ud Ud Ud Ud Ud Ud Ud Ud Ud Ud Ud) H0 :=
 hx N 60 [jR 0 0 g0]
end
section
variable (N:Nat) (rw:List HV) (pa pb:Int) (H:Heap)
include N rw pa pb H
theorem Qgh (p0:Nat) (md:Int) {md0:Int} {H0:Heap} (g0:∀kf,Qa Tp QF (kf+1) 27 [.i (qA.wrap ((rw.length:Int)-2)),.i 8] H=some (.i md0,H0)) (y5 y6 y7 y8 y10 y11 y13 y14 y15 y16 y17 y18 y20 y21 y22 y23 y24 y25 y26 y27 y28:HV:=Ud): RT QF 14 (sn 6 B14) (e14 rw pa pb p0 y5 y6 y7 y8 y10 y11 y13 y14 y15 y16 y17 y18 y20 y21 y22 y23 y24 y25 y26 y27 y28) H .normal (e14 rw pa pb p0 (.i (qA.wrap (2+md0))) y6 y7 y8 y10 y11 y13 y14 y15 y16 y17 y18 y20 y21 y22 y23 y24 y25 y26 y27 y28) H0 :=
 hx N 60 [jD 1 3 g0]
theorem Qgi (p0 n ta tb:Nat) {H0:Heap} {H1:Heap} (g0:∀kf,Qa Tp QF (kf+1) 28 [.a rw,.n n,.i 1000] H=some (.s ta n,H0)) (g1:∀kf,Qa Tp QF (kf+1) 45 [.s ta n] H0=some (.s tb n,H1)) (y6 y7 y8 y10 y11 y13 y14 y15 y16 y17 y18 y20 y21 y22 y23 y24 y25 y26 y27 y28:HV:=Ud): RT QF 14 (sn 14 B14) (e14 rw pa pb p0 (.n n) y6 y7 y8 y10 y11 y13 y14 y15 y16 y17 y18 y20 y21 y22 y23 y24 y25 y26 y27 y28) H .normal (e14 rw pa pb p0 (.n n) (.s tb n) y7 y8 y10 y11 y13 y14 y15 y16 y17 y18 y20 y21 y22 y23 y24 y25 y26 y27 y28) H1 :=
 hx N 60 [jD 2 2 g0,jD 2 3 g1]
theorem Qgj (p0 n tb:Nat) {v0:HV} {H0:Heap} (g0:some (HV.sl H.length 0 0 none 0 1,H++[Blk.b []])=some (v0,H0)) (y7 y8 y10 y11 y13 y14 y15 y16 y17 y18 y20 y21 y22 y23 y24 y25 y26 y27 y28:HV:=Ud): RT QF 14 (sn 30 B14) (e14 rw pa pb p0 (.n n) (.s tb n) y7 y8 y10 y11 y13 y14 y15 y16 y17 y18 y20 y21 y22 y23 y24 y25 y26 y27 y28) H .normal (e14 rw pa pb p0 (.n n) (.s tb n) v0 y8 y10 y11 y13 y14 y15 y16 y17 y18 y20 y21 y22 y23 y24 y25 y26 y27 y28) H0 :=
 hx N 60 [jR 3 0 g0]
theorem Qgk (p0 n tb:Nat) (y7 y8 y10 y11 y13 y14 y15 y16 y17 y18 y20 y21 y22 y23 y24 y25 y26 y27 y28:HV:=Ud): RT QF 14 (sn 124 B14) (e14 rw pa pb p0 (.n n) (.s tb n) y7 y8 y10 y11 y13 y14 y15 y16 y17 y18 y20 y21 y22 y23 y24 y25 y26 y27 y28) H .normal (e14 rw pa pb p0 (.n n) (.s tb n) y7 (.i 0) y10 y11 y13 y14 y15 y16 y17 y18 y20 y21 y22 y23 y24 y25 y26 y27 y28) H :=
 hx N 60 []
theorem Qgl (p0 n tb i:Nat) (tv tw:HV) (rl rs:List HV) {H0:Heap} (g0:(i:Int)<qA.wrap ((n:Int)-1)) (g1:IS 22 tb n i) (g2:LD H 23 (.ptr tb i 0 n) (.imm .own 1 rl)) (g3:Jb Tp 23 (.imm .own 1 rl) none (some (.i (qA.wrap ((n:Int)-1)))) (some (.i (qA.wrap ((n:Int)-1))))=some (.imm .lit 1 rs)) (g4:WV H 1 24 (tv) [.imm .lit 1 rs]=some (tw,H0)) (y10 y11 y13 y14 y15 y16 y17 y18 y20 y21 y22 y23 y24 y25 y26 y27 y28:HV:=Ud): RT QF 14 (sn 500 B14) (e14 rw pa pb p0 (.n n) (.s tb n) tv (.n i) y10 y11 y13 y14 y15 y16 y17 y18 y20 y21 y22 y23 y24 y25 y26 y27 y28) H .normal (e14 rw pa pb p0 (.n n) (.s tb n) tw (.i (qA.wrap ((i:Int)+1))) y10 y11 y13 y14 y15 y16 y17 y18 y20 y21 y22 y23 y24 y25 y26 y27 y28) H0 :=
 hx N 60 [jT 5 3 H g0,jO 7 3 H g1,jO 7 4 H g2,jO 7 9 H g3,jR 7 11 g4]
theorem Qgm (p0 n tb i:Nat) (tv tw:HV) (rl rs:List HV) (g0:¬((i:Int)<qA.wrap ((n:Int)-1))) (y10 y11 y13 y14 y15 y16 y17 y18 y20 y21 y22 y23 y24 y25 y26 y27 y28:HV:=Ud): RT QF 14 (sn 500 B14) (e14 rw pa pb p0 (.n n) (.s tb n) tv (.n i) y10 y11 y13 y14 y15 y16 y17 y18 y20 y21 y22 y23 y24 y25 y26 y27 y28) H (.exit 0) (e14 rw pa pb p0 (.n n) (.s tb n) tv (.n i) y10 y11 y13 y14 y15 y16 y17 y18 y20 y21 y22 y23 y24 y25 y26 y27 y28) H :=
 hx N 60 [jF 5 3 H g0]
theorem Qgn (p0 n tb ts m:Nat) (va vb vc:Int) (b1:Nat) {H0:Heap} {H1:Heap} {H2:Heap} (g0:∀kf,Qa Tp QF (kf+1) 22 [.s tb n] H=some (.tuple [.agg [.i va,.i vb,.i vc],.bool true,.i 0],H0)) (g1:some (Wm (.agg [.i 0,.i 0,.i 0]) H0)=some (.q b1,H1)) (g2:ST H1 35 (.q b1) (.agg [.i va,.i vb,.i vc]) H2) (y8 y10 y11 y13 y14 y15 y16 y17 y18 y20 y21 y22 y23 y24 y25 y26 y27 y28:HV:=Ud): RT QF 14 (sn 126 B14) (e14 rw pa pb p0 (.n n) (.s tb n) (.s ts m) y8 y10 y11 y13 y14 y15 y16 y17 y18 y20 y21 y22 y23 y24 y25 y26 y27 y28) H .normal (e14 rw pa pb p0 (.n n) (.s tb n) (.s ts m) y8 (.bool true) (.i 0) y13 y14 y15 y16 y17 y18 y20 y21 y22 y23 y24 y25 y26 y27 y28) H2 :=
 hx N 60 [jD 8 1 g0,jR 8 6 g1,jS 8 7 g2]
theorem Qgo (p0 n tb ts m:Nat) (b1 q1:Nat) (l1:Int) {H0:Heap} (g0:∀kf,Qa Tp QF (kf+1) 29 [.s tb n] H=some (.tuple [.s b1 q1,.i l1,.i 0],H0)) (y8 y13 y14 y15 y16 y17 y18 y20 y21 y22 y23 y24 y25 y26 y27 y28:HV:=Ud): RT QF 14 (sn 254 B14) (e14 rw pa pb p0 (.n n) (.s tb n) (.s ts m) y8 (.bool true) (.i 0) y13 y14 y15 y16 y17 y18 y20 y21 y22 y23 y24 y25 y26 y27 y28) H .normal (e14 rw pa pb p0 (.n n) (.s tb n) (.s ts m) y8 (.bool true) (.i 0) (.i l1) (.i 0) y15 y16 y17 y18 y20 y21 y22 y23 y24 y25 y26 y27 y28) H0 :=
 hx N 60 [jD 9 1 g0]
theorem Qgp (p0 n tb ts m:Nat) (l1:Int) (bd q2:Nat) {H0:Heap} (g0:∀kf,Qa Tp QF (kf+1) 42 [.s tb n] H=some (.tuple [.s bd q2,.i 0],H0)) (y8 y15 y16 y17 y18 y20 y21 y22 y23 y24 y25 y26 y27 y28:HV:=Ud): RT QF 14 (sn 510 B14) (e14 rw pa pb p0 (.n n) (.s tb n) (.s ts m) y8 (.bool true) (.i 0) (.i l1) (.i 0) y15 y16 y17 y18 y20 y21 y22 y23 y24 y25 y26 y27 y28) H .normal (e14 rw pa pb p0 (.n n) (.s tb n) (.s ts m) y8 (.bool true) (.i 0) (.i l1) (.i 0) (.s bd q2) (.i 0) y17 y18 y20 y21 y22 y23 y24 y25 y26 y27 y28) H0 :=
 hx N 60 [jD 10 1 g0]
theorem Qgq (p0 n tb ts m:Nat) (l1:Int) (bd q2:Nat) (ld:Int) {H0:Heap} (g0:∀kf,Qa Tp QF (kf+1) 34 [.s tb n,.s bd q2] H=some (.tuple [.i ld,.i 0],H0)) (y8 y17 y18 y20 y21 y22 y23 y24 y25 y26 y27 y28:HV:=Ud): RT QF 14 (sn 1022 B14) (e14 rw pa pb p0 (.n n) (.s tb n) (.s ts m) y8 (.bool true) (.i 0) (.i l1) (.i 0) (.s bd q2) (.i 0) y17 y18 y20 y21 y22 y23 y24 y25 y26 y27 y28) H .normal (e14 rw pa pb p0 (.n n) (.s tb n) (.s ts m) y8 (.bool true) (.i 0) (.i l1) (.i 0) (.s bd q2) (.i 0) (.i ld) (.i 0) y20 y21 y22 y23 y24 y25 y26 y27 y28) H0 :=
 hx N 60 [jD 11 2 g0]
theorem Qgr (p0 n tb ts m:Nat) (l1:Int) (bd q2:Nat) (ld:Int) (l2:Int) (b3 q3:Nat) {H0:Heap} (g0:∀kf,Qa Tp QF (kf+1) 29 [.s ts m] H=some (.tuple [.s b3 q3,.i l2,.i 0],H0)) (y8 y20 y21 y22 y23 y24 y25 y26 y27 y28:HV:=Ud): RT QF 14 (sn 2046 B14) (Q8 (.a rw) (.agg [.i pa,.i pb]) (.q p0) (.bool false) (.n n) (.s tb n) (.s ts m) y8 (.bool true) (.i 0) (.i l1) (.i 0) (.s bd q2) (.i 0) (.i ld) (.i 0) y20 y21 y22 y23 y24 y25 y26 y27 y28) H .normal (Q8 (.a rw) (.agg [.i pa,.i pb]) (.q p0) (.bool false) (.n n) (.s tb n) (.s ts m) y8 (.bool true) (.i 0) (.i l1) (.i 0) (.s bd q2) (.i 0) (.i ld) (.i 0) (.i l2) (.i 0) y22 y23 y24 y25 y26 y27 y28) H0 :=
 hx N 60 [jD 12 1 g0]
theorem Qgs (p0 n tb ts m:Nat) (l1:Int) (bd q2:Nat) (ld:Int) (l2:Int) (a b:Nat) {H0:Heap} {H1:Heap} (g0:LD H 3 (.q p0) (.i pa)) (g1:∀kf,Qa Tp QF (kf+1) 27 [.i pa,.n n] H=some (.n a,H0)) (g2:LD H0 3 (.ptr p0 0 1 1) (.i pb)) (g3:∀kf,Qa Tp QF (kf+1) 27 [.i pb,.n n] H0=some (.n b,H1)) (gS13:(WI ((Qh Tp H0 3 (.ptr p0 0 1 1)).map (fun v=>(v,(H0:Heap)))) ((Qh Tp H 3 (.ptr p0 0 1 1)).map (fun v=>(v,(H:Heap)))) H0 H&&true)=true) (y8 y22 y23 y24 y25 y26 y27 y28:HV:=Ud): RT QF 14 (sn 4094 B14) (Q8 (.a rw) (.agg [.i pa,.i pb]) (.q p0) (.bool false) (.n n) (.s tb n) (.s ts m) y8 (.bool true) (.i 0) (.i l1) (.i 0) (.s bd q2) (.i 0) (.i ld) (.i 0) (.i l2) (.i 0) y22 y23 y24 y25 y26 y27 y28) H .normal (Q8 (.a rw) (.agg [.i pa,.i pb]) (.q p0) (.bool false) (.n n) (.s tb n) (.s ts m) y8 (.bool true) (.i 0) (.i l1) (.i 0) (.s bd q2) (.i 0) (.i ld) (.i 0) (.i l2) (.i 0) (.n a) (.n b) y24 y25 y26 y27 y28) H1 :=
 hx N 60 [jK gS13,jO 13 1 H g0,jD 13 3 g1,jO 13 5 H0 g2,jD 13 7 g3]
theorem Qgt (p0 n tb ts m:Nat) (l1:Int) (bd q2:Nat) (ld:Int) (l2:Int) (a b:Nat) (bw q4:Nat) (lw:Int) {H0:Heap} (g0:∀kf,Qa Tp QF (kf+1) 23 [.s tb n,.n a,.n b] H=some (.tuple [.s bw q4,.i lw,.i 0],H0)) (y8 y24 y25 y26 y27 y28:HV:=Ud): RT QF 14 (sn 8190 B14) (Q8 (.a rw) (.agg [.i pa,.i pb]) (.q p0) (.bool false) (.n n) (.s tb n) (.s ts m) y8 (.bool true) (.i 0) (.i l1) (.i 0) (.s bd q2) (.i 0) (.i ld) (.i 0) (.i l2) (.i 0) (.n a) (.n b) y24 y25 y26 y27 y28) H .normal (Q8 (.a rw) (.agg [.i pa,.i pb]) (.q p0) (.bool false) (.n n) (.s tb n) (.s ts m) y8 (.bool true) (.i 0) (.i l1) (.i 0) (.s bd q2) (.i 0) (.i ld) (.i 0) (.i l2) (.i 0) (.n a) (.n b) (.s bw q4) (.i lw) (.i 0) y27 y28) H0 :=
 hx N 60 [jD 14 3 g0]
theorem Qgu (p0 n tb ts m:Nat) (l1:Int) (bd q2:Nat) (ld:Int) (l2:Int) (a b:Nat) (bw q4:Nat) (lw:Int) (dd:Int) (rl:List HV) {v0:HV} {a0:HV} {x0:Int} (g0:¬(qA.wrap (2*l1)<ld)) (g1:¬(l1<l2)) (g2:IS 22 tb n a) (g3:LD H 23 (.ptr tb a 0 n) (v0)) (g4:IX 23 v0 (.n b) (a0)) (g5:LD H 3 (a0) (.i x0)) (g6:lw=x0) (y8 y27 y28:HV:=Ud): RT QF 14 (sn 16382 B14) (Q8 (.a rw) (.agg [.i pa,.i pb]) (.q p0) (.bool false) (.n n) (.s tb n) (.s ts m) y8 (.bool true) (.i 0) (.i l1) (.i 0) (.s bd q2) (.i 0) (.i ld) (.i 0) (.i l2) (.i 0) (.n a) (.n b) (.s bw q4) (.i lw) (.i 0) y27 y28) H .normal (Q8 (.a rw) (.agg [.i pa,.i pb]) (.q p0) (.bool false) (.n n) (.s tb n) (.s ts m) y8 (.bool true) (.i 0) (.i l1) (.i 0) (.s bd q2) (.i 0) (.i ld) (.i 0) (.i l2) (.i 0) (.n a) (.n b) (.s bw q4) (.i lw) (.i 0) y27 y28) H :=
 hx N 60 [jF 15 30 H g0,jF 15 35 H g1,jO 15 41 H g2,jO 15 42 H g3,jO 15 44 H g4,jO 15 45 H g5,jB 15 46 H (congrArg not (decide_eq_true g6))]
theorem Qgv (p0 n tb ts m:Nat) (l1:Int) (bd q2:Nat) (ld:Int) (l2:Int) (a b:Nat) (bw q4:Nat) (lw:Int) (y8 y27 y28:HV:=Ud): RT QF 14 (sn 32766 B14) (Q8 (.a rw) (.agg [.i pa,.i pb]) (.q p0) (.bool false) (.n n) (.s tb n) (.s ts m) y8 (.bool true) (.i 0) (.i l1) (.i 0) (.s bd q2) (.i 0) (.i ld) (.i 0) (.i l2) (.i 0) (.n a) (.n b) (.s bw q4) (.i lw) (.i 0) y27 y28) H .normal (Q8 (.a rw) (.agg [.i pa,.i pb]) (.q p0) (.bool false) (.n n) (.s tb n) (.s ts m) y8 (.bool true) (.i 0) (.i l1) (.i 0) (.s bd q2) (.i 0) (.i ld) (.i 0) (.i l2) (.i 0) (.n a) (.n b) (.s bw q4) (.i lw) (.i 0) (.i 0) y28) H :=
 hx N 60 []
theorem Qgw (p0 n tb ts m:Nat) (l1:Int) (bd q2:Nat) (ld:Int) (l2:Int) (a b:Nat) (bw q4:Nat) (lw:Int) (sm:Int) (y8 y28:HV:=Ud): RT QF 14 (sn 131068 B14) (Q8 (.a rw) (.agg [.i pa,.i pb]) (.q p0) (.bool false) (.n n) (.s tb n) (.s ts m) y8 (.bool true) (.i 0) (.i l1) (.i 0) (.s bd q2) (.i 0) (.i ld) (.i 0) (.i l2) (.i 0) (.n a) (.n b) (.s bw q4) (.i lw) (.i 0) (.i sm) y28) H .normal (Q8 (.a rw) (.agg [.i pa,.i pb]) (.q p0) (.bool false) (.n n) (.s tb n) (.s ts m) y8 (.bool true) (.i 0) (.i l1) (.i 0) (.s bd q2) (.i 0) (.i ld) (.i 0) (.i l2) (.i 0) (.n a) (.n b) (.s bw q4) (.i lw) (.i 0) (.i sm) (.i 0)) H :=
 hx N 60 []
theorem Qgx (n tb a b bw q4:Nat) (lw sm:Int) (i:Nat) {x0:Int} {x1:Int} {x2:Int} {x3:Int} {x4:Int} {v0:HV} {x5:Int} {a0:HV} {x6:Int} (g0:qA.wrap ((i:Int)+1)<(q4:Int)) (g1:IS 23 bw q4 i) (g2:LD H 3 (.ptr bw i 0 q4) (.i x0)) (g3:¬(x0<0)) (g4:IS 23 bw q4 i) (g5:LD H 3 (.ptr bw i 0 q4) (.i x1)) (g6:¬((n:Int)≤x1)) (g7:IX 23 (.s bw q4) (.i (qA.wrap ((i:Int)+1))) (.ptr bw ((qA.wrap ((i:Int)+1)).toNat) 0 q4)) (g8:LD H 3 (.ptr bw ((qA.wrap ((i:Int)+1)).toNat) 0 q4) (.i x2)) (g9:¬(x2<0)) (g10:IX 23 (.s bw q4) (.i (qA.wrap ((i:Int)+1))) (.ptr bw ((qA.wrap ((i:Int)+1)).toNat) 0 q4)) (g11:LD H 3 (.ptr bw ((qA.wrap ((i:Int)+1)).toNat) 0 q4) (.i x3)) (g12:¬((n:Int)≤x3)) (g13:IS 23 bw q4 i) (g14:LD H 3 (.ptr bw i 0 q4) (.i x4)) (g15:IX 22 (.s tb n) (.i x4) (.ptr tb ((x4).toNat) 0 n)) (g16:LD H 23 (.ptr tb ((x4).toNat) 0 n) (v0)) (g17:IX 23 (.s bw q4) (.i (qA.wrap ((i:Int)+1))) (.ptr bw ((qA.wrap ((i:Int)+1)).toNat) 0 q4)) (g18:LD H 3 (.ptr bw ((qA.wrap ((i:Int)+1)).toNat) 0 q4) (.i x5)) (g19:IX 23 v0 (.i x5) (a0)) (g20:LD H 3 (a0) (.i x6)) (y3 y7 y8 y10 y11 y13 y14 y15 y16 y17 y18 y20 y21 y26:HV:=Ud): RT QF 14 (sn 524276 B14) (Q8 (.a rw) (.agg [.i pa,.i pb]) y3 (.bool false) (.n n) (.s tb n) y7 y8 y10 y11 y13 y14 y15 y16 y17 y18 y20 y21 (.n a) (.n b) (.s bw q4) (.i lw) y26 (.i sm) (.n i)) H .normal (Q8 (.a rw) (.agg [.i pa,.i pb]) y3 (.bool false) (.n n) (.s tb n) y7 y8 y10 y11 y13 y14 y15 y16 y17 y18 y20 y21 (.n a) (.n b) (.s bw q4) (.i lw) y26 (.i (qA.wrap (sm+x6))) (.i (qA.wrap ((i:Int)+1)))) H :=
 hx N 60 [jT 19 4 H g0,jO 21 2 H g1,jO 21 3 H g2,jF 21 4 H g3,jO 21 8 H g4,jO 21 9 H g5,jF 21 11 H g6,jO 21 17 H g7,jO 21 18 H g8,jF 21 19 H g9,jO 21 25 H g10,jO 21 26 H g11,jF 21 28 H g12,jO 23 4 H g13,jO 23 5 H g14,jO 23 6 H g15,jO 23 7 H g16,jO 23 11 H g17,jO 23 12 H g18,jO 23 13 H g19,jO 23 14 H g20]
theorem Qgy (n tb a b bw q4:Nat) (lw sm:Int) (i:Nat) (g0:¬(qA.wrap ((i:Int)+1)<(q4:Int))) (y3 y7 y8 y10 y11 y13 y14 y15 y16 y17 y18 y20 y21 y26:HV:=Ud): RT QF 14 (sn 524276 B14) (Q8 (.a rw) (.agg [.i pa,.i pb]) y3 (.bool false) (.n n) (.s tb n) y7 y8 y10 y11 y13 y14 y15 y16 y17 y18 y20 y21 (.n a) (.n b) (.s bw q4) (.i lw) y26 (.i sm) (.n i)) H (.exit 2) (Q8 (.a rw) (.agg [.i pa,.i pb]) y3 (.bool false) (.n n) (.s tb n) y7 y8 y10 y11 y13 y14 y15 y16 y17 y18 y20 y21 (.n a) (.n b) (.s bw q4) (.i lw) y26 (.i sm) (.n i)) H :=
 hx N 60 [jF 19 4 H g0]
theorem Qgz (n tb a b bw q4:Nat) (lw sm:Int) {x0:Int} {x1:Int} (g0:1≤(q4:Int)) (g1:IX 23 (.s bw q4) (.i 0) (.ptr bw 0 0 q4)) (g2:LD H 3 (.ptr bw 0 0 q4) (.i x0)) (g3:x0=(a:Int)) (g4:IX 23 (.s bw q4) (.i (qA.wrap ((q4:Int)-1))) (.ptr bw ((qA.wrap ((q4:Int)-1)).toNat) 0 q4)) (g5:LD H 3 (.ptr bw ((qA.wrap ((q4:Int)-1)).toNat) 0 q4) (.i x1)) (g6:x1=(b:Int)) (g7:sm=lw) (y3 y7 y8 y10 y11 y13 y14 y15 y16 y17 y18 y20 y21 y26 y28:HV:=Ud): RT QF 14 (sn 65535 B14) (Q8 (.a rw) (.agg [.i pa,.i pb]) y3 (.bool false) (.n n) (.s tb n) y7 y8 y10 y11 y13 y14 y15 y16 y17 y18 y20 y21 (.n a) (.n b) (.s bw q4) (.i lw) y26 (.i sm) y28) H .ret (Q8 (.a rw) (.agg [.i pa,.i pb]) y3 (.bool true) (.n n) (.s tb n) y7 y8 y10 y11 y13 y14 y15 y16 y17 y18 y20 y21 (.n a) (.n b) (.s bw q4) (.i lw) y26 (.i sm) y28) H :=
 hx N 60 [jT 24 2 H g0,jO 24 5 H g1,jO 24 6 H g2,jT 24 8 H g3,jO 24 15 H g4,jO 24 16 H g5,jT 24 18 H g6,jT 24 23 H g7]
end
end Go.Proofs.Ytlendaofkmhgmaa
end
section
open Go Go.HL Go.HL.So
namespace Go.Proofs.Ytlendaofkmhgmaa
set_option linter.unusedSectionVars false
open Go.Proofs.Try renaming prog → Tp
open Go.HL.HV renaming undef → Ud
theorem QoA:Try.f14.results.toList=[.tmp 4]:=by kernel_rfl
def WF (r:List Int):HV:=.imm .lit 1 (r.map hvI)
theorem Qnp {H:Heap} {R:List (List Int)} {b m mx:Nat} (hm:R.length=m) (hb:H[b]?=some (.arr 1 (R.map WF) true mx)):Qx H 6 (.sl b 0 m none m 1)=some (.imm .arg 1 (R.map Qb)):=by
 subst hm
 have e:Qx H 6 (.sl b 0 R.length none R.length 1)=if R.length=0 then some (.imm .arg 1 []) else match Wh H b 0 R.length R.length 1 with | some l=>(match mapO (Qx H 5) l with | some l=>some (.imm .arg 1 l) | none=>none) | none=>none:=rfl
 rw [e]
 split
 ·rename_i h0
  rw [List.length_eq_zero_iff.1 h0];rfl
 ·have hv:Wh H b 0 R.length R.length 1=some (R.map WF):=by
   simp only [Wh,hb,qF]
   rw [if_pos ⟨trivial,by omega,trivial⟩]
   simp [qJ]
  have hm:∀(R:List (List Int)),mapO (Qx H 5) (R.map WF)=some (R.map Qb):=by
   intro R
   induction R with
   | nil=>rfl
   | cons r R ih =>
    have:Qx H 5 (WF r)=some (Qb r):=by
     show argP (WF r)=_
     simp only [WF,argP,ZY,Qb]
    rw [List.map_cons,mapO,this,ih];rfl
  rw [hv]
  simp only [hm]
theorem Qd2 {l:List HV} {w:Nat} (hw:w≤l.length):Jb Tp 23 (.imm .own 1 l) none (some (.int .i64 (w:Int))) (some (.int .i64 (w:Int)))=some (.imm .lit 1 (l.take w)):=by
 simp only [Jb,Ke,u23,z3]
 rw [if_pos (by omega:(0:Int)≤(w:Int))]
 by_cases c:w=0
 ·subst c;simp
 ·have c':¬(0=w):=fun e=>c e.symm
  simp [hw,c']
theorem gxo {l:List Int} {y:Nat} (hy:y<l.length):WW Tp 23 (.imm .own 1 (l.map hvI)) (.int .i64 (y:Int))=some (.vptr (.int .i64 (l.getD y 0))) :=
 YJ u23 z3 (by omega) (by rw [qB,qD,qE hy];simp [qG,qE hy,hvI])
theorem ix2 {i n:Nat} (hi:i<n):WW Tp 22 (.sl 2 0 n none n 1) (.int .i64 (i:Int))=some (.ptr 2 i 0 n):=by
 have:=VY (P:=Tp) (t:=22) (b:=2) (len:=n) (tot:=n) (cap:=none) (ik:=.i64) (n:=(i:Int)) u22 z23 (by omega) (by omega)
 rwa [qB] at this
theorem QoB (H:Heap) (x:Int):Qh Tp H 3 (.vptr (.int .i64 x))=some (.int .i64 x):=by kernel_rfl
theorem Ve {d:List (List Int)} (h:okD d):d.length≤1000∧(d.all fun r=>decide (r.length≤1000))=true:=by
 have hn:=h.1
 refine ⟨by omega,List.all_eq_true.2 fun r hr=>?_⟩
 obtain ⟨i,hi,rfl⟩:=List.getElem_of_mem hr
 have:=h.2.1 i hi
 rw [qG,qE hi,Option.getD_some] at this
 exact decide_eq_true (by omega)
section
variable {d:List (List Int)} {H:Heap} {v:HV}
theorem m29 (hd:okD d) (hv:Qx H 6 v=some (.imm .arg 1 (d.map Qb))):∀k,Qa Tp QF (k+1) 29 [v] H=some (.tuple [.sl H.length 0 (QI d).length none (QI d).length 1,.int .i64 (Wa d (QI d)),.int .i64 0],H++[bI (QI d)]):=fun k=>by
 rw [Qt (pol:=QF) (g:=29) (F:=D7) (by kernel_rfl) (rs:=[.imm .arg 1 (d.map Qb)]) (by simp only [mapO,hv]) (res:=.tuple [.own 1 ((QI d).map hvI),.int .i64 (Wa d (QI d)),.int .i64 0]) (by
  simp only [D7,rwF,QH Wv]
  rw [if_pos (Ve hd),if_pos hd])]
 simp only [ZT,Z7,Zr,WK,Xr,qF]
 rfl
theorem m42 (hd:okD d) (hv:Qx H 6 v=some (.imm .arg 1 (d.map Qb))):∀k,Qa Tp QF (k+1) 42 [v] H=some (.tuple [.sl H.length 0 (WJ d).length none (WJ d).length 1,.int .i64 0],H++[bI (WJ d)]):=fun k=>by
 rw [Qt (pol:=QF) (g:=42) (F:=XM) (by kernel_rfl) (rs:=[.imm .arg 1 (d.map Qb)]) (by simp only [mapO,hv]) (res:=.tuple [.own 1 ((WJ d).map hvI),.int .i64 0]) (by
  simp only [XM,rwF,QH Wv]
  rw [if_pos (Ve hd),if_pos hd])]
 simp only [ZT,Z7,Zr,WK,Xr,qF]
 rfl
theorem m34 (hd:okD d) (hv:Qx H 6 v=some (.imm .arg 1 (d.map Qb))) {b:Nat} {o:List Int} (hb:H[b]?=some (bI o)) (ht:KH d.length o=true):∀k,Qa Tp QF (k+1) 34 [v,.sl b 0 o.length none o.length 1] H=some (.tuple [.int .i64 (Wa d o),.int .i64 0],H):=fun k=>by
 have hn:=hd.1
 obtain ⟨t1,_⟩:=trOk_iff.1 ht
 have hs:=Ve hd
 rw [Qt (pol:=QF) (g:=34) (F:=Xu) (by kernel_rfl) (rs:=[.imm .arg 1 (d.map Qb),.imm .arg 1 (o.map hvI)]) (by simp only [mapO,hv,Sh rfl hb]) (res:=.tuple [.int .i64 (Wa d o),.int .i64 0]) (by
  simp only [Xu,rlF,QH Wv,QH WL]
  rw [if_pos ⟨hs.1,hs.2,by omega⟩,if_pos ⟨hd,ht⟩])];rfl
theorem m22 (h:Mt d) (hv:Qx H 6 v=some (.imm .arg 1 (d.map Qb))):∀k,Qa Tp QF (k+1) 22 [v] H=some (.tuple [.agg [.int .i64 0,.int .i64 0,.int .i64 0],.bool true,.int .i64 0],H):=fun k=>by
 rw [Qt (pol:=QF) (g:=22) (F:=XD) (by kernel_rfl) (rs:=[.imm .arg 1 (d.map Qb)]) (by simp only [mapO,hv]) (res:=.tuple [.agg [.int .i64 0,.int .i64 0,.int .i64 0],.bool true,.int .i64 0]) (by
  simp only [XD,rwF,QH Wv]
  rw [if_pos (Ve h.ok),if_pos h.ok,QdQ h];rfl)];rfl
theorem m23 (h:Mt d) (hv:Qx H 6 v=some (.imm .arg 1 (d.map Qb))) {a b:Nat} (ha:a<d.length) (hb:b<d.length):∀k,Qa Tp QF (k+1) 23 [v,.int .i64 (a:Int),.int .i64 (b:Int)] H=some (.tuple [.sl H.length 0 (WP d a b).length none (WP d a b).length 1,.int .i64 (at2 d a b),.int .i64 0],H++[bI (WP d a b)]):=fun k=>by
 have hl:=QaA (to:=b) h.ok (fr:=a)
 obtain ⟨_,_,w3⟩:=CP h ha hb
 rw [Qt (pol:=QF) (g:=23) (F:=Qax) (by kernel_rfl) (rs:=[.imm .arg 1 (d.map Qb),.int .i64 (a:Int),.int .i64 (b:Int)]) (by simp only [mapO,hv];rfl) (res:=.tuple [.own 1 ((WP d a b).map hvI),.int .i64 (at2 d a b),.int .i64 0]) (by
  simp only [Qax,QfW,QH Wv]
  rw [if_pos (Ve h.ok),if_pos ⟨h.ok,by omega,by omega⟩,qB,qB,if_pos ⟨QdC h.ok hb ha,by omega⟩,w3])]
 simp only [ZT,Z7,Zr,WK,Xr,qF]
 rfl
theorem m27 (a:Int) {n:Nat} (hn:0<n∧n≤100) {x:Int} (hx:KG a n=x):∀k,Qa Tp QF (k+1) 27 [.int .i64 a,.int .i64 (n:Int)] H=some (.int .i64 x,H):=fun k=>by
 rw [Qt (pol:=QF) (g:=27) (F:=DZ) (by kernel_rfl) (rs:=[.int .i64 a,.int .i64 (n:Int)]) (by simp only [mapO];rfl) (res:=.int .i64 x) (by simp only [DZ];rw [if_pos (by omega),hx])];rfl
end
theorem QbA (w:List Int) (h:w≠[]):w.getD (w.length-1) 0=w.getLastD 0:=by
 cases w with
 | nil=>exact absurd rfl h
 | cons a w=>
  rw [qG,List.getLastD_eq_getLast?,List.getLast?_eq_getElem?]
section
variable {rw:List HV} {pa pb:Int}
abbrev mH (pa pb:Int) (t d:List (List Int)):Heap:=[.arr 2 [.agg [.int .i64 pa,.int .i64 pb]] true 0,.arr 1 (t.map Zk) true 0,.arr 1 (d.map Zk) true 0]
theorem Qd3 {t:List (List Int)} {n:Nat} {D:Nat→Nat→Int} (hn:2≤n∧n≤11) :
  RT QF 14 (sn 250 B14) (Q8 (.a rw) (.agg [.i pa,.i pb]) (.q 0) (.bool false) (.i (n:Int)) (.s 2 n) (.s 3 (0)) (.i (0:Int)) Ud Ud Ud Ud Ud Ud Ud Ud Ud Ud Ud Ud Ud Ud Ud Ud Ud) (mH pa pb t (mat n D)++[.arr 1 [] true 0]) (.exit 0) (Q8 (.a rw) (.agg [.i pa,.i pb]) (.q 0) (.bool false) (.i (n:Int)) (.s 2 n) (.s 3 (n-1)) (.i ((n-1:Nat):Int)) Ud Ud Ud Ud Ud Ud Ud Ud Ud Ud Ud Ud Ud Ud Ud Ud Ud) (mH pa pb t (mat n D)++[.arr 1 ((mat (n-1) D).map WF) true 0]):=by
 have hwp:qA.wrap ((n:Int)-1)=((n-1:Nat):Int):=QJ (by omega) (by omega)
 obtain ⟨x,E',H',r,rfl,rfl,rfl⟩:=V9 (pol':=QF) (f:=14) (b:=sn 500 B14) (c:=sn 250 B14) (I:=fun i e X=>e=(Q8 (.a rw) (.agg [.i pa,.i pb]) (.q 0) (.bool false) (.i (n:Int)) (.s 2 n) (.s 3 (i)) (.i (i:Int)) Ud Ud Ud Ud Ud Ud Ud Ud Ud Ud Ud Ud Ud Ud Ud Ud Ud)∧X=mH pa pb t (mat n D)++[.arr 1 (((mat (n-1) D).take i).map WF) true 0])
  (Q:=fun x E' X=>x=.exit 0∧E'=(Q8 (.a rw) (.agg [.i pa,.i pb]) (.q 0) (.bool false) (.i (n:Int)) (.s 2 n) (.s 3 (n-1)) (.i ((n-1:Nat):Int)) Ud Ud Ud Ud Ud Ud Ud Ud Ud Ud Ud Ud Ud Ud Ud Ud Ud)∧X=mH pa pb t (mat n D)++[.arr 1 ((mat (n-1) D).map WF) true 0]) (n-1)
  (by
   rintro i hi e X ⟨rfl,rfl⟩
   have hl1:=ZQ (n-1) D
   have hlt:((mat (n-1) D).take i).length=i:=by rw [List.length_take];omega
   have hrow:(mat n D)[i]?=some ((qC n).map (D i)):=by
    rw [mat,qD,qH (by omega)];rfl
   have hsb:(mat (n-1) D)[i]?=some ((qC (n-1)).map (D i)):=by
    rw [mat,qD,qH (by omega)];rfl
   have hld:Qh Tp (mH pa pb t (mat n D)++[.arr 1 (((mat (n-1) D).take i).map WF) true 0]) 23 (.ptr 2 i 0 n)=some (.imm .own 1 (((qC n).map (D i)).map hvI)):=Qv (b:=2) (k:=1) (mx:=0) (els:=(mat n D).map Zk) rfl (by rw [qF,ZQ]) (by rw [qD,hrow];rfl) rfl QdZ Qd0
   have hsl:=Qd2 (l:=((qC n).map (D i)).map hvI) (w:=n-1) (by simp)
   have htk:(((qC n).map (D i)).map hvI).take (n-1)=((qC (n-1)).map (D i)).map hvI:=by
    rw [← List.map_take,← List.map_take,List.take_range,Nat.min_eq_left (by omega)]
   rw [htk,← hwp] at hsl
   have hap:=DX (H:=mH pa pb t (mat n D)++[.arr 1 (((mat (n-1) D).take i).map WF) true 0]) (k:=1) (bytes:=24) (b:=3) (n:=i) (mx:=0) (els:=((mat (n-1) D).take i).map WF) (xs:=[WF ((qC (n-1)).map (D i))]) rfl (by rw [qF,hlt]) (by simp) (by simp only [qK,Q0];omega) (by rfl)
   have htt:((mat (n-1) D).take i).map WF++[WF ((qC (n-1)).map (D i))]=((mat (n-1) D).take (i+1)).map WF:=by
    rw [List.take_add_one,hsb,List.map_append];rfl
   rw [htt,qK] at hap
   have s:=Qgl 0 rw pa pb (mH pa pb t (mat n D)++[.arr 1 (((mat (n-1) D).take i).map WF) true 0]) 0 n 2 i _ _ _ _ (by rw [hwp];omega) (ix2 (by omega)) hld hsl hap
   rw [Qc (by omega)] at s
   have er:QQ QF 14 (sn 500 B14) (Q8 (.a rw) (.agg [.i pa,.i pb]) (.q 0) (.bool false) (.i (n:Int)) (.s 2 n) (.s 3 (i+1)) (.i ((i+1:Nat):Int)) Ud Ud Ud Ud Ud Ud Ud Ud Ud Ud Ud Ud Ud Ud Ud Ud Ud)=(Q8 (.a rw) (.agg [.i pa,.i pb]) (.q 0) (.bool false) (.i (n:Int)) (.s 2 n) (.s 3 (i+1)) (.i ((i+1:Nat):Int)) Ud Ud Ud Ud Ud Ud Ud Ud Ud Ud Ud Ud Ud Ud Ud Ud Ud):=by kernel_rfl
   refine ⟨_,_,s,er,?_⟩
   rw [er,WN _ (by simp)]
   rfl)
  (by
   rintro e X ⟨rfl,rfl⟩
   rw [qJ (by rw [ZQ];exact Nat.le_refl _)]
   exact ⟨_,_,_,Qgm 0 rw pa pb _ 0 n 2 (n-1) _ (.sl 3 0 0 none 0 1) [] [] (by rw [hwp];omega),by simp,rfl,rfl,rfl⟩)
  (by kernel_rfl) (by rintro i e X ⟨rfl,_⟩;kernel_rfl) (e:=(Q8 (.a rw) (.agg [.i pa,.i pb]) (.q 0) (.bool false) (.i (n:Int)) (.s 2 n) (.s 3 (0)) (.i (0:Int)) Ud Ud Ud Ud Ud Ud Ud Ud Ud Ud Ud Ud Ud Ud Ud Ud Ud)) (H:=mH pa pb t (mat n D)++[.arr 1 [] true 0]) ⟨rfl,rfl⟩
 exact r
theorem Qd4 {d:List (List Int)} {n a b bw:Nat} {lw:Int} {H:Heap} {w:List Int} (hd:okD d) (hn:d.length=n) (hw:inT n w) (hl:1≤w.length∧w.length≤100) (h2:H[2]?=some (.arr 1 (d.map Zk) true 0)) (hb:H[bw]?=some (bI w)) :
  RT QF 14 (sn 262138 B14) (Q8 (.a rw) (.agg [.i pa,.i pb]) Ud (.bool false) (.i (n:Int)) (.s 2 n) Ud Ud Ud Ud Ud Ud Ud Ud Ud Ud Ud Ud (.i (a:Int)) (.i (b:Int)) (.s bw w.length) (.i lw) Ud (.i (pS d w (0))) (.i (0:Int))) H (.exit 2) (Q8 (.a rw) (.agg [.i pa,.i pb]) Ud (.bool false) (.i (n:Int)) (.s 2 n) Ud Ud Ud Ud Ud Ud Ud Ud Ud Ud Ud Ud (.i (a:Int)) (.i (b:Int)) (.s bw w.length) (.i lw) Ud (.i (pS d w (w.length-1))) (.i ((w.length-1:Nat):Int))) H:=by
 have hdn:=hd.1
 obtain ⟨x,E',H',r,rfl,rfl,rfl⟩:=V9 (pol':=QF) (f:=14) (b:=sn 524276 B14) (c:=sn 262138 B14) (I:=fun i e X=>e=(Q8 (.a rw) (.agg [.i pa,.i pb]) Ud (.bool false) (.i (n:Int)) (.s 2 n) Ud Ud Ud Ud Ud Ud Ud Ud Ud Ud Ud Ud (.i (a:Int)) (.i (b:Int)) (.s bw w.length) (.i lw) Ud (.i (pS d w (i))) (.i (i:Int)))∧X=H)
  (Q:=fun x E' X=>x=.exit 2∧E'=(Q8 (.a rw) (.agg [.i pa,.i pb]) Ud (.bool false) (.i (n:Int)) (.s 2 n) Ud Ud Ud Ud Ud Ud Ud Ud Ud Ud Ud Ud (.i (a:Int)) (.i (b:Int)) (.s bw w.length) (.i lw) Ud (.i (pS d w (w.length-1))) (.i ((w.length-1:Nat):Int)))∧X=H) (w.length-1)
  (by
   rintro i hi e X ⟨rfl,rfl⟩
   have g:∀i,i<w.length→∃k:Nat,w.getD i 0=(k:Int)∧k<n:=fun i hi=>by
    have:=hw _ (by rw [qG,qE hi,Option.getD_some];exact List.getElem_mem _:w.getD i 0∈w)
    exact ⟨(w.getD i 0).toNat,by omega,by omega⟩
   obtain ⟨u,hu,hun⟩:=g i (by omega)
   obtain ⟨v,hv,hvn⟩:=g (i+1) (by omega)
   have ws:qA.wrap ((i:Int)+1)=((i+1:Nat):Int):=Qc (by omega)
   have lu:=ldg hb rfl (k:=i) (by omega)
   have lv:=ldg hb rfl (k:=i+1) (by omega)
   rw [hu] at lu
   rw [hv] at lv
   have ix:=ixg (b:=bw) (cap:=none) (n:=w.length) (k:=i) (by omega)
   have iy:=ixg (b:=bw) (cap:=none) (n:=w.length) (k:=i+1) (by omega)
   have hrl:=hd.2.1 u (by omega)
   have lr:Qh Tp X 23 (.ptr 2 u 0 n)=some (.imm .own 1 ((d.getD u []).map hvI)):=Qv h2 (by rw [qF,hn]) (by rw [qD,qE (by omega:u<d.length)];simp [qG,qE (by omega:u<d.length),Zk]) rfl QdZ Qd0
   have hat:=(hd.2.2 u (by omega) v (by omega)).1
   have hps:=Qg2 hd (w:=w) (by rw [hn];exact hw) i (by omega)
   have eps:pS d w (i+1)=pS d w i+at2 d u v:=by rw [pS,hu,hv,qB,qB]
   have s:=Qgx 0 rw pa pb X n 2 a b bw w.length lw (pS d w i) i (by rw [ws];omega) ix lu (by omega) ix lu (by omega) (by rw [ws,qB];exact iy) (by rw [ws,qB];exact lv) (by omega) (by rw [ws,qB];exact iy) (by rw [ws,qB];exact lv) (by omega) ix lu (by rw [qB];exact ix2 (by omega)) (by rw [qB];exact lr) (by rw [ws,qB];exact iy) (by rw [ws,qB];exact lv) (gxo (by omega)) (QoB _ _)
   rw [ws,Qn (by show _≤pS d w i+at2 d u v;omega) (by show pS d w i+at2 d u v<_;omega),show pS d w i+(d.getD u []).getD v 0=pS d w (i+1) from eps.symm] at s
   have er:QQ QF 14 (sn 524276 B14) (Q8 (.a rw) (.agg [.i pa,.i pb]) Ud (.bool false) (.i (n:Int)) (.s 2 n) Ud Ud Ud Ud Ud Ud Ud Ud Ud Ud Ud Ud (.i (a:Int)) (.i (b:Int)) (.s bw w.length) (.i lw) Ud (.i (pS d w (i+1))) (.i ((i+1:Nat):Int)))=(Q8 (.a rw) (.agg [.i pa,.i pb]) Ud (.bool false) (.i (n:Int)) (.s 2 n) Ud Ud Ud Ud Ud Ud Ud Ud Ud Ud Ud Ud (.i (a:Int)) (.i (b:Int)) (.s bw w.length) (.i lw) Ud (.i (pS d w (i+1))) (.i ((i+1:Nat):Int))):=by kernel_rfl
   refine ⟨_,_,s,er,?_⟩
   rw [er,WN _ rfl])
  (by
   rintro e X ⟨rfl,rfl⟩
   exact ⟨_,_,_,Qgy 0 rw pa pb X n 2 a b bw w.length lw (pS d w (w.length-1)) (w.length-1) (by rw [Qc (by omega)];omega),by simp,rfl,rfl,rfl⟩)
  (by kernel_rfl) (by rintro i e X ⟨rfl,_⟩;kernel_rfl) (e:=(Q8 (.a rw) (.agg [.i pa,.i pb]) Ud (.bool false) (.i (n:Int)) (.s 2 n) Ud Ud Ud Ud Ud Ud Ud Ud Ud Ud Ud Ud (.i (a:Int)) (.i (b:Int)) (.s bw w.length) (.i lw) Ud (.i (pS d w (0))) (.i (0:Int)))) (H:=H) ⟨rfl,rfl⟩
 exact r
end
theorem YE (R0:List (List Int)) (pa pb:Int):∃E H,RT QF 14 B14 (ZS [.imm .arg 1 (R0.map Qb),.agg [.int .i64 pa,.int .i64 pb]]) [] .ret E H∧E.get 4=.bool true:=by
 obtain ⟨md,hmd⟩:∃md,md=KG (qA.wrap (((R0.map Qb).length:Int)-2)) 8:=⟨_,rfl⟩
 have hmb:=ZB (qA.wrap (((R0.map Qb).length:Int)-2)) 8 (by omega) (by omega)
 rw [← hmd] at hmb
 obtain ⟨n,hn⟩:∃n:Nat,qA.wrap (2+md)=(n:Int):=⟨(2+md).toNat,by rw [Qn (by omega) (by omega)];omega⟩
 have hn2:2≤n∧n≤9:=by rw [Qn (by omega) (by omega)] at hn;omega
 obtain ⟨td,htd⟩:∃t,t=Du R0 n 1000:=⟨_,rfl⟩
 have hok:okD td:=by rw [htd];exact Qdq ⟨by omega,by omega⟩ ⟨by omega,by omega⟩
 have htl:td.length=n:=by rw [htd];exact ZQ _ _
 have hD0:=Ds.of hok
 rw [htl] at hD0
 obtain ⟨D,hDe⟩:∃D,D=fwA n n (at2 td):=⟨_,rfl⟩
 obtain ⟨hDs,hTg⟩:=QdP hD0 n (Nat.le_refl n)
 rw [← hDe] at hDs hTg
 have hM:=Qm2 hDs hTg ⟨by omega,by omega⟩
 have hsub:okD (mat (n-1) D):=Ds.mat (n:=n-1) ⟨fun a b ha hb=>hDs.bd a b (by omega) (by omega),fun a b ha hb=>hDs.sy a b (by omega) (by omega),fun a ha=>hDs.dg a (by omega)⟩ ⟨by omega,by omega⟩
 have hdl:(mat n D).length=n:=ZQ n D
 have hsl:(mat (n-1) D).length=n-1:=ZQ _ _
 obtain ⟨d,hd⟩:∃d,d=mat n D:=⟨_,rfl⟩
 obtain ⟨sb,hsb⟩:∃s,s=mat (n-1) D:=⟨_,rfl⟩
 have hlow:=QdS hM hsub hn2.1
 have hloop:=Qd3 (rw:=R0.map Qb) (pa:=pa) (pb:=pb) (t:=td) (D:=D) (n:=n) ⟨by omega,by omega⟩
 rw [← hd] at hM hdl hlow hloop
 rw [← hsb] at hsub hsl hlow hloop
 obtain ⟨a,ha⟩:∃a:Nat,KG pa n=(a:Int):=⟨(KG pa n).toNat,by have:=ZB pa n (by omega) (by omega);omega⟩
 obtain ⟨b,hb⟩:∃b:Nat,KG pb n=(b:Int):=⟨(KG pb n).toNat,by have:=ZB pb n (by omega) (by omega);omega⟩
 have han:a<d.length:=by have:=ZB pa n (by omega) (by omega);omega
 have hbn:b<d.length:=by have:=ZB pb n (by omega) (by omega);omega
 obtain ⟨w1,w2,w3⟩:=CP hM han hbn
 have win:=Qm3 (to:=b) hM.ok han
 have wlen:=QaA (to:=b) hM.ok (fr:=a)
 obtain ⟨hdt,t0,_⟩:=QaC hM.ok
 have hbt:=X3 hM.ok
 have htwo:=Qf3 hM (by omega) hbt
 obtain ⟨bt1,_,bt3,_⟩:=trOk_iff.1 hbt
 have hlb:0≤Wa d (QI d):=QeA hM.ok bt3
 have hlb2:Wa d (QI d)≤1000000000:=by
  obtain ⟨p,hp,hc⟩:=YO hM.ok.1.1 hbt
  have hm:∀v∈p,Rg d v:=fun v hv=>bt3 v (by rw [hp];simp [hv])
  have key:∀(q:List Int) (s:Int),Rg d s→(∀x∈q,Rg d x)→cw d 0 s q≤1000*((q.length:Int)+1):=by
   intro q
   induction q with
   | nil =>
    intro s hs _
    have:=(hM.ok.2.2 s.toNat (by omega) (0:Int).toNat (by show 0<_;omega)).1
    show at2 d s.toNat (0:Int).toNat≤1000*((0:Nat)+1:Int)
    omega
   | cons v q ih =>
    intro s hs hq
    have hv:=hq v (by simp)
    have:=(hM.ok.2.2 s.toNat (by omega) v.toNat (by omega)).1
    have:=ih v hv fun x hx=>hq x (by simp [hx])
    rw [cw,qI]
    show at2 d s.toNat v.toNat+_≤_
    omega
  have:=key p 0 ⟨by omega,by omega⟩ hm
  have e:Wa d (QI d)=cw d 0 0 p:=by rw [hp,Ks];exact CH p 0
  rw [hp,qI] at bt1
  omega
 have s1:=Qgg 0 (R0.map Qb) pa pb [] 0 (H0:=[.arr 2 [.agg [.int .i64 pa,.int .i64 pb]] true 0]) (by rfl)
 have s2:=Qgh 0 (R0.map Qb) pa pb [.arr 2 [.agg [.int .i64 pa,.int .i64 pb]] true 0] 0 md (md0:=md) (m27 _ (n:=8) (by omega) hmd.symm)
 rw [hn] at s2
 have k28:∀k,Qa Tp QF (k+1) 28 [.imm .arg 1 (R0.map Qb),.int .i64 (n:Int),.int .i64 1000] [.arr 2 [.agg [.int .i64 pa,.int .i64 pb]] true 0]=some (.sl 1 0 n none n 1,[.arr 2 [.agg [.int .i64 pa,.int .i64 pb]] true 0,.arr 1 (td.map Zk) true 0]):=fun k=>by
  rw [Qt (pol:=QF) (g:=28) (F:=Gn) (by kernel_rfl) (rs:=[.imm .arg 1 (R0.map Qb),.int .i64 (n:Int),.int .i64 1000]) (by simp only [mapO,JN];rfl) (res:=.own 1 (td.map Zk)) (by simp only [Gn,nmF,QH Wv];rw [if_pos (by omega),qB,htd]),Dg,htl];rfl
 have k45:∀k,Qa Tp QF (k+1) 45 [.sl 1 0 n none n 1] [.arr 2 [.agg [.int .i64 pa,.int .i64 pb]] true 0,.arr 1 (td.map Zk) true 0]=some (.sl 2 0 n none n 1,mH pa pb td d):=fun k=>by
  rw [Qt (pol:=QF) (g:=45) (F:=XL) (by kernel_rfl) (rs:=[.imm .arg 1 (td.map Qb)]) (by simp only [mapO,Qce (H:=[.arr 2 [.agg [.int .i64 pa,.int .i64 pb]] true 0,.arr 1 (td.map Zk) true 0]) (b:=1) (mx:=0) htl rfl]) (res:=.own 1 (d.map Zk)) (by simp only [XL,rwF,QH Wv];rw [if_pos hok,htl,← hDe,← hd]),Dg,hdl];rfl
 have s3:=Qgi 0 (R0.map Qb) pa pb _ 0 n 1 2 k28 k45
 have s4:=Qgj 0 (R0.map Qb) pa pb (mH pa pb td d) 0 n 2 (v0:=.sl 3 0 0 none 0 1) (H0:=mH pa pb td d++[.arr 1 [] true 0]) rfl
 have s5:=Qgk 0 (R0.map Qb) pa pb (mH pa pb td d++[.arr 1 [] true 0]) 0 n 2 (y7:=.s 3 0)
 have ar:∀T:Heap,Qx (mH pa pb td d++T) 6 (.sl 2 0 n none n 1)=some (.imm .arg 1 (d.map Qb)):=fun T=>Qce (b:=2) (mx:=0) hdl rfl
 obtain ⟨H1,hH1⟩:∃H:Heap,H=mH pa pb td d++[.arr 1 (sb.map WF) true 0]:=⟨_,rfl⟩
 obtain ⟨H2,hH2⟩:∃H:Heap,H=mH pa pb td d++[.arr 1 (sb.map WF) true 0,.arr 3 [.agg [.int .i64 0,.int .i64 0,.int .i64 0]] true 0]:=⟨_,rfl⟩
 have s6:=Qgn 0 (R0.map Qb) pa pb H1 0 n 2 3 (n-1) 0 0 0 4 (y8:=.i ((n-1:Nat):Int)) (H0:=H1) (H1:=H2) (H2:=H2) (m22 hM (by rw [hH1];exact ar _)) (by rw [hH1,hH2];rfl) (by
  rw [hH2]
  exact Vm (P:=Tp) (t:=35) (b:=4) (i:=0) (tot:=1) (k:=3) (mx:=0) (els:=[.agg [.int .i64 0,.int .i64 0,.int .i64 0]]) (cs:=[.int .i64 0,.int .i64 0,.int .i64 0]) (new:=[.int .i64 0,.int .i64 0,.int .i64 0]) rfl rfl rfl (by kernel_rfl) rfl (by simp) rfl rfl)
 obtain ⟨H3,hH3⟩:∃H:Heap,H=mH pa pb td d++[.arr 1 (sb.map WF) true 0,.arr 3 [.agg [.int .i64 0,.int .i64 0,.int .i64 0]] true 0,bI (QI d)]:=⟨_,rfl⟩
 obtain ⟨H4,hH4⟩:∃H:Heap,H=mH pa pb td d++[.arr 1 (sb.map WF) true 0,.arr 3 [.agg [.int .i64 0,.int .i64 0,.int .i64 0]] true 0,bI (QI d),bI (WJ d)]:=⟨_,rfl⟩
 obtain ⟨H5,hH5⟩:∃H:Heap,H=mH pa pb td d++[.arr 1 (sb.map WF) true 0,.arr 3 [.agg [.int .i64 0,.int .i64 0,.int .i64 0]] true 0,bI (QI d),bI (WJ d),bI (QI sb)]:=⟨_,rfl⟩
 obtain ⟨H6,hH6⟩:∃H:Heap,H=mH pa pb td d++[.arr 1 (sb.map WF) true 0,.arr 3 [.agg [.int .i64 0,.int .i64 0,.int .i64 0]] true 0,bI (QI d),bI (WJ d),bI (QI sb),bI (WP d a b)]:=⟨_,rfl⟩
 have k29:=m29 (H:=H2) (v:=.sl 2 0 n none n 1) hM.ok (by rw [hH2];exact ar _)
 rw [show H2++[bI (QI d)]=H3 by rw [hH2,hH3];rfl,show H2.length=5 by rw [hH2];rfl] at k29
 have s7:=Qgo 0 (R0.map Qb) pa pb H2 0 n 2 3 (n-1) 5 _ _ (y8:=.i ((n-1:Nat):Int)) k29
 have k42:=m42 (H:=H3) (v:=.sl 2 0 n none n 1) hM.ok (by rw [hH3];exact ar _)
 rw [show H3++[bI (WJ d)]=H4 by rw [hH3,hH4];rfl,show H3.length=6 by rw [hH3];rfl] at k42
 have s8:=Qgp 0 (R0.map Qb) pa pb H3 0 n 2 3 (n-1) (Wa d (QI d)) 6 _ (y8:=.i ((n-1:Nat):Int)) k42
 have k34:=m34 (H:=H4) (v:=.sl 2 0 n none n 1) (b:=6) hM.ok (by rw [hH4];exact ar _) (by rw [hH4];rfl) hdt
 have s9:=Qgq 0 (R0.map Qb) pa pb H4 0 n 2 3 (n-1) (Wa d (QI d)) 6 _ _ (y8:=.i ((n-1:Nat):Int)) k34
 have k29b:=m29 (H:=H4) (v:=.sl 3 0 (n-1) none (n-1) 1) hsub (by rw [hH4];exact Qnp (mx:=0) hsl rfl)
 rw [show H4++[bI (QI sb)]=H5 by rw [hH4,hH5];rfl,show H4.length=7 by rw [hH4];rfl] at k29b
 have s10:=Qgr 0 (R0.map Qb) pa pb H4 0 n 2 3 (n-1) (Wa d (QI d)) 6 (WJ d).length (Wa d (WJ d)) _ 7 _ (y8:=.i ((n-1:Nat):Int)) k29b
 have lp:∀{off:Nat} {v:HV},[HV.int .i64 pa,.int .i64 pb][off]?=some v→Qh Tp H5 3 (.ptr 0 0 off 1)=some v:=fun h=>J3 (b:=0) (k:=2) (mx:=0) (els:=[.agg [.int .i64 pa,.int .i64 pb]]) (w:=true) (by rw [hH5];rfl) rfl rfl Qox Qoy h
 have hS5:Qj H5 H5=true:=by
  rw [hH5]
  have hr:∀(l:List (List Int)),Qj [Blk.arr 1 (l.map Zk) true 0] [Blk.arr 1 (l.map Zk) true 0]=true:=fun l=>WC fun v hv=>by
   obtain ⟨r,_,rfl⟩:=List.mem_map.1 hv
   simp [Zk,same,D6]
  have hq:Qj [Blk.arr 1 (sb.map WF) true 0] [Blk.arr 1 (sb.map WF) true 0]=true:=WC fun v hv=>by
   obtain ⟨r,_,rfl⟩:=List.mem_map.1 hv
   simp [WF,same,D6]
  refine sameH_iff.2 fun B hB=>?_
  simp only [List.cons_append,List.nil_append,List.mem_cons,List.not_mem_nil,or_false] at hB
  rcases hB with rfl | rfl | rfl | rfl | rfl | rfl | rfl | rfl
  ·simp [Qj,sameL,same]
  ·exact hr _
  ·exact hr _
  ·exact hq
  ·simp [Qj,sameL,same]
  ·exact ZN _
  ·exact ZN _
  ·exact ZN _
 have s11:=Qgs 0 (R0.map Qb) pa pb H5 0 n 2 3 (n-1) (Wa d (QI d)) 6 (WJ d).length (Wa d (WJ d)) (Wa sb (QI sb)) a b (y8:=.i ((n-1:Nat):Int)) (lp rfl) (m27 _ ⟨by omega,by omega⟩ ha) (lp rfl) (m27 _ ⟨by omega,by omega⟩ hb) (by
  refine rcl (lp rfl) (lp rfl) (Xa pb) ?_ ?_ rfl <;> exact hS5)
 have k23:=m23 (H:=H5) (v:=.sl 2 0 n none n 1) hM (by rw [hH5];exact ar _) han hbn
 rw [show H5++[bI (WP d a b)]=H6 by rw [hH5,hH6];rfl,show H5.length=8 by rw [hH5];rfl] at k23
 have s12:=Qgt 0 (R0.map Qb) pa pb H5 0 n 2 3 (n-1) (Wa d (QI d)) 6 (WJ d).length (Wa d (WJ d)) (Wa sb (QI sb)) a b 8 _ _ (y8:=.i ((n-1:Nat):Int)) k23
 have hra:=hM.ok.2.1 a han
 have lr:Qh Tp H6 23 (.ptr 2 a 0 n)=some (.imm .own 1 ((d.getD a []).map hvI)):=Qv (b:=2) (k:=1) (mx:=0) (els:=d.map Zk) (w:=true) (by rw [hH6];rfl) (by rw [qF,hdl]) (by rw [qD,qE han];simp [qG,qE han,Zk]) rfl QdZ Qd0
 have s13:=Qgu 0 (R0.map Qb) pa pb H6 0 n 2 3 (n-1) (Wa d (QI d)) 6 (WJ d).length (Wa d (WJ d)) (Wa sb (QI sb)) a b 8 (WP d a b).length (at2 d a b) 0 [] (y8:=.i ((n-1:Nat):Int)) (by rw [Qn (by omega) (by omega)];omega) (by omega) (ix2 (by omega)) lr (gxo (by omega)) (QoB _ _) rfl
 have s14:=Qgv 0 (R0.map Qb) pa pb H6 0 n 2 3 (n-1) (Wa d (QI d)) 6 (WJ d).length (Wa d (WJ d)) (Wa sb (QI sb)) a b 8 (WP d a b).length (at2 d a b) (y8:=.i ((n-1:Nat):Int))
 have s15:=Qgw 0 (R0.map Qb) pa pb H6 0 n 2 3 (n-1) (Wa d (QI d)) 6 (WJ d).length (Wa d (WJ d)) (Wa sb (QI sb)) a b 8 (WP d a b).length (at2 d a b) 0 (y8:=.i ((n-1:Nat):Int))
 have hwl:1≤(WP d a b).length:=by rw [WP,qI];omega
 have hb8:H6[8]?=some (bI (WP d a b)):=by rw [hH6];rfl
 have s16:=Qd4 (rw:=R0.map Qb) (pa:=pa) (pb:=pb) (d:=d) (n:=n) (a:=a) (b:=b) (bw:=8) (lw:=at2 d a b) (H:=H6) (w:=WP d a b) hM.ok hdl (by rw [← hdl];exact win) ⟨hwl,by omega⟩ (by rw [hH6];rfl) hb8
 have hwp:qA.wrap (((WP d a b).length:Int)-1)=(((WP d a b).length-1:Nat):Int):=QJ (by omega) (by omega)
 have hl0:=ldg hb8 rfl (k:=0) (by omega)
 have hl9:=ldg hb8 rfl (k:=(WP d a b).length-1) (by omega)
 rw [QbA _ (by intro e;rw [e] at hwl;simp at hwl),w2] at hl9
 have s16':=lpi (e0:=(Q8 (.a (R0.map Qb)) (.agg [.i pa,.i pb]) (.q 0) (.bool false) (.i (n:Int)) (.s 2 n) (.s 3 (n-1)) (.i ((n-1:Nat):Int)) (.bool true) (.i 0) (.i (Wa d (QI d))) (.i 0) (.sl 6 0 (WJ d).length none (WJ d).length 1) (.i 0) (.i (Wa d (WJ d))) (.i 0) (.i (Wa sb (QI sb))) (.i 0) (.i (a:Int)) (.i (b:Int)) (.sl 8 0 (WP d a b).length none (WP d a b).length 1) (.i (at2 d a b)) (.i 0) (.i (pS d (WP d a b) 0)) (.i (0:Int)))) s16 (b:=sn 524276 B14)
 have s17:=Qgz 0 (R0.map Qb) pa pb H6 n 2 a b 8 (WP d a b).length (at2 d a b) (pS d (WP d a b) ((WP d a b).length-1)) (y28:=.i (((WP d a b).length-1:Nat):Int)) (by omega) (ixg (k:=0) (by omega)) hl0 rfl (by rw [hwp,qB];exact ixg (by omega)) (by rw [hwp,qB];exact hl9) rfl (by rw [QdR,w1])
 rw [← hH1] at hloop
 refine ⟨_,_,sq (s1) (sq (s2) (sq (s3) (sq (s4) (sq (sq (s5) (bke (c:=sn 125 B14) (hloop)) (c:=sn 62 B14)) (sq (s6) (sq (s7) (sq (s8) (sq (s9) (sq (s10) (sq (s11) (sq (s12) (sq (s13) (sq (s14) (sq (sq (s15) (bke (c:=sn 131069 B14) (s16')) (c:=sn 65534 B14)) (s17) (c:=sn 32767 B14)) (c:=sn 16383 B14)) (c:=sn 8191 B14)) (c:=sn 4095 B14)) (c:=sn 2047 B14)) (c:=sn 1023 B14)) (c:=sn 511 B14)) (c:=sn 255 B14)) (c:=sn 127 B14)) (c:=sn 63 B14)) (c:=sn 31 B14)) (c:=sn 15 B14)) (c:=sn 7 B14)) (c:=sn 3 B14)) (c:=B14),rfl⟩
end Go.Proofs.Ytlendaofkmhgmaa
end
section
namespace Go.HL
open Go.ChangeShapes Go.WideShapes Go.ChangeAt Go.RowKit Go.Deep
set_option linter.unusedSectionVars false
open Go.Proofs.Try renaming prog → Tp
open Go.HL.HV renaming undef → Ud
theorem Qg5 (w:World) (r:Nat):Qg Ctx.nil w.heap.size false r:=by
 refine ⟨fun hM=>?_,by simp⟩
 obtain ⟨b,y,h1,_,_⟩:=M_iff.1 hM
 simp [Ctx.nil] at h1
theorem QaN {w:World} {a:Addr} {v:Value} (h:w.cell? a=some v):a.block<w.heap.size:=by
 rcases Nat.lt_or_ge a.block w.heap.size with hl | hl
 ·exact hl
 ·have:w.heap[a.block]?=none:=by simp [hl]
  simp [World.cell?,this] at h
theorem SI {H:Type} {enc:TypeId×Value→H} {P:Program} {W:World} {base fuel:Nat} {sp:Nat→Bool} {held:Bool} {t q:TypeId} {cs:List Value} {x:DataW H×List MemPlace} (ht:P.underlying t=some (.slice q)) (hq:P.underlying q=some (.int .i64)) (cq:P.cellsOf q=1)
  (hf:DataW.trod enc P W base sp held fuel t cs=some x):∃(l:List Int) (v:Value),cs=[v]∧V W (Qg Ctx.nil W.heap.size) Ctx.nil (.imm .arg 1 (l.map hvI)) v:=by
 rcases open_slice ht hf with ⟨h0,_⟩ | ⟨a',len,cap,m,n,D,Pl,h0,hb,hl,hm,hmm,hx,hel⟩
 ·exact ⟨[],_,h0,.imm .arg 1 [] none 0 (fun _=>.bool false) (by simp) (by simp) (by simp) (by simp) (by simp) (by simp)⟩
 ·subst h0
  have hlm:len≤m:=by rw [hmm];split <;> omega
  have each:∀i,i<len→∃z:Int,W.cell? (a'.add i)=some (.int .i64 z):=by
   intro i hi
   obtain ⟨cs',h1,h2⟩:=hel i (by omega)
   rw [cq] at h1
   obtain ⟨_,hlen,hcell⟩:=World.cells?_some h1
   match cs',hlen with
   | [v0],_ =>
    obtain ⟨z0,e0,_,_⟩:=DataW.trod_int hq h2
    simp at e0
    subst e0
    have c0:=hcell 0 (by omega)
    rw [add_add] at c0
    exact ⟨z0,by simpa using c0⟩
  obtain ⟨f,hf⟩:=choose_lt each
  refine ⟨(qC len).map f,_,rfl,?_⟩
  have hlen:(((qC len).map f).map hvI).length=len:=by simp
  have key:=V.imm (w:=W) (ok:=Qg Ctx.nil W.heap.size) (c:=Ctx.nil) .arg 1 (((qC len).map f).map hvI) (some a') cap (fun j=>.int .i64 (f j))
   (by rw [hlen];exact hl) (by simp) ?_ ?_ ?_ ?_
  ·rw [hlen] at key;exact key
  ·intro hne
   have h0:0<len:=by
    rcases Nat.eq_zero_or_pos len with h | h
    ·subst h;simp at hne
    ·exact h
   obtain ⟨b,off,spot⟩:=a'
   have hspot:spot=none:=by simpa [Addr.add] using World.cell?_spot (hf 0 h0)
   subst hspot
   refine ⟨b,off,rfl,by simpa [Addr.add] using QaN (hf 0 h0),Qg5 W b,fun j hj=>?_⟩
   rw [hlen] at hj
   have c0:=hf j (by omega)
   rw [add_plain] at c0
   exact c0
  ·intro v hv
   obtain ⟨p,_,rfl⟩:=List.mem_map.1 hv
   rfl
  ·intro v hv
   obtain ⟨p,_,rfl⟩:=List.mem_map.1 hv
   rfl
  ·intro i v j x hi hj
   have hil:i<len:=by have:=Qd hi;rw [hlen] at this;exact this
   have:v=hvI (f i):=by
    rw [qD,qD,qH hil] at hi
    simpa using hi.symm
   subst this
   have hjx:j<1:=Qd hj
   match j,hjx,hj with
   | 0,_,hj =>
    simp [hvI,cellsOf] at hj
    subst hj
    have e1:i*1+0=i:=by omega
    rw [e1]
    exact V.int _ _
def UP (r:List Int):HV:=.imm .arg 1 (r.map hvI)
theorem SJ {H:Type} {enc:TypeId×Value→H} {P:Program} {W:World} {base fuel:Nat} {sp:Nat→Bool} {held:Bool} {s t q:TypeId} {cs:List Value} {x:DataW H×List MemPlace} (hs:P.underlying s=some (.slice t)) (ct:P.cellsOf t=1) (ht:P.underlying t=some (.slice q)) (hq:P.underlying q=some (.int .i64)) (cq:P.cellsOf q=1)
  (hf:DataW.trod enc P W base sp held fuel s cs=some x):∃(R:List (List Int)) (v:Value),cs=[v]∧V W (Qg Ctx.nil W.heap.size) Ctx.nil (.imm .arg 1 (R.map UP)) v:=by
 rcases open_slice hs hf with ⟨h0,_⟩ | ⟨a',len,cap,m,n,D,Pl,h0,hb,hl,hm,hmm,hx,hel⟩
 ·exact ⟨[],_,h0,.imm .arg 1 [] none 0 (fun _=>.bool false) (by simp) (by simp) (by simp) (by simp) (by simp) (by simp)⟩
 ·subst h0
  have hlm:len≤m:=by rw [hmm];split <;> omega
  have each:∀i,i<len→∃p:List Int×Value,W.cell? (a'.add i)=some p.2∧V W (Qg Ctx.nil W.heap.size) Ctx.nil (UP p.1) p.2:=by
   intro i hi
   obtain ⟨cs',h1,h2⟩:=hel i (by omega)
   rw [ct,Nat.mul_one] at h1
   obtain ⟨_,hlen,hcell⟩:=World.cells?_some h1
   obtain ⟨l,v,rfl,hV⟩:=SI ht hq cq h2
   have c0:=hcell 0 (by omega)
   rw [add_add] at c0
   exact ⟨(l,v),by simpa using c0,hV⟩
  obtain ⟨f,hf⟩:=choose_lt each
  refine ⟨(qC len).map fun i=>(f i).1,_,rfl,?_⟩
  have hlen:(((qC len).map fun i=>(f i).1).map UP).length=len:=by simp
  have key:=V.imm (w:=W) (ok:=Qg Ctx.nil W.heap.size) (c:=Ctx.nil) .arg 1 (((qC len).map fun i=>(f i).1).map UP) (some a') cap (fun j=>(f j).2)
   (by rw [hlen];exact hl) (by simp) ?_ ?_ ?_ ?_
  ·rw [hlen] at key;exact key
  ·intro hne
   have h0:0<len:=by
    rcases Nat.eq_zero_or_pos len with h | h
    ·subst h;simp at hne
    ·exact h
   obtain ⟨b,off,spot⟩:=a'
   have hspot:spot=none:=by simpa [Addr.add] using World.cell?_spot (hf 0 h0).1
   subst hspot
   refine ⟨b,off,rfl,by simpa [Addr.add] using QaN (hf 0 h0).1,Qg5 W b,fun j hj=>?_⟩
   rw [hlen,Nat.mul_one] at hj
   have c0:=(hf j hj).1
   rw [add_plain] at c0
   exact c0
  ·intro v hv
   obtain ⟨p,_,rfl⟩:=List.mem_map.1 hv
   rfl
  ·intro v hv
   obtain ⟨p,_,rfl⟩:=List.mem_map.1 hv
   rfl
  ·intro i v j x hi hj
   have hil:i<len:=by have:=Qd hi;rw [hlen] at this;exact this
   have:v=UP (f i).1:=by
    rw [qD,qD,qH hil] at hi
    simpa using hi.symm
   subst this
   have hjx:j<1:=Qd hj
   obtain rfl:j=0:=by omega
   simp [UP,cellsOf] at hj
   subst hj
   have e1:i*1+0=i:=by omega
   rw [e1]
   exact (hf i hil).2
theorem CS {H:Type} {enc:TypeId×Value→H} {P:Program} {W:World} {base:Nat} {s t q:TypeId} {v:Value} {d:DataW H} {ps:List MemPlace} (hs:P.underlying s=some (.slice t)) (ct:P.cellsOf t=1) (ht:P.underlying t=some (.slice q)) (hq:P.underlying q=some (.int .i64)) (cq:P.cellsOf q=1)
  (hval:Value.okWide P W .any base s v) (hd:DataW.Trod enc P W 0 (fun _=>true) true s v d ps):∃R:List (List Int),V W (Qg Ctx.nil W.heap.size) Ctx.nil (.imm .arg 1 (R.map UP)) v:=by
 obtain ⟨a,len,cap,rfl⟩:=okWide_slice hs hval
 obtain ⟨fuel,hf⟩:=hd
 obtain ⟨R,v,hv,h⟩:=SJ hs ct ht hq cq hf
 simp [Value.cells] at hv
 subst hv
 exact ⟨R,h⟩
theorem CT {H:Type} {enc:TypeId×Value→H} {P:Program} {W:World} {base:Nat} {t q:TypeId} {v:Value} {d:DataW H} {ps:List MemPlace} (ht:P.underlying t=some (.array 2 q)) (hq:P.underlying q=some (.int .i64)) (ct:P.cellsOf t=2) (cq:P.cellsOf q=1)
  (hval:Value.okWide P W .any base t v) (hd:DataW.Trod enc P W 0 (fun _=>true) true t v d ps):∃a b:Int,V W (Qg Ctx.nil W.heap.size) Ctx.nil (.agg [.int .i64 a,.int .i64 b]) v:=by
 unfold Value.okWide at hval
 simp only [ht] at hval
 obtain ⟨cs,rfl,hsz,_⟩:=hval
 rw [ct] at hsz
 obtain ⟨fuel,hf⟩:=hd
 obtain ⟨xs,k,_,_,_,hxl,hxs⟩:=DataW.trod_array ht hf
 have g0:=hxs 0 (by omega)
 have g1:=hxs 1 (by omega)
 rw [cq] at g0 g1
 have hx0:xs[0]?=some xs[0]:=qE (by omega)
 have hx1:xs[1]?=some xs[1]:=qE (by omega)
 rw [hx0] at g0
 rw [hx1] at g1
 obtain ⟨l⟩:=cs
 simp [Value.cells] at g0 g1 hsz
 obtain ⟨v0,v1,rfl⟩:∃v0 v1,l=[v0,v1]:=by
  match l,hsz with
  | [a,b],_=>exact ⟨a,b,rfl⟩
 obtain ⟨z0,e0,_,_⟩:=DataW.trod_int hq g0
 obtain ⟨z1,e1,_,_⟩:=DataW.trod_int hq g1
 have f0:v0=.int .i64 z0:=by simpa using e0
 have f1:v1=.int .i64 z1:=by simpa using e1
 subst f0;subst f1
 refine ⟨z0,z1,V.agg _ _ rfl (fun v hv=>?_) fun i v r h1 h2=>?_⟩
 ·simp only [List.mem_cons,List.not_mem_nil,or_false] at hv
  rcases hv with rfl | rfl <;> rfl
 ·match i,h1,h2 with
  | 0,h1,h2=>simp at h1 h2;subst h1;subst h2;exact V.int _ _
  | 1,h1,h2=>simp at h1 h2;subst h1;subst h2;exact V.int _ _
end Go.HL
end
